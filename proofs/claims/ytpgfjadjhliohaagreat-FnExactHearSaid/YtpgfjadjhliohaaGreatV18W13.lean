/- W11, W12, W13. -/
import Derived.Test.YtpgfjadjhliohaaGreatV18W4
import Derived.Test.YtpgfjadjhliohaaGreatV18W10
section
namespace Go.Dat
open Go.Abs
def OwP (s : Sh) (h : AHeap) (pa : Option Addr) (pc : Nat) (xs : List s.T) (i : Nat) (g : AHeap) : Prop :=
  i ≤ xs.length ∧ ((pa = none ∧ pc = 0 ∧ xs = [] ∧ g = h ∧ h.wf) ∨ ∃ lo rows0 rows idss, pa = some ⟨lo, 0, some s.cells⟩ ∧ OwI s h lo xs rows0 i g rows idss)
theorem OwP.le {s : Sh} {h : AHeap} {pa : Option Addr} {pc : Nat} {xs : List s.T} {i : Nat} {g : AHeap} (I : OwP s h pa pc xs i g) : h.Le g := by
  obtain ⟨_, ⟨_, _, _, e, _⟩ | ⟨lo, rows0, rows, idss, _, I⟩⟩ := I
  · rw [e]; exact .refl _
  · exact I.le
theorem OwP.wf {s : Sh} {h : AHeap} {pa : Option Addr} {pc : Nat} {xs : List s.T} {i : Nat} {g : AHeap} (I : OwP s h pa pc xs i g) : g.wf := by
  obtain ⟨_, ⟨_, _, _, e, w⟩ | ⟨lo, rows0, rows, idss, _, I⟩⟩ := I
  · rw [e]; exact w
  · exact I.wf
theorem OwP.row {s : Sh} {h : AHeap} {pa : Option Addr} {pc : Nat} {xs : List s.T} {i : Nat} {g : AHeap} {y : s.T} (I : OwP s h pa pc xs i g) (hy : xs[i]? = some y) :
    ∃ lo rows row, pa = some ⟨lo, 0, some s.cells⟩ ∧ g.get lo = some ⟨rows, s.cells, true⟩ ∧ rows[i]? = some row ∧ s.rd h y row ∧ g.ld lo (0 + ((i : Nat) : Int).toNat) 0 s.cells = some row ∧
      ∀ (g1 : AHeap) (cs : List Value) (js : List Nat), g.Le g1 → g1.wf → s.rn g1 y cs js → Fresh g.n g1.n js → OwP s h pa pc xs (i + 1) (g1.put lo (some ⟨rows.set i cs, s.cells, true⟩)) := by
  obtain ⟨hi, ⟨_, _, rfl, _, _⟩ | ⟨lo, rows0, rows, idss, e, I⟩⟩ := I
  · cases hy
  · obtain ⟨row, hr, rd, hld⟩ := I.row hy
    refine ⟨lo, rows, row, e, I.get, hr, rd, by rw [show 0 + ((i : Nat) : Int).toNat = i by omega]; exact hld, fun g1 cs js le wf rn fj => ?_⟩
    exact ⟨(List.getElem?_eq_some_iff.1 hy).1, .inr ⟨lo, rows0, _, _, e, I.step hy le wf rn fj⟩⟩
theorem OwP.fin {s : Sh} {h : AHeap} {pa : Option Addr} {pc : Nat} {xs : List s.T} {g : AHeap} (I : OwP s h pa pc xs xs.length g) : ∃ js, Sn g s xs (.slice pa xs.length pc) js ∧ Fresh h.n g.n js := by
  obtain ⟨_, ⟨rfl, rfl, rfl, _, _⟩ | ⟨lo, rows0, rows, idss, rfl, I⟩⟩ := I
  · exact ⟨[], Sn.nil, .nil⟩
  · exact ⟨_, I.sn, I.fr⟩
theorem OwP.finB {s : Sh} {h : AHeap} {pa : Option Addr} {pc : Nat} {xs : List s.T} {g : AHeap} (I : OwP s h pa pc xs xs.length g) (hc : pc = 0 ∨ pc = xs.length + 1) : ∃ js, SoB s h g pa xs.length pc xs js := by
  obtain ⟨_, ⟨rfl, rfl, rfl, rfl, hw⟩ | ⟨lo, rows0, rows, idss, rfl, I⟩⟩ := I
  · exact ⟨[], SoB.nil hw⟩
  · exact ⟨lo :: idss.flatten, I.le, I.wf, I.wf0, rfl, I.fr, .inr ⟨lo, rows, idss, rfl, I.get, I.len, I.il, rfl, hc, I.done⟩⟩
theorem OwP.cpy {s : Sh} {h g : AHeap} {xs : List s.T} {l c : Nat} {rows : List (List Value)} (hw : h.wf) (C : Cpy s h g xs l c rows) : OwP s h (some ⟨l, 0, some s.cells⟩) c xs 0 g := ⟨Nat.zero_le _, .inr ⟨l, rows, rows, [], rfl, OwI.start hw C⟩⟩
theorem OwP.none {s : Sh} {h : AHeap} (hw : h.wf) : OwP s h Option.none 0 [] 0 h := ⟨Nat.le_refl _, .inl ⟨rfl, rfl, rfl, rfl, hw⟩⟩
theorem rn_chg {h : AHeap} {a b : Int} {ps : List proofSh.T} {v : Value} {js : List Nat} (s : Sn h proofSh ps v js) : Sh.rn h changeSh (a, b, ps) [.int .i64 a, .int .i64 b, v] js :=
  ⟨[.int .i64 a], [.int .i64 b, v], [], js, rfl, rfl, ⟨rfl, rfl⟩, [.int .i64 b], [v], [], js, rfl, rfl, ⟨rfl, rfl⟩, rn_sl.2 ⟨v, rfl, s⟩⟩
end Go.Dat
namespace Go.Proofs.YtpgfjadjhliohaaGreat
open Go.Abs Go.Dat
set_option maxRecDepth 100000
set_option maxHeartbeats 8000000
abbrev z3S : List Value := [.int .i64 (Int.ofNat 0), .int .i64 (Int.ofNat 0), .slice none 0 0]
def ccL (h : AHeap) (f v : Int) (a : Option Addr) (c : Nat) (ps : List proofSh.T) (pa : Option Addr) (pc : Nat) : LSpec where
  ι := Nat × AHeap
  κ := AHeap
  I := fun i => OwP proofSh h pa pc ps i.1 i.2
  μ := fun i => ps.length - i.1
  head := fun i => ⟨[(1, .complex .f32 0 0), (2, .complex .f32 1 0), (3, .slice pa ps.length pc), (9, .slice pa ps.length pc), (10, .int .i64 ps.length), (11, .int .i64 i.1)], [[.int .i64 f, .int .i64 v, .slice a ps.length c], z3S], i.2⟩
  post := fun g => ⟨[(1, .complex .f32 0 0), (2, .complex .f32 1 0), (3, .slice pa ps.length pc)], [[.int .i64 f, .int .i64 v, .slice a ps.length c], z3S], g⟩
  R := fun _ g => OwP proofSh h pa pc ps ps.length g
  ret := fun _ _ _ => False
abbrev Qlc := Option Addr
abbrev Qld := List (Sh.T proofSh)
abbrev Qle := Nat × AHeap
abbrev Qlf := List (Sh.T changeSh)
def Qkf (a b c d e : Prop) := a ∧ b ∧ c ∧ d ∧ e
def Qkg (a : AHeap) (b : Qlc) (c : Nat) (d : Qld) (e : AHeap) := OwP proofSh a b c d (List.length d) e
def Qkh := (0 : Nat)
def Qki (a : Int) := Value.int IntKind.i64 a
def Qkj := [Qki (Int.ofNat Qkh), Qki (Int.ofNat Qkh), Value.slice none Qkh Qkh]
def Qkk (a : Qlc) (b : Qld) (c : Nat) := Value.slice a (List.length b) c
def Qkl (a b : Int) (c : Qlc) (d : Qld) (e : Nat) := [Qki a, Qki b, Qkk c d e]
def Qkm := Value.complex FloatKind.f32 1 Qkh
def Qkn := Value.complex FloatKind.f32 Qkh Qkh
def Qko (a : Qld) := (↑(List.length a) : Int)
def Qkp (a : Qle) := (↑(Prod.fst a) : Int)
def Qkq (a : Qlc) (b c : Nat) (d : Qle) (e : Qld) (f : Prop) := a = some (Addr.mk b c (some 4)) ∧ 0 ≤ Qkp d ∧ Qkp d < Qko e ∧ f
def Qkr (a : FuncId) (b : List Value) (c : AHeap) (d : Qlc) (e f : Nat) (g : AHeap) (h : Prop) := ACall Tryz.prog a b c (Value.slice d e f) g ∧ h
def Qks (a : Qld) (b : Qle) := List.length a - Prod.fst b
def Qkt (a : AHeap) (b : Qlc) (c : Nat) (d : Qld) (e : Qle) := OwP proofSh a b c d (Prod.fst e) (Prod.snd e)
def Qku (a : Int) (b : Qle) := Qki (IntKind.wrap IntKind.i64 a) = Qki (Qkp b)
def Qkv (a : Qlc) (b c : Nat) := [Value.slice a b c]
def Qkw (a : Nat) (b : Qle) := a + Int.toNat (Qkp b)
def Qkx (a : List Value) := Value.agg (Array.mk a)
def Qky (a : Qle) := Qki 0 = Qki (Qkp a)
theorem cloneChg_spec (h : AHeap) (hw : h.wf) (f v : Int) (ps : List proofSh.T) (a : Option Addr) (c : Nat) (hx : Sl h proofSh ps (.slice a ps.length c)) (sm : (Sh.sl proofSh).small ps) :
    ∃ r h', ACall Tryz.prog 155 [.agg #[.int .i64 f, .int .i64 v, .slice a ps.length c]] h r h' ∧ h.Le h' ∧ h'.wf ∧ ∃ a' c' js, r = .agg #[.int .i64 f, .int .i64 v, .slice a' ps.length c'] ∧ Sn h' proofSh ps (.slice a' ps.length c') js ∧ Fresh h.n h'.n js := by
  have n1 : ps.length ≤ 1048576 := sm.1
  obtain ⟨pa, pc, g0, A0, I0⟩ : ∃ pa pc g0, ACall Tryz.prog 166 [.slice a ps.length c] h (.slice pa ps.length pc) g0 ∧ OwP proofSh h pa pc ps 0 g0 := by
    obtain ⟨_, g0, A0, ⟨rfl, rfl, eg⟩ | ⟨l, c', rows, rfl, C⟩⟩ := cloneProof_spec h hw a c ps hx n1
    · rw [eg] at A0; exact ⟨_, _, _, A0, OwP.none hw⟩
    · exact ⟨_, _, _, A0, OwP.cpy hw C⟩
  refine acall_q fun Q HQ => ?_
  refine acall_vc (fun _ => false) (fun _ => []) (fun _ => ccL h f v a c ps pa pc) mixed Tryz.func155 rfl rfl rfl (Nat.le_of_ble_eq_true rfl) ?_ ?_
  · (refine vc_mp (by kernel_rfl : (Qkf True True (Qkf True (∀ (i : Nat × AHeap), Qkt h pa pc ps i → bs (decide (Qkp i < Qko ps)) (∃ (l r : Nat), Qkq pa l r i ps (∃ (x x_1 : Int) (x_2 : ByteArray) (a_2 : Option Addr) (n c_1 : Nat), AHeap.ld (Prod.snd i) l (Qkw r i) Qkh 4 = some [Qki x, Qki x_1, Value.string x_2, Value.slice a_2 n c_1] ∧ (∃ (a_3 : Option Addr) (n_1 c_2 : Nat) (h' : AHeap), Qkr 167 (Qkv a_2 n c_1) (Prod.snd i) a_3 n_1 c_2 h' (∃ (l r : Nat), Qkq pa l r i ps (∃ (h'_1 : AHeap), AHeap.wr h' l (Qkw r i) 3 (Qkv a_3 n_1 c_2) = some h'_1 ∧ (∃ (j : Nat × AHeap), Qkf (Qkn = Qkn) (Qkm = Qkm) (Qkk pa ps pc = Qkk pa ps pc) (Qkk pa ps pc = Qkk pa ps pc) (Qkf (Qki (Qko ps) = Qki (Qko ps)) (Qku (Qkp i + 1) j) (Qkl f v a ps c = Qkl f v a ps c) (Qkj = Qkj) (Qkf (Prod.snd j = h'_1) (Qkt h pa pc ps j) (Qks ps j < Qks ps i) (∀ (k : AHeap), Qkg h pa pc ps k → Qkg h pa pc ps k) (∀ (v : Value) (h : AHeap), False → False))))))))) (∃ (j : AHeap), Qkf (Qkn = Qkn) (Qkm = Qkm) (Qkk pa ps pc = Qkk pa ps pc) (Qkl f v a ps c = Qkl f v a ps c) (Qkj = Qkj ∧ j = Prod.snd i ∧ Qkg h pa pc ps j))) True (True ∧ True) ((True ∧ True) ∧ True)) True (True ∧ True)) = _) ?_; delta Qkf Qkg Qkh Qki Qkj Qkk Qkl Qkm Qkn Qko Qkp Qkq Qkr Qks Qkt Qku Qkv Qkw)
    simp only [true_and, and_true]
    refine fun ⟨i, g⟩ I => ?_
    dsimp only at *
    refine bs_d (fun hlt => ?_) (fun hge => ⟨g, rfl, (show i = ps.length by have := I.1; omega) ▸ I⟩)
    obtain ⟨⟨pv, pq, po, pb⟩, hat⟩ : ∃ y : Int × Int × ByteArray × List Sh.int.T, ps[i]? = some y := ⟨_, List.getElem?_eq_getElem (by omega)⟩
    obtain ⟨lo, rows, row, e, hg, hr, rd, hld, stp⟩ := I.row hat
    obtain ⟨v1, rfl, s1⟩ := rd_proof.1 rd
    obtain ⟨a2, c2, rfl⟩ := s1.isSlice
    dsimp only at s1 hld
    have smb := sm.2 (pv, pq, po, pb) (List.mem_of_getElem? hat)
    obtain ⟨a3, c3, g2, js, A2, le2, w2, s2, f2⟩ := cloneInt_sn g I.wf a2 c2 pb (s1.mono I.le) smb.2.2.2.1
    refine ⟨lo, 0, e, Int.natCast_nonneg _, hlt, _, _, _, _, _, _, hld, _, _, _, _, A2, lo, 0, e, Int.natCast_nonneg _, hlt, _, ?_, (i + 1, _), by rw [wrap_i64 (by omega)]; rfl, rfl, stp g2 _ js le2 w2 (rn_prf s2) f2, by dsimp only; omega, fun _ h => h, fun _ _ h => h⟩
    rw [show 0 + ((i : Nat) : Int).toNat = i by omega]
    exact wr_field (le2.get _ _ hg) hr (by simp)
  (refine vc_mp (by kernel_rfl : (∃ (a_1 : Option Addr) (n c_1 : Nat) (h' : AHeap), Qkr 166 [Qkk a ps c] h a_1 n c_1 h' (∃ (i : Nat × AHeap), Qkf (Qkn = Qkn) (Qkm = Qkm) (Value.slice a_1 n c_1 = Qkk pa ps pc) (Value.slice a_1 n c_1 = Qkk pa ps pc) (Qkf (Qki (↑n : Int) = Qki (Qko ps)) (Qky i) (Qkl f v a ps c = Qkl f v a ps c) (Qkj = Qkj) (Prod.snd i = h' ∧ Qkt h pa pc ps i ∧ (∀ (j : AHeap), Qkg h pa pc ps j → Q (Qkx (Qkl f v pa ps pc)) j) ∧ (∀ (v : Value) (h : AHeap), False → Q v h))))) = _) ?_; delta Qkf Qkg Qkh Qki Qkj Qkk Qkl Qkm Qkn Qko Qkp Qkr Qkt Qkx Qky)
  refine ⟨_, _, _, _, A0, (0, g0), rfl, rfl, rfl, rfl, rfl, rfl, rfl, rfl, rfl, I0, fun g I => ?_, fun _ _ h => h.elim⟩
  obtain ⟨js, s, f⟩ := I.fin
  exact HQ _ _ ⟨I.le, I.wf, pa, pc, js, rfl, s, f⟩
def clL (h : AHeap) (cs : List changeSh.T) (pa : Option Addr) (pc : Nat) : LSpec where
  ι := Nat × AHeap
  κ := AHeap
  I := fun i => OwP changeSh h pa pc cs i.1 i.2
  μ := fun i => cs.length - i.1
  head := fun i => ⟨[(3, .slice pa cs.length pc), (8, .slice pa cs.length pc), (9, .int .i64 cs.length), (10, .int .i64 i.1)], [], i.2⟩
  post := fun g => ⟨[(3, .slice pa cs.length pc)], [], g⟩
  R := fun _ g => OwP changeSh h pa pc cs cs.length g
  ret := fun _ _ _ => False
def Qkz (a b : Prop) := Qkf True a b True True
def Ql0 (a : AHeap) (b : Qlc) (c : Nat) (d : Qlf) (e : AHeap) := OwP changeSh a b c d (List.length d) e
def Ql1 (a : Qlc) (b : Qlf) (c : Nat) := Value.slice a (List.length b) c
def Ql2 (a : Qlf) := (↑(List.length a) : Int)
def Ql3 (a : Qlc) (b c : Nat) (d : Qle) (e : Qlf) (f : Prop) := a = some (Addr.mk b c (some 3)) ∧ 0 ≤ Qkp d ∧ Qkp d < Ql2 e ∧ f
def Ql4 (a : Qlf) (b : Qle) := List.length a - Prod.fst b
def Ql5 (a : AHeap) (b : Qlc) (c : Nat) (d : Qlf) (e : Qle) := OwP changeSh a b c d (Prod.fst e) (Prod.snd e)
def Ql6 (a b : Int) (c : Qlc) (d e : Nat) := [Qki a, Qki b, Value.slice c d e]
theorem cloneChgs_sob (h : AHeap) (hw : h.wf) (cs : List changeSh.T) (a : Option Addr) (c : Nat) (hx : Sl h changeSh cs (.slice a cs.length c)) (sm : (Sh.sl changeSh).small cs) :
    ∃ r h', ACall Tryz.prog 138 [.slice a cs.length c] h r h' ∧ ∃ a' c' js, r = .slice a' cs.length c' ∧ SoB changeSh h h' a' cs.length c' cs js := by
  have n1 : cs.length ≤ 1048576 := sm.1
  obtain ⟨pa, pc, g0, A0, hc, I0⟩ : ∃ pa pc g0, ACall Tryz.prog 160 [.slice a cs.length c] h (.slice pa cs.length pc) g0 ∧ (pc = 0 ∨ pc = cs.length + 1) ∧ OwP changeSh h pa pc cs 0 g0 := by
    obtain ⟨_, g0, A0, ⟨rfl, rfl, eg⟩ | ⟨l, c', rows, rfl, C⟩⟩ := cloneChange_spec h hw a c cs hx n1
    · rw [eg] at A0; exact ⟨_, _, _, A0, .inl rfl, OwP.none hw⟩
    · exact ⟨_, _, _, A0, C.cap, OwP.cpy hw C⟩
  refine acall_q fun Q HQ => ?_
  refine acall_vc (fun _ => false) (fun _ => []) (fun _ => clL h cs pa pc) mixed Tryz.func138 rfl rfl rfl (Nat.le_of_ble_eq_true rfl) ?_ ?_
  · (refine vc_mp (by kernel_rfl : (Qkz True (Qkf True (∀ (i : Nat × AHeap), Ql5 h pa pc cs i → bs (decide (Qkp i < Ql2 cs)) (∃ (l r : Nat), Ql3 pa l r i cs (∃ (x x_1 : Int) (a : Option Addr) (n c : Nat), AHeap.ld (Prod.snd i) l (Qkw r i) Qkh 3 = some (Ql6 x x_1 a n c) ∧ (∃ (x_2 x_3 : Int) (a_1 : Option Addr) (n_1 c_1 : Nat) (h' : AHeap), ACall Tryz.prog 155 [Qkx (Ql6 x x_1 a n c)] (Prod.snd i) (Qkx (Ql6 x_2 x_3 a_1 n_1 c_1)) h' ∧ (∃ (l r : Nat), Ql3 pa l r i cs (∃ (h'_1 : AHeap), AHeap.wr h' l (Qkw r i) Qkh (Ql6 x_2 x_3 a_1 n_1 c_1) = some h'_1 ∧ (∃ (j : Nat × AHeap), Qkf (Ql1 pa cs pc = Ql1 pa cs pc) (Ql1 pa cs pc = Ql1 pa cs pc) (Qki (Ql2 cs) = Qki (Ql2 cs)) (Qku (Qkp i + 1) j) (Qkf (Prod.snd j = h'_1) (Ql5 h pa pc cs j) (Ql4 cs j < Ql4 cs i) (∀ (k : AHeap), Ql0 h pa pc cs k → Ql0 h pa pc cs k) (∀ (v : Value) (h : AHeap), False → False)))))))) (∃ (j : AHeap), Ql1 pa cs pc = Ql1 pa cs pc ∧ j = Prod.snd i ∧ Ql0 h pa pc cs j)) True (True ∧ True) ((True ∧ True) ∧ True))) = _) ?_; delta Qkf Qkh Qki Qkp Qku Qkw Qkx Qkz Ql0 Ql1 Ql2 Ql3 Ql4 Ql5 Ql6)
    simp only [true_and, and_true]
    refine fun ⟨i, g⟩ I => ?_
    dsimp only at *
    refine bs_d (fun hlt => ?_) (fun hge => ⟨g, rfl, (show i = cs.length by have := I.1; omega) ▸ I⟩)
    obtain ⟨⟨f, v, ps⟩, hat⟩ : ∃ y : Int × Int × List proofSh.T, cs[i]? = some y := ⟨_, List.getElem?_eq_getElem (by omega)⟩
    obtain ⟨lo, rows, row, e, hg, hr, rd, hld, stp⟩ := I.row hat
    obtain ⟨v1, rfl, s1⟩ := rd_change.1 rd
    obtain ⟨a2, c2, rfl⟩ := s1.isSlice
    dsimp only at s1 hld
    have smb := sm.2 (f, v, ps) (List.mem_of_getElem? hat)
    obtain ⟨_, g2, A2, le2, w2, a3, c3, js, rfl, s2, f2⟩ := cloneChg_spec g I.wf f v ps a2 c2 (s1.mono I.le) smb.2.2
    refine ⟨lo, 0, e, Int.natCast_nonneg _, hlt, _, _, _, _, _, hld, _, _, _, _, _, _, A2, lo, 0, e, Int.natCast_nonneg _, hlt, _, ?_, (i + 1, _), by rw [wrap_i64 (by omega)]; rfl, rfl, stp g2 _ js le2 w2 (rn_chg s2) f2, by dsimp only; omega, fun _ h => h, fun _ _ h => h⟩
    rw [show 0 + ((i : Nat) : Int).toNat = i by omega]
    exact wr_field (le2.get _ _ hg) hr (by simp)
  (refine vc_mp (by kernel_rfl : (∃ (a_1 : Option Addr) (n c_1 : Nat) (h' : AHeap), Qkr 160 [Ql1 a cs c] h a_1 n c_1 h' (∃ (i : Nat × AHeap), Qkf (Value.slice a_1 n c_1 = Ql1 pa cs pc) (Value.slice a_1 n c_1 = Ql1 pa cs pc) (Qki (↑n : Int) = Qki (Ql2 cs)) (Qky i) (Prod.snd i = h' ∧ Ql5 h pa pc cs i ∧ (∀ (j : AHeap), Ql0 h pa pc cs j → Q (Ql1 pa cs pc) j) ∧ (∀ (v : Value) (h : AHeap), False → Q v h)))) = _) ?_; delta Qkf Qki Qkp Qkr Qky Ql0 Ql1 Ql2 Ql5)
  refine ⟨_, _, _, _, A0, (0, g0), rfl, rfl, rfl, rfl, rfl, I0, fun g I => ?_, fun _ _ h => h.elim⟩
  obtain ⟨js, B⟩ := I.finB hc
  exact HQ _ _ ⟨pa, pc, js, rfl, B⟩
theorem cloneChgs_spec (h : AHeap) (hw : h.wf) (cs : List changeSh.T) (a : Option Addr) (c : Nat) (hx : Sl h changeSh cs (.slice a cs.length c)) (sm : (Sh.sl changeSh).small cs) :
    ∃ r h', ACall Tryz.prog 138 [.slice a cs.length c] h r h' ∧ h.Le h' ∧ h'.wf ∧ ∃ a' c' js, r = .slice a' cs.length c' ∧ Sn h' changeSh cs (.slice a' cs.length c') js ∧ Fresh h.n h'.n js := by
  obtain ⟨_, g, A, a', c', js, rfl, B⟩ := cloneChgs_sob h hw cs a c hx sm
  exact ⟨_, g, A, B.le, B.wf, a', c', js, rfl, B.sn, B.fr⟩
theorem cloneSay_spec (h : AHeap) (hw : h.wf) (k f v q : Int) (op : ByteArray) (cs : List changeSh.T) (a : Option Addr) (c : Nat) (hx : Sl h changeSh cs (.slice a cs.length c)) (sm : (Sh.sl changeSh).small cs) :
    ∃ r h', ACall Tryz.prog 97 [.agg #[.int .i64 k, .int .i64 f, .int .i64 v, .int .i64 q, .string op, .slice a cs.length c]] h r h' ∧ h.Le h' ∧ h'.wf ∧ ∃ a' c' js, r = .agg #[.int .i64 k, .int .i64 f, .int .i64 v, .int .i64 q, .string op, .slice a' cs.length c'] ∧ Sn h' changeSh cs (.slice a' cs.length c') js ∧ Fresh h.n h'.n js := by
  obtain ⟨_, g, A, le, w, a', c', js, rfl, s, fr⟩ := cloneChgs_spec h hw cs a c hx sm
  refine acall_q fun Q HQ => ?_
  refine acall_vc (fun _ => false) (fun _ => []) (fun _ => .none) mixed Tryz.func97 rfl rfl rfl (Nat.le_of_ble_eq_true rfl) (by refine vc_mp (by kernel_rfl : (True ∧ True ∧ True ∧ True) = _) ?_; simp only [and_self]) ?_
  (refine vc_mp (by kernel_rfl : (∃ (a_1 : Option Addr) (n c_1 : Nat) (h' : AHeap), Qkr 138 [Ql1 a cs c] h a_1 n c_1 h' (Q (Qkx [Qki k, Qki f, Qki v, Qki q, Value.string op, Value.slice a_1 n c_1]) h')) = _) ?_; delta Qki Qkr Qkx Ql1)
  exact ⟨_, _, _, _, A, HQ _ _ ⟨le, w, a', c', js, rfl, s, fr⟩⟩
def spfL (h : AHeap) (ps : List proofSh.T) (pa : Option Addr) (pc : Nat) : LSpec where
  ι := Nat × AHeap
  κ := AHeap
  I := fun i => OwP proofSh h pa pc ps i.1 i.2
  μ := fun i => ps.length - i.1
  head := fun i => ⟨[(3, .slice pa ps.length pc), (4, .int .i64 i.1)], [], i.2⟩
  post := fun g => ⟨[(3, .slice pa ps.length pc)], [], g⟩
  R := fun _ g => OwP proofSh h pa pc ps ps.length g
  ret := fun _ _ _ => False
def Ql7 (a : Nat) := some (Addr.mk a Qkh (some (Sh.cells proofSh)))
def Ql8 (a b : Prop) (c : Nat) (d : Prop) := a ∧ b ∧ c ≤ 140737488355328 ∧ d
def Ql9 (a : AHeap) (b : Nat) := AHeap.push a (AObj.mk List.nil b true)
def Qla (a : AHeap) (b : Nat) (c : List (List Value)) := AHeap.app (Ql9 a b) (Value.slice (some (Addr.mk (AHeap.n a) Qkh (some b))) Qkh 1) c b
theorem l13Proofs_spec (h : AHeap) (hw : h.wf) (ps : List proofSh.T) (a : Option Addr) (c : Nat) (hx : Sl h proofSh ps (.slice a ps.length c)) (sm : (Sh.sl proofSh).small ps) :
    ∃ r h', ACall Tryz.prog 129 [.slice a ps.length c] h r h' ∧ h.Le h' ∧ h'.wf ∧ ∃ a' c' js, r = .slice a' ps.length c' ∧ Sn h' proofSh ps (.slice a' ps.length c') js ∧ Fresh h.n h'.n js := by
  have n1 : ps.length ≤ 1048576 := sm.1
  obtain ⟨rows, e1, e2, e3, lo, pc, g0, e4, C⟩ := app_shallow (s := proofSh) hw hx
  have I0 := OwP.cpy hw C
  refine acall_q fun Q HQ => ?_
  refine acall_vc (fun _ => false) (fun _ => []) (fun _ => spfL h ps (some ⟨lo, 0, some proofSh.cells⟩) pc) mixed Tryz.func129 rfl rfl rfl (Nat.le_of_ble_eq_true rfl) ?_ ?_
  · (refine vc_mp (by kernel_rfl : (Qkz True (Qkz (∀ (i : Nat × AHeap), Qkt h (Ql7 lo) pc ps i → bs (decide (Qkp i < Qko ps)) (∃ (l r : Nat), Qkq (Ql7 lo) l r i ps (∃ (a : Option Addr) (n c : Nat), AHeap.ld (Ql9 (Prod.snd i) 1) l (Qkw r i) 3 1 = some (Qkv a n c) ∧ (∃ (xs : List (List Value)), Ql8 (rowsV (Ql9 (Prod.snd i) 1) (Value.slice a n c) = some xs) (List.all xs (fun (row : List Value) =>
  decide (List.length row = (1 : Nat)) &&
    List.all row fun (v : Value) =>
      match v with
      | Value.agg cells => false
      | Value.tuple cells => false
      | Value.complex k re im => false
      | Value.chan r => false
      | x => true) = true) ((Qkh + List.length xs) * 8) (∃ (a : Option Addr) (n c : Nat) (h' : AHeap), Qla (Prod.snd i) 1 xs = some (Prod.mk (Value.slice a n c) h') ∧ (∃ (l r : Nat), Qkq (Ql7 lo) l r i ps (∃ (h'_1 : AHeap), AHeap.wr h' l (Qkw r i) 3 (Qkv a n c) = some h'_1 ∧ (∃ (j : Nat × AHeap), Qkf (Qkk (Ql7 lo) ps pc = Qkk (Ql7 lo) ps pc) (Qku (Qkp i + 1) j) (Prod.snd j = h'_1) (Qkt h (Ql7 lo) pc ps j) (Qks ps j < Qks ps i ∧ (∀ (k : AHeap), Qkg h (Ql7 lo) pc ps k → Qkg h (Ql7 lo) pc ps k) ∧ (∀ (v : Value) (h : AHeap), False → False))))))))) (∃ (j : AHeap), Qkk (Ql7 lo) ps pc = Qkk (Ql7 lo) ps pc ∧ j = Prod.snd i ∧ Qkg h (Ql7 lo) pc ps j)) (True ∧ True ∧ True))) = _) ?_; delta Qkf Qkg Qkh Qki Qkk Qko Qkp Qkq Qks Qkt Qku Qkv Qkw Qkz Ql7 Ql8 Ql9 Qla)
    simp only [true_and, and_true]
    refine fun ⟨i, g⟩ I => ?_
    dsimp only at *
    refine bs_d (fun hlt => ?_) (fun hge => ⟨g, rfl, (show i = ps.length by have := I.1; omega) ▸ I⟩)
    obtain ⟨⟨pv, pq, po, pb⟩, hat⟩ : ∃ y : Int × Int × ByteArray × List Sh.int.T, ps[i]? = some y := ⟨_, List.getElem?_eq_getElem (by omega)⟩
    obtain ⟨lo', rows', row, e, hg, hr, rd, hld, stp⟩ := I.row hat
    cases e
    obtain ⟨v1, rfl, s1⟩ := rd_proof.1 rd
    obtain ⟨a2, c2, rfl⟩ := s1.isSlice
    dsimp only at s1 hld
    have smb := sm.2 (pv, pq, po, pb) (List.mem_of_getElem? hat)
    have hb : List.length (α := Int) pb ≤ 1048576 := smb.2.2.2.1
    obtain ⟨rows2, u1, u2, u3, l2, c3, g2, u4, C2⟩ := app_shallow (s := Sh.int) I.wf (s1.mono I.le)
    have lp := AHeap.Le.push I.wf ⟨[], 1, true⟩
    refine ⟨lo, 0, rfl, Int.natCast_nonneg _, hlt, _, _, _, ld_cells (k := 3) (m := 1) (lp.ld hld) (by simp), rows2, u1, u2, by rw [u3]; omega, _, _, _, g2, u4, lo, 0, rfl, Int.natCast_nonneg _, hlt, _, ?_, (i + 1, _), by rw [wrap_i64 (by omega)]; rfl, rfl, stp g2 _ [l2] C2.le C2.wf (rn_prf (C2.sn rfl)) ⟨by simp, fun z hz => by rw [List.mem_singleton.1 hz]; exact ⟨C2.new, C2.wf.lt C2.get⟩⟩, by dsimp only; omega, fun _ h => h, fun _ _ h => h⟩
    rw [show 0 + ((i : Nat) : Int).toNat = i by omega]
    exact wr_field (C2.le.get _ _ hg) hr (by simp)
  (refine vc_mp (by kernel_rfl : (∃ (xs : List (List Value)), Ql8 (rowsV (Ql9 h 4) (Qkk a ps c) = some xs) (List.all xs (fun (row : List Value) =>
  decide (List.length row = (4 : Nat)) &&
    List.all row fun (v : Value) =>
      match v with
      | Value.agg cells => false
      | Value.tuple cells => false
      | Value.complex k re im => false
      | Value.chan r => false
      | x => true) = true) ((Qkh + List.length xs) * 56) (∃ (a : Option Addr) (n c : Nat) (h' : AHeap), Qla h 4 xs = some (Prod.mk (Value.slice a n c) h') ∧ (∃ (i : Nat × AHeap), Qkf (Value.slice a n c = Qkk (Ql7 lo) ps pc) (Qky i) (Prod.snd i = h') (Qkt h (Ql7 lo) pc ps i) ((∀ (j : AHeap), Qkg h (Ql7 lo) pc ps j → Q (Qkk (Ql7 lo) ps pc) j) ∧ (∀ (v : Value) (h : AHeap), False → Q v h))))) = _) ?_; delta Qkf Qkg Qkh Qki Qkk Qkp Qkt Qky Ql7 Ql8 Ql9 Qla)
  refine ⟨rows, e1, e2, by rw [e3]; omega, _, _, _, g0, e4, (0, g0), rfl, rfl, rfl, I0, fun g I => ?_, fun _ _ h => h.elim⟩
  obtain ⟨js, s, f⟩ := I.fin
  exact HQ _ _ ⟨I.le, I.wf, _, pc, js, rfl, s, f⟩
def scgL (h : AHeap) (cs : List changeSh.T) (pa : Option Addr) (pc : Nat) : LSpec where
  ι := Nat × AHeap
  κ := AHeap
  I := fun i => OwP changeSh h pa pc cs i.1 i.2
  μ := fun i => cs.length - i.1
  head := fun i => ⟨[(3, .slice pa cs.length pc), (4, .int .i64 i.1)], [], i.2⟩
  post := fun g => ⟨[(3, .slice pa cs.length pc)], [], g⟩
  R := fun _ g => OwP changeSh h pa pc cs cs.length g
  ret := fun _ _ _ => False
def Qlb (a : Nat) := some (Addr.mk a Qkh (some (Sh.cells changeSh)))
theorem l13CopyChanges_sob (h : AHeap) (hw : h.wf) (cs : List changeSh.T) (a : Option Addr) (c : Nat) (hx : Sl h changeSh cs (.slice a cs.length c)) (sm : (Sh.sl changeSh).small cs) :
    ∃ r h', ACall Tryz.prog 71 [.slice a cs.length c] h r h' ∧ ∃ a' c' js, r = .slice a' cs.length c' ∧ SoB changeSh h h' a' cs.length c' cs js := by
  have n1 : cs.length ≤ 1048576 := sm.1
  obtain ⟨rows, e1, e2, e3, lo, pc, g0, e4, C⟩ := app_shallow (s := changeSh) hw hx
  have I0 := OwP.cpy hw C
  refine acall_q fun Q HQ => ?_
  refine acall_vc (fun _ => false) (fun _ => []) (fun _ => scgL h cs (some ⟨lo, 0, some changeSh.cells⟩) pc) mixed Tryz.func71 rfl rfl rfl (Nat.le_of_ble_eq_true rfl) ?_ ?_
  · (refine vc_mp (by kernel_rfl : (Qkz True (Qkz (∀ (i : Nat × AHeap), Ql5 h (Qlb lo) pc cs i → bs (decide (Qkp i < Ql2 cs)) (∃ (l r : Nat), Ql3 (Qlb lo) l r i cs (∃ (a : Option Addr) (n c : Nat), AHeap.ld (Prod.snd i) l (Qkw r i) 2 1 = some (Qkv a n c) ∧ (∃ (a_1 : Option Addr) (n_1 c_1 : Nat) (h' : AHeap), Qkr 129 (Qkv a n c) (Prod.snd i) a_1 n_1 c_1 h' (∃ (l r : Nat), Ql3 (Qlb lo) l r i cs (∃ (h'_1 : AHeap), AHeap.wr h' l (Qkw r i) 2 (Qkv a_1 n_1 c_1) = some h'_1 ∧ (∃ (j : Nat × AHeap), Qkf (Ql1 (Qlb lo) cs pc = Ql1 (Qlb lo) cs pc) (Qku (Qkp i + 1) j) (Prod.snd j = h'_1) (Ql5 h (Qlb lo) pc cs j) (Ql4 cs j < Ql4 cs i ∧ (∀ (k : AHeap), Ql0 h (Qlb lo) pc cs k → Ql0 h (Qlb lo) pc cs k) ∧ (∀ (v : Value) (h : AHeap), False → False)))))))) (∃ (j : AHeap), Ql1 (Qlb lo) cs pc = Ql1 (Qlb lo) cs pc ∧ j = Prod.snd i ∧ Ql0 h (Qlb lo) pc cs j)) (True ∧ True ∧ True))) = _) ?_; delta Qkf Qkh Qki Qkp Qkr Qku Qkv Qkw Qkz Ql0 Ql1 Ql2 Ql3 Ql4 Ql5 Qlb)
    simp only [true_and, and_true]
    refine fun ⟨i, g⟩ I => ?_
    dsimp only at *
    refine bs_d (fun hlt => ?_) (fun hge => ⟨g, rfl, (show i = cs.length by have := I.1; omega) ▸ I⟩)
    obtain ⟨⟨f, v, ps⟩, hat⟩ : ∃ y : Int × Int × List proofSh.T, cs[i]? = some y := ⟨_, List.getElem?_eq_getElem (by omega)⟩
    obtain ⟨lo', rows', row, e, hg, hr, rd, hld, stp⟩ := I.row hat
    cases e
    obtain ⟨v1, rfl, s1⟩ := rd_change.1 rd
    obtain ⟨a2, c2, rfl⟩ := s1.isSlice
    dsimp only at s1 hld
    have smb := sm.2 (f, v, ps) (List.mem_of_getElem? hat)
    obtain ⟨_, g2, A2, le2, w2, a3, c3, js, rfl, s2, f2⟩ := l13Proofs_spec g I.wf ps a2 c2 (s1.mono I.le) smb.2.2
    refine ⟨lo, 0, rfl, Int.natCast_nonneg _, hlt, _, _, _, ld_cells (k := 2) (m := 1) hld (by simp), _, _, _, _, A2, lo, 0, rfl, Int.natCast_nonneg _, hlt, _, ?_, (i + 1, _), by rw [wrap_i64 (by omega)]; rfl, rfl, stp g2 _ js le2 w2 (rn_chg s2) f2, by dsimp only; omega, fun _ h => h, fun _ _ h => h⟩
    rw [show 0 + ((i : Nat) : Int).toNat = i by omega]
    exact wr_field (le2.get _ _ hg) hr (by simp)
  (refine vc_mp (by kernel_rfl : (∃ (xs : List (List Value)), Ql8 (rowsV (Ql9 h 3) (Ql1 a cs c) = some xs) (List.all xs (fun (row : List Value) =>
  decide (List.length row = (3 : Nat)) &&
    List.all row fun (v : Value) =>
      match v with
      | Value.agg cells => false
      | Value.tuple cells => false
      | Value.complex k re im => false
      | Value.chan r => false
      | x => true) = true) ((Qkh + List.length xs) * 40) (∃ (a : Option Addr) (n c : Nat) (h' : AHeap), Qla h 3 xs = some (Prod.mk (Value.slice a n c) h') ∧ (∃ (i : Nat × AHeap), Qkf (Value.slice a n c = Ql1 (Qlb lo) cs pc) (Qky i) (Prod.snd i = h') (Ql5 h (Qlb lo) pc cs i) ((∀ (j : AHeap), Ql0 h (Qlb lo) pc cs j → Q (Ql1 (Qlb lo) cs pc) j) ∧ (∀ (v : Value) (h : AHeap), False → Q v h))))) = _) ?_; delta Qkf Qkh Qki Qkp Qky Ql0 Ql1 Ql5 Ql8 Ql9 Qla Qlb)
  refine ⟨rows, e1, e2, by rw [e3]; omega, _, _, _, g0, e4, (0, g0), rfl, rfl, rfl, I0, fun g I => ?_, fun _ _ h => h.elim⟩
  obtain ⟨js, B⟩ := I.finB C.cap
  exact HQ _ _ ⟨_, pc, js, rfl, B⟩
theorem l13CopyChanges_spec (h : AHeap) (hw : h.wf) (cs : List changeSh.T) (a : Option Addr) (c : Nat) (hx : Sl h changeSh cs (.slice a cs.length c)) (sm : (Sh.sl changeSh).small cs) :
    ∃ r h', ACall Tryz.prog 71 [.slice a cs.length c] h r h' ∧ h.Le h' ∧ h'.wf ∧ ∃ a' c' js, r = .slice a' cs.length c' ∧ Sn h' changeSh cs (.slice a' cs.length c') js ∧ Fresh h.n h'.n js := by
  obtain ⟨_, g, A, a', c', js, rfl, B⟩ := l13CopyChanges_sob h hw cs a c hx sm
  exact ⟨_, g, A, B.le, B.wf, a', c', js, rfl, B.sn, B.fr⟩
theorem l13CopySay_spec (h : AHeap) (hw : h.wf) (k f v q : Int) (op : ByteArray) (cs : List changeSh.T) (a : Option Addr) (c : Nat) (hx : Sl h changeSh cs (.slice a cs.length c)) (sm : (Sh.sl changeSh).small cs) :
    ∃ r h', ACall Tryz.prog 34 [.agg #[.int .i64 k, .int .i64 f, .int .i64 v, .int .i64 q, .string op, .slice a cs.length c]] h r h' ∧ h.Le h' ∧ h'.wf ∧ ∃ a' c' js, r = .agg #[.int .i64 k, .int .i64 f, .int .i64 v, .int .i64 q, .string op, .slice a' cs.length c'] ∧ Sn h' changeSh cs (.slice a' cs.length c') js ∧ Fresh h.n h'.n js := by
  obtain ⟨_, g, A, le, w, a', c', js, rfl, s, fr⟩ := l13CopyChanges_spec h hw cs a c hx sm
  refine acall_q fun Q HQ => ?_
  refine acall_vc (fun _ => false) (fun _ => []) (fun _ => .none) mixed Tryz.func34 rfl rfl rfl (Nat.le_of_ble_eq_true rfl) (by refine vc_mp (by kernel_rfl : (True ∧ True ∧ True ∧ True) = _) ?_; simp only [and_self]) ?_
  (refine vc_mp (by kernel_rfl : (∃ (a_1 : Option Addr) (n c_1 : Nat) (h' : AHeap), Qkr 71 [Ql1 a cs c] h a_1 n c_1 h' (Q (Qkx [Qki k, Qki f, Qki v, Qki q, Value.string op, Value.slice a_1 n c_1]) h')) = _) ?_; delta Qki Qkr Qkx Ql1)
  exact ⟨_, _, _, _, A, HQ _ _ ⟨le, w, a', c', js, rfl, s, fr⟩⟩
end Go.Proofs.YtpgfjadjhliohaaGreat
end
section
namespace Go.Dat
open Go.Abs
theorem rnSay {h : AHeap} {k f v q : Int} {op : ByteArray} {cs : List changeSh.T} {w : Value} {js : List Nat} (s : Sn h changeSh cs w js) : Sh.rn h saySh (k, f, v, q, op, cs) [.int .i64 k, .int .i64 f, .int .i64 v, .int .i64 q, .string op, w] js :=
  ⟨[.int .i64 k], [.int .i64 f, .int .i64 v, .int .i64 q, .string op, w], [], js, rfl, rfl, ⟨rfl, rfl⟩, [.int .i64 f], [.int .i64 v, .int .i64 q, .string op, w], [], js, rfl, rfl, ⟨rfl, rfl⟩, [.int .i64 v], [.int .i64 q, .string op, w], [], js, rfl, rfl, ⟨rfl, rfl⟩, [.int .i64 q], [.string op, w], [], js, rfl, rfl, ⟨rfl, rfl⟩, [.string op], [w], [], js, rfl, rfl, ⟨rfl, rfl⟩, rn_sl.2 ⟨w, rfl, s⟩⟩
theorem so_empty {s : Sh} {h : AHeap} (hw : h.wf) : OXok s h ⟨some ⟨h.n, 0, some s.cells⟩, 1, [], [h.n], h.push ⟨[], s.cells, true⟩⟩ := by
  refine ⟨.push hw _, hw.push _, hw, rfl, ⟨by simp, fun z hz => by rw [List.mem_singleton.1 hz]; exact ⟨Nat.le_refl _, Nat.lt_succ_self _⟩⟩, .inr ⟨h.n, [], [], rfl, AHeap.get_push_eq, rfl, rfl, rfl, .inr rfl, fun i x row js h1 => by cases h1⟩⟩
end Go.Dat
namespace Go.Proofs.YtpgfjadjhliohaaGreat
open Go.Abs Go.Dat
set_option maxRecDepth 100000
set_option maxHeartbeats 8000000
end Go.Proofs.YtpgfjadjhliohaaGreat
end
section
namespace Go.Proofs.YtpgfjadjhliohaaGreat
open Go.Abs Go.Dat
set_option maxRecDepth 100000
set_option maxHeartbeats 8000000
end Go.Proofs.YtpgfjadjhliohaaGreat
end
