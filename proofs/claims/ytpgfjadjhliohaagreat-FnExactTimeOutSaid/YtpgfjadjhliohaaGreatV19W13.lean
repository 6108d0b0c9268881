/- W11, W12, W13. -/
import Derived.Test.YtpgfjadjhliohaaGreatV19W4
import Derived.Test.YtpgfjadjhliohaaGreatV19W10
section
namespace Go.Dat
open Go.Abs
def OwP (s : Sh) (h : AHeap) (pa : Option Addr) (pc : Nat) (xs : List s.T) (i : Nat) (g : AHeap) : Prop :=
  i ≤ xs.length ∧ ((pa = none ∧ pc = 0 ∧ xs = [] ∧ g = h ∧ h.wf) ∨ ∃ lo rows0 rows idss, pa = some ⟨lo, 0, some s.cells⟩ ∧ OwI s h lo xs rows0 i g rows idss)
theorem OwP.le {s : Sh} {h : AHeap} {pa : Option Addr} {pc : Nat} {xs : List s.T} {i : Nat} {g : AHeap} (I : OwP s h pa pc xs i g) : h.Le g := by
  obtain ⟨_, ⟨_, _, _, e, _⟩ | ⟨lo, rows0, rows, idss, _, I⟩⟩ := I
  · rw [e]; exact .refl _
  · exact I.le
theorem OwP.wf {s : Sh} {h : AHeap} {pa : Option Addr} {pc : Nat} {xs : List s.T} {i : Nat} {g : AHeap} (I : OwP s h pa pc xs i g) : g.wf := by
  obtain ⟨_, ⟨_, _, _, e, w⟩ | ⟨lo, rows0, rows, idss, _, I⟩⟩ := I
  · rw [e]; exact w
  · exact I.wf
theorem OwP.row {s : Sh} {h : AHeap} {pa : Option Addr} {pc : Nat} {xs : List s.T} {i : Nat} {g : AHeap} {y : s.T} (I : OwP s h pa pc xs i g) (hy : xs[i]? = some y) :
    ∃ lo rows row, pa = some ⟨lo, 0, some s.cells⟩ ∧ g.get lo = some ⟨rows, s.cells, true⟩ ∧ rows[i]? = some row ∧ s.rd h y row ∧ g.ld lo (0 + ((i : Nat) : Int).toNat) 0 s.cells = some row ∧
      ∀ (g1 : AHeap) (cs : List Value) (js : List Nat), g.Le g1 → g1.wf → s.rn g1 y cs js → Fresh g.n g1.n js → OwP s h pa pc xs (i + 1) (g1.put lo (some ⟨rows.set i cs, s.cells, true⟩)) := by
  obtain ⟨hi, ⟨_, _, rfl, _, _⟩ | ⟨lo, rows0, rows, idss, e, I⟩⟩ := I
  · cases hy
  · obtain ⟨row, hr, rd, hld⟩ := I.row hy
    refine ⟨lo, rows, row, e, I.get, hr, rd, by rw [show 0 + ((i : Nat) : Int).toNat = i by omega]; exact hld, fun g1 cs js le wf rn fj => ?_⟩
    exact ⟨(List.getElem?_eq_some_iff.1 hy).1, .inr ⟨lo, rows0, _, _, e, I.step hy le wf rn fj⟩⟩
theorem OwP.fin {s : Sh} {h : AHeap} {pa : Option Addr} {pc : Nat} {xs : List s.T} {g : AHeap} (I : OwP s h pa pc xs xs.length g) : ∃ js, Sn g s xs (.slice pa xs.length pc) js ∧ Fresh h.n g.n js := by
  obtain ⟨_, ⟨rfl, rfl, rfl, _, _⟩ | ⟨lo, rows0, rows, idss, rfl, I⟩⟩ := I
  · exact ⟨[], Sn.nil, .nil⟩
  · exact ⟨_, I.sn, I.fr⟩
theorem OwP.finB {s : Sh} {h : AHeap} {pa : Option Addr} {pc : Nat} {xs : List s.T} {g : AHeap} (I : OwP s h pa pc xs xs.length g) (hc : pc = 0 ∨ pc = xs.length + 1) : ∃ js, SoB s h g pa xs.length pc xs js := by
  obtain ⟨_, ⟨rfl, rfl, rfl, rfl, hw⟩ | ⟨lo, rows0, rows, idss, rfl, I⟩⟩ := I
  · exact ⟨[], SoB.nil hw⟩
  · exact ⟨lo :: idss.flatten, I.le, I.wf, I.wf0, rfl, I.fr, .inr ⟨lo, rows, idss, rfl, I.get, I.len, I.il, rfl, hc, I.done⟩⟩
theorem OwP.cpy {s : Sh} {h g : AHeap} {xs : List s.T} {l c : Nat} {rows : List (List Value)} (hw : h.wf) (C : Cpy s h g xs l c rows) : OwP s h (some ⟨l, 0, some s.cells⟩) c xs 0 g := ⟨Nat.zero_le _, .inr ⟨l, rows, rows, [], rfl, OwI.start hw C⟩⟩
theorem OwP.none {s : Sh} {h : AHeap} (hw : h.wf) : OwP s h Option.none 0 [] 0 h := ⟨Nat.le_refl _, .inl ⟨rfl, rfl, rfl, rfl, hw⟩⟩
theorem rn_chg {h : AHeap} {a b : Int} {ps : List proofSh.T} {v : Value} {js : List Nat} (s : Sn h proofSh ps v js) : Sh.rn h changeSh (a, b, ps) [.int .i64 a, .int .i64 b, v] js :=
  ⟨[.int .i64 a], [.int .i64 b, v], [], js, rfl, rfl, ⟨rfl, rfl⟩, [.int .i64 b], [v], [], js, rfl, rfl, ⟨rfl, rfl⟩, rn_sl.2 ⟨v, rfl, s⟩⟩
end Go.Dat
namespace Go.Proofs.YtpgfjadjhliohaaGreat
open Go.Abs Go.Dat
set_option maxRecDepth 100000
set_option maxHeartbeats 8000000
abbrev z3S : List Value := [.int .i64 (Int.ofNat 0), .int .i64 (Int.ofNat 0), .slice none 0 0]
def ccL (h : AHeap) (f v : Int) (a : Option Addr) (c : Nat) (ps : List proofSh.T) (pa : Option Addr) (pc : Nat) : LSpec where
  ι := Nat × AHeap
  κ := AHeap
  I := fun i => OwP proofSh h pa pc ps i.1 i.2
  μ := fun i => ps.length - i.1
  head := fun i => ⟨[(1, .complex .f32 0 0), (2, .complex .f32 1 0), (3, .slice pa ps.length pc), (9, .slice pa ps.length pc), (10, .int .i64 ps.length), (11, .int .i64 i.1)], [[.int .i64 f, .int .i64 v, .slice a ps.length c], z3S], i.2⟩
  post := fun g => ⟨[(1, .complex .f32 0 0), (2, .complex .f32 1 0), (3, .slice pa ps.length pc)], [[.int .i64 f, .int .i64 v, .slice a ps.length c], z3S], g⟩
  R := fun _ g => OwP proofSh h pa pc ps ps.length g
  ret := fun _ _ _ => False
abbrev Qmg := Option Addr
abbrev Qmh := List (Sh.T proofSh)
abbrev Qmi := Nat × AHeap
abbrev Qmj := List (Sh.T changeSh)
def Qlf (a b c d e : Prop) := a ∧ b ∧ c ∧ d ∧ e
def Qlg (a : AHeap) (b : Qmg) (c : Nat) (d : Qmh) (e : AHeap) := OwP proofSh a b c d (List.length d) e
def Qlh := (0 : Nat)
def Qli (a : Int) := Value.int IntKind.i64 a
def Qlj := Qli (Int.ofNat Qlh)
def Qlk := [Qlj, Qlj, Value.slice none Qlh Qlh]
def Qll (a : Qmg) (b : Qmh) (c : Nat) := Value.slice a (List.length b) c
def Qlm (a b : Int) (c : Qmg) (d : Qmh) (e : Nat) := [Qli a, Qli b, Qll c d e]
def Qln := Value.complex FloatKind.f32 1 Qlh
def Qlo := Value.complex FloatKind.f32 Qlh Qlh
def Qlp (a : Qmi) := (↑(Prod.fst a) : Int)
def Qlq (a : Qmg) (b c : Nat) (d : Option Nat) (e : Qmi) (f : Int) (g : Prop) := a = some (Addr.mk b c d) ∧ 0 ≤ Qlp e ∧ Qlp e < f ∧ g
def Qlr (a : FuncId) (b : List Value) (c : AHeap) (d : Qmg) (e f : Nat) (g : AHeap) (h : Prop) := ACall Tryz.prog a b c (Value.slice d e f) g ∧ h
def Qls (a : Qmh) (b : Qmi) := List.length a - Prod.fst b
def Qlt (a : AHeap) (b : Qmg) (c : Nat) (d : Qmh) (e : Qmi) := OwP proofSh a b c d (Prod.fst e) (Prod.snd e)
def Qlu (a : Int) (b : Qmi) := Qli (IntKind.wrap IntKind.i64 a) = Qli (Qlp b)
def Qlv (a : Qmh) := (↑(List.length a) : Int)
def Qlw (a : Qmg) (b c : Nat) := [Value.slice a b c]
def Qlx (a : Nat) (b : Qmi) := a + Int.toNat (Qlp b)
def Qly := some 4
def Qlz (a : List Value) := Value.agg (Array.mk a)
def Qm0 (a : Qmi) := Qli 0 = Qli (Qlp a)
theorem cloneChg_spec (h : AHeap) (hw : h.wf) (f v : Int) (ps : List proofSh.T) (a : Option Addr) (c : Nat) (hx : Sl h proofSh ps (.slice a ps.length c)) (sm : (Sh.sl proofSh).small ps) :
    ∃ r h', ACall Tryz.prog 155 [.agg #[.int .i64 f, .int .i64 v, .slice a ps.length c]] h r h' ∧ h.Le h' ∧ h'.wf ∧ ∃ a' c' js, r = .agg #[.int .i64 f, .int .i64 v, .slice a' ps.length c'] ∧ Sn h' proofSh ps (.slice a' ps.length c') js ∧ Fresh h.n h'.n js := by
  have n1 : ps.length ≤ 1048576 := sm.1
  obtain ⟨pa, pc, g0, A0, I0⟩ : ∃ pa pc g0, ACall Tryz.prog 166 [.slice a ps.length c] h (.slice pa ps.length pc) g0 ∧ OwP proofSh h pa pc ps 0 g0 := by
    obtain ⟨_, g0, A0, ⟨rfl, rfl, eg⟩ | ⟨l, c', rows, rfl, C⟩⟩ := cloneProof_spec h hw a c ps hx n1
    · rw [eg] at A0; exact ⟨_, _, _, A0, OwP.none hw⟩
    · exact ⟨_, _, _, A0, OwP.cpy hw C⟩
  refine acall_q fun Q HQ => ?_
  refine acall_vc (fun _ => false) (fun _ => []) (fun _ => ccL h f v a c ps pa pc) mixed Tryz.func155 rfl rfl rfl (Nat.le_of_ble_eq_true rfl) ?_ ?_
  · (refine vc_mp (by kernel_rfl : (Qlf True True (Qlf True (∀ (i : Nat × AHeap), Qlt h pa pc ps i → bs (decide (Qlp i < Qlv ps)) (∃ (l r : Nat), Qlq pa l r Qly i (Qlv ps) (∃ (x x_1 : Int) (x_2 : ByteArray) (a_2 : Option Addr) (n c_1 : Nat), AHeap.ld (Prod.snd i) l (Qlx r i) Qlh 4 = some [Qli x, Qli x_1, Value.string x_2, Value.slice a_2 n c_1] ∧ (∃ (a_3 : Option Addr) (n_1 c_2 : Nat) (h' : AHeap), Qlr 167 (Qlw a_2 n c_1) (Prod.snd i) a_3 n_1 c_2 h' (∃ (l r : Nat), Qlq pa l r Qly i (Qlv ps) (∃ (h'_1 : AHeap), AHeap.wr h' l (Qlx r i) 3 (Qlw a_3 n_1 c_2) = some h'_1 ∧ (∃ (j : Nat × AHeap), Qlf (Qlo = Qlo) (Qln = Qln) (Qll pa ps pc = Qll pa ps pc) (Qll pa ps pc = Qll pa ps pc) (Qlf (Qli (Qlv ps) = Qli (Qlv ps)) (Qlu (Qlp i + 1) j) (Qlm f v a ps c = Qlm f v a ps c) (Qlk = Qlk) (Qlf (Prod.snd j = h'_1) (Qlt h pa pc ps j) (Qls ps j < Qls ps i) (∀ (k : AHeap), Qlg h pa pc ps k → Qlg h pa pc ps k) (∀ (v : Value) (h : AHeap), False → False))))))))) (∃ (j : AHeap), Qlf (Qlo = Qlo) (Qln = Qln) (Qll pa ps pc = Qll pa ps pc) (Qlm f v a ps c = Qlm f v a ps c) (Qlk = Qlk ∧ j = Prod.snd i ∧ Qlg h pa pc ps j))) True (True ∧ True) ((True ∧ True) ∧ True)) True (True ∧ True)) = _) ?_; delta Qlf Qlg Qlh Qli Qlj Qlk Qll Qlm Qln Qlo Qlp Qlq Qlr Qls Qlt Qlu Qlv Qlw Qlx Qly)
    simp only [true_and, and_true]
    refine fun ⟨i, g⟩ I => ?_
    dsimp only at *
    refine bs_d (fun hlt => ?_) (fun hge => ⟨g, rfl, (show i = ps.length by have := I.1; omega) ▸ I⟩)
    obtain ⟨⟨pv, pq, po, pb⟩, hat⟩ : ∃ y : Int × Int × ByteArray × List Sh.int.T, ps[i]? = some y := ⟨_, List.getElem?_eq_getElem (by omega)⟩
    obtain ⟨lo, rows, row, e, hg, hr, rd, hld, stp⟩ := I.row hat
    obtain ⟨v1, rfl, s1⟩ := rd_proof.1 rd
    obtain ⟨a2, c2, rfl⟩ := s1.isSlice
    dsimp only at s1 hld
    have smb := sm.2 (pv, pq, po, pb) (List.mem_of_getElem? hat)
    obtain ⟨a3, c3, g2, js, A2, le2, w2, s2, f2⟩ := cloneInt_sn g I.wf a2 c2 pb (s1.mono I.le) smb.2.2.2.1
    refine ⟨lo, 0, e, Int.natCast_nonneg _, hlt, _, _, _, _, _, _, hld, _, _, _, _, A2, lo, 0, e, Int.natCast_nonneg _, hlt, _, ?_, (i + 1, _), by rw [wrap_i64 (by omega)]; rfl, rfl, stp g2 _ js le2 w2 (rn_prf s2) f2, by dsimp only; omega, fun _ h => h, fun _ _ h => h⟩
    rw [show 0 + ((i : Nat) : Int).toNat = i by omega]
    exact wr_field (le2.get _ _ hg) hr (by simp)
  (refine vc_mp (by kernel_rfl : (∃ (a_1 : Option Addr) (n c_1 : Nat) (h' : AHeap), Qlr 166 [Qll a ps c] h a_1 n c_1 h' (∃ (i : Nat × AHeap), Qlf (Qlo = Qlo) (Qln = Qln) (Value.slice a_1 n c_1 = Qll pa ps pc) (Value.slice a_1 n c_1 = Qll pa ps pc) (Qlf (Qli (↑n : Int) = Qli (Qlv ps)) (Qm0 i) (Qlm f v a ps c = Qlm f v a ps c) (Qlk = Qlk) (Prod.snd i = h' ∧ Qlt h pa pc ps i ∧ (∀ (j : AHeap), Qlg h pa pc ps j → Q (Qlz (Qlm f v pa ps pc)) j) ∧ (∀ (v : Value) (h : AHeap), False → Q v h))))) = _) ?_; delta Qlf Qlg Qlh Qli Qlj Qlk Qll Qlm Qln Qlo Qlp Qlr Qlt Qlv Qlz Qm0)
  refine ⟨_, _, _, _, A0, (0, g0), rfl, rfl, rfl, rfl, rfl, rfl, rfl, rfl, rfl, I0, fun g I => ?_, fun _ _ h => h.elim⟩
  obtain ⟨js, s, f⟩ := I.fin
  exact HQ _ _ ⟨I.le, I.wf, pa, pc, js, rfl, s, f⟩
def clL (h : AHeap) (cs : List changeSh.T) (pa : Option Addr) (pc : Nat) : LSpec where
  ι := Nat × AHeap
  κ := AHeap
  I := fun i => OwP changeSh h pa pc cs i.1 i.2
  μ := fun i => cs.length - i.1
  head := fun i => ⟨[(3, .slice pa cs.length pc), (8, .slice pa cs.length pc), (9, .int .i64 cs.length), (10, .int .i64 i.1)], [], i.2⟩
  post := fun g => ⟨[(3, .slice pa cs.length pc)], [], g⟩
  R := fun _ g => OwP changeSh h pa pc cs cs.length g
  ret := fun _ _ _ => False
def Qm1 (a b : Prop) := Qlf True a b True True
def Qm2 (a : AHeap) (b : Qmg) (c : Nat) (d : Qmj) (e : AHeap) := OwP changeSh a b c d (List.length d) e
def Qm3 (a : Qmg) (b : Qmj) (c : Nat) := Value.slice a (List.length b) c
def Qm4 (a : Qmj) (b : Qmi) := List.length a - Prod.fst b
def Qm5 (a : AHeap) (b : Qmg) (c : Nat) (d : Qmj) (e : Qmi) := OwP changeSh a b c d (Prod.fst e) (Prod.snd e)
def Qm6 (a : Qmj) := (↑(List.length a) : Int)
def Qm7 (a b : Int) (c : Qmg) (d e : Nat) := [Qli a, Qli b, Value.slice c d e]
def Qm8 := some 3
theorem cloneChgs_sob (h : AHeap) (hw : h.wf) (cs : List changeSh.T) (a : Option Addr) (c : Nat) (hx : Sl h changeSh cs (.slice a cs.length c)) (sm : (Sh.sl changeSh).small cs) :
    ∃ r h', ACall Tryz.prog 138 [.slice a cs.length c] h r h' ∧ ∃ a' c' js, r = .slice a' cs.length c' ∧ SoB changeSh h h' a' cs.length c' cs js := by
  have n1 : cs.length ≤ 1048576 := sm.1
  obtain ⟨pa, pc, g0, A0, hc, I0⟩ : ∃ pa pc g0, ACall Tryz.prog 160 [.slice a cs.length c] h (.slice pa cs.length pc) g0 ∧ (pc = 0 ∨ pc = cs.length + 1) ∧ OwP changeSh h pa pc cs 0 g0 := by
    obtain ⟨_, g0, A0, ⟨rfl, rfl, eg⟩ | ⟨l, c', rows, rfl, C⟩⟩ := cloneChange_spec h hw a c cs hx n1
    · rw [eg] at A0; exact ⟨_, _, _, A0, .inl rfl, OwP.none hw⟩
    · exact ⟨_, _, _, A0, C.cap, OwP.cpy hw C⟩
  refine acall_q fun Q HQ => ?_
  refine acall_vc (fun _ => false) (fun _ => []) (fun _ => clL h cs pa pc) mixed Tryz.func138 rfl rfl rfl (Nat.le_of_ble_eq_true rfl) ?_ ?_
  · (refine vc_mp (by kernel_rfl : (Qm1 True (Qlf True (∀ (i : Nat × AHeap), Qm5 h pa pc cs i → bs (decide (Qlp i < Qm6 cs)) (∃ (l r : Nat), Qlq pa l r Qm8 i (Qm6 cs) (∃ (x x_1 : Int) (a : Option Addr) (n c : Nat), AHeap.ld (Prod.snd i) l (Qlx r i) Qlh 3 = some (Qm7 x x_1 a n c) ∧ (∃ (x_2 x_3 : Int) (a_1 : Option Addr) (n_1 c_1 : Nat) (h' : AHeap), ACall Tryz.prog 155 [Qlz (Qm7 x x_1 a n c)] (Prod.snd i) (Qlz (Qm7 x_2 x_3 a_1 n_1 c_1)) h' ∧ (∃ (l r : Nat), Qlq pa l r Qm8 i (Qm6 cs) (∃ (h'_1 : AHeap), AHeap.wr h' l (Qlx r i) Qlh (Qm7 x_2 x_3 a_1 n_1 c_1) = some h'_1 ∧ (∃ (j : Nat × AHeap), Qlf (Qm3 pa cs pc = Qm3 pa cs pc) (Qm3 pa cs pc = Qm3 pa cs pc) (Qli (Qm6 cs) = Qli (Qm6 cs)) (Qlu (Qlp i + 1) j) (Qlf (Prod.snd j = h'_1) (Qm5 h pa pc cs j) (Qm4 cs j < Qm4 cs i) (∀ (k : AHeap), Qm2 h pa pc cs k → Qm2 h pa pc cs k) (∀ (v : Value) (h : AHeap), False → False)))))))) (∃ (j : AHeap), Qm3 pa cs pc = Qm3 pa cs pc ∧ j = Prod.snd i ∧ Qm2 h pa pc cs j)) True (True ∧ True) ((True ∧ True) ∧ True))) = _) ?_; delta Qlf Qlh Qli Qlp Qlq Qlu Qlx Qlz Qm1 Qm2 Qm3 Qm4 Qm5 Qm6 Qm7 Qm8)
    simp only [true_and, and_true]
    refine fun ⟨i, g⟩ I => ?_
    dsimp only at *
    refine bs_d (fun hlt => ?_) (fun hge => ⟨g, rfl, (show i = cs.length by have := I.1; omega) ▸ I⟩)
    obtain ⟨⟨f, v, ps⟩, hat⟩ : ∃ y : Int × Int × List proofSh.T, cs[i]? = some y := ⟨_, List.getElem?_eq_getElem (by omega)⟩
    obtain ⟨lo, rows, row, e, hg, hr, rd, hld, stp⟩ := I.row hat
    obtain ⟨v1, rfl, s1⟩ := rd_change.1 rd
    obtain ⟨a2, c2, rfl⟩ := s1.isSlice
    dsimp only at s1 hld
    have smb := sm.2 (f, v, ps) (List.mem_of_getElem? hat)
    obtain ⟨_, g2, A2, le2, w2, a3, c3, js, rfl, s2, f2⟩ := cloneChg_spec g I.wf f v ps a2 c2 (s1.mono I.le) smb.2.2
    refine ⟨lo, 0, e, Int.natCast_nonneg _, hlt, _, _, _, _, _, hld, _, _, _, _, _, _, A2, lo, 0, e, Int.natCast_nonneg _, hlt, _, ?_, (i + 1, _), by rw [wrap_i64 (by omega)]; rfl, rfl, stp g2 _ js le2 w2 (rn_chg s2) f2, by dsimp only; omega, fun _ h => h, fun _ _ h => h⟩
    rw [show 0 + ((i : Nat) : Int).toNat = i by omega]
    exact wr_field (le2.get _ _ hg) hr (by simp)
  (refine vc_mp (by kernel_rfl : (∃ (a_1 : Option Addr) (n c_1 : Nat) (h' : AHeap), Qlr 160 [Qm3 a cs c] h a_1 n c_1 h' (∃ (i : Nat × AHeap), Qlf (Value.slice a_1 n c_1 = Qm3 pa cs pc) (Value.slice a_1 n c_1 = Qm3 pa cs pc) (Qli (↑n : Int) = Qli (Qm6 cs)) (Qm0 i) (Prod.snd i = h' ∧ Qm5 h pa pc cs i ∧ (∀ (j : AHeap), Qm2 h pa pc cs j → Q (Qm3 pa cs pc) j) ∧ (∀ (v : Value) (h : AHeap), False → Q v h)))) = _) ?_; delta Qlf Qli Qlp Qlr Qm0 Qm2 Qm3 Qm5 Qm6)
  refine ⟨_, _, _, _, A0, (0, g0), rfl, rfl, rfl, rfl, rfl, I0, fun g I => ?_, fun _ _ h => h.elim⟩
  obtain ⟨js, B⟩ := I.finB hc
  exact HQ _ _ ⟨pa, pc, js, rfl, B⟩
theorem cloneChgs_spec (h : AHeap) (hw : h.wf) (cs : List changeSh.T) (a : Option Addr) (c : Nat) (hx : Sl h changeSh cs (.slice a cs.length c)) (sm : (Sh.sl changeSh).small cs) :
    ∃ r h', ACall Tryz.prog 138 [.slice a cs.length c] h r h' ∧ h.Le h' ∧ h'.wf ∧ ∃ a' c' js, r = .slice a' cs.length c' ∧ Sn h' changeSh cs (.slice a' cs.length c') js ∧ Fresh h.n h'.n js := by
  obtain ⟨_, g, A, a', c', js, rfl, B⟩ := cloneChgs_sob h hw cs a c hx sm
  exact ⟨_, g, A, B.le, B.wf, a', c', js, rfl, B.sn, B.fr⟩
theorem cloneSay_spec (h : AHeap) (hw : h.wf) (k f v q : Int) (op : ByteArray) (cs : List changeSh.T) (a : Option Addr) (c : Nat) (hx : Sl h changeSh cs (.slice a cs.length c)) (sm : (Sh.sl changeSh).small cs) :
    ∃ r h', ACall Tryz.prog 97 [.agg #[.int .i64 k, .int .i64 f, .int .i64 v, .int .i64 q, .string op, .slice a cs.length c]] h r h' ∧ h.Le h' ∧ h'.wf ∧ ∃ a' c' js, r = .agg #[.int .i64 k, .int .i64 f, .int .i64 v, .int .i64 q, .string op, .slice a' cs.length c'] ∧ Sn h' changeSh cs (.slice a' cs.length c') js ∧ Fresh h.n h'.n js := by
  obtain ⟨_, g, A, le, w, a', c', js, rfl, s, fr⟩ := cloneChgs_spec h hw cs a c hx sm
  refine acall_q fun Q HQ => ?_
  refine acall_vc (fun _ => false) (fun _ => []) (fun _ => .none) mixed Tryz.func97 rfl rfl rfl (Nat.le_of_ble_eq_true rfl) (by refine vc_mp (by kernel_rfl : (True ∧ True ∧ True ∧ True) = _) ?_; simp only [and_self]) ?_
  (refine vc_mp (by kernel_rfl : (∃ (a_1 : Option Addr) (n c_1 : Nat) (h' : AHeap), Qlr 138 [Qm3 a cs c] h a_1 n c_1 h' (Q (Qlz [Qli k, Qli f, Qli v, Qli q, Value.string op, Value.slice a_1 n c_1]) h')) = _) ?_; delta Qli Qlr Qlz Qm3)
  exact ⟨_, _, _, _, A, HQ _ _ ⟨le, w, a', c', js, rfl, s, fr⟩⟩
def spfL (h : AHeap) (ps : List proofSh.T) (pa : Option Addr) (pc : Nat) : LSpec where
  ι := Nat × AHeap
  κ := AHeap
  I := fun i => OwP proofSh h pa pc ps i.1 i.2
  μ := fun i => ps.length - i.1
  head := fun i => ⟨[(3, .slice pa ps.length pc), (4, .int .i64 i.1)], [], i.2⟩
  post := fun g => ⟨[(3, .slice pa ps.length pc)], [], g⟩
  R := fun _ g => OwP proofSh h pa pc ps ps.length g
  ret := fun _ _ _ => False
def Qm9 (a : Nat) := some (Addr.mk a Qlh (some (Sh.cells proofSh)))
def Qma (a b : Prop) (c : Nat) (d : Prop) := a ∧ b ∧ c ≤ 140737488355328 ∧ d
def Qmb (a : AHeap) (b : Option Nat) := some (Addr.mk (AHeap.n a) Qlh b)
def Qmc (a : AHeap) (b : Nat) := AHeap.push a (AObj.mk List.nil b true)
def Qmd (a : AHeap) (b : Nat) (c : Option Nat) (d : List (List Value)) := AHeap.app (Qmc a b) (Value.slice (Qmb a c) Qlh 1) d b
theorem l13Proofs_spec (h : AHeap) (hw : h.wf) (ps : List proofSh.T) (a : Option Addr) (c : Nat) (hx : Sl h proofSh ps (.slice a ps.length c)) (sm : (Sh.sl proofSh).small ps) :
    ∃ r h', ACall Tryz.prog 129 [.slice a ps.length c] h r h' ∧ h.Le h' ∧ h'.wf ∧ ∃ a' c' js, r = .slice a' ps.length c' ∧ Sn h' proofSh ps (.slice a' ps.length c') js ∧ Fresh h.n h'.n js := by
  have n1 : ps.length ≤ 1048576 := sm.1
  obtain ⟨rows, e1, e2, e3, lo, pc, g0, e4, C⟩ := app_shallow (s := proofSh) hw hx
  have I0 := OwP.cpy hw C
  refine acall_q fun Q HQ => ?_
  refine acall_vc (fun _ => false) (fun _ => []) (fun _ => spfL h ps (some ⟨lo, 0, some proofSh.cells⟩) pc) mixed Tryz.func129 rfl rfl rfl (Nat.le_of_ble_eq_true rfl) ?_ ?_
  · (refine vc_mp (by kernel_rfl : (Qm1 True (Qm1 (∀ (i : Nat × AHeap), Qlt h (Qm9 lo) pc ps i → bs (decide (Qlp i < Qlv ps)) (∃ (l r : Nat), Qlq (Qm9 lo) l r Qly i (Qlv ps) (∃ (a : Option Addr) (n c : Nat), AHeap.ld (Qmc (Prod.snd i) 1) l (Qlx r i) 3 1 = some (Qlw a n c) ∧ (∃ (xs : List (List Value)), Qma (rowsV (Qmc (Prod.snd i) 1) (Value.slice a n c) = some xs) (List.all xs (fun (row : List Value) =>
  decide (List.length row = (1 : Nat)) &&
    List.all row fun (v : Value) =>
      match v with
      | Value.agg cells => false
      | Value.tuple cells => false
      | Value.complex k re im => false
      | Value.chan r => false
      | x => true) = true) ((Qlh + List.length xs) * 8) (∃ (a : Option Addr) (n c : Nat) (h' : AHeap), Qmd (Prod.snd i) 1 (some 1) xs = some (Prod.mk (Value.slice a n c) h') ∧ (∃ (l r : Nat), Qlq (Qm9 lo) l r Qly i (Qlv ps) (∃ (h'_1 : AHeap), AHeap.wr h' l (Qlx r i) 3 (Qlw a n c) = some h'_1 ∧ (∃ (j : Nat × AHeap), Qlf (Qll (Qm9 lo) ps pc = Qll (Qm9 lo) ps pc) (Qlu (Qlp i + 1) j) (Prod.snd j = h'_1) (Qlt h (Qm9 lo) pc ps j) (Qls ps j < Qls ps i ∧ (∀ (k : AHeap), Qlg h (Qm9 lo) pc ps k → Qlg h (Qm9 lo) pc ps k) ∧ (∀ (v : Value) (h : AHeap), False → False))))))))) (∃ (j : AHeap), Qll (Qm9 lo) ps pc = Qll (Qm9 lo) ps pc ∧ j = Prod.snd i ∧ Qlg h (Qm9 lo) pc ps j)) (True ∧ True ∧ True))) = _) ?_; delta Qlf Qlg Qlh Qli Qll Qlp Qlq Qls Qlt Qlu Qlv Qlw Qlx Qly Qm1 Qm9 Qma Qmb Qmc Qmd)
    simp only [true_and, and_true]
    refine fun ⟨i, g⟩ I => ?_
    dsimp only at *
    refine bs_d (fun hlt => ?_) (fun hge => ⟨g, rfl, (show i = ps.length by have := I.1; omega) ▸ I⟩)
    obtain ⟨⟨pv, pq, po, pb⟩, hat⟩ : ∃ y : Int × Int × ByteArray × List Sh.int.T, ps[i]? = some y := ⟨_, List.getElem?_eq_getElem (by omega)⟩
    obtain ⟨lo', rows', row, e, hg, hr, rd, hld, stp⟩ := I.row hat
    cases e
    obtain ⟨v1, rfl, s1⟩ := rd_proof.1 rd
    obtain ⟨a2, c2, rfl⟩ := s1.isSlice
    dsimp only at s1 hld
    have smb := sm.2 (pv, pq, po, pb) (List.mem_of_getElem? hat)
    have hb : List.length (α := Int) pb ≤ 1048576 := smb.2.2.2.1
    obtain ⟨rows2, u1, u2, u3, l2, c3, g2, u4, C2⟩ := app_shallow (s := Sh.int) I.wf (s1.mono I.le)
    have lp := AHeap.Le.push I.wf ⟨[], 1, true⟩
    refine ⟨lo, 0, rfl, Int.natCast_nonneg _, hlt, _, _, _, ld_cells (k := 3) (m := 1) (lp.ld hld) (by simp), rows2, u1, u2, by rw [u3]; omega, _, _, _, g2, u4, lo, 0, rfl, Int.natCast_nonneg _, hlt, _, ?_, (i + 1, _), by rw [wrap_i64 (by omega)]; rfl, rfl, stp g2 _ [l2] C2.le C2.wf (rn_prf (C2.sn rfl)) ⟨by simp, fun z hz => by rw [List.mem_singleton.1 hz]; exact ⟨C2.new, C2.wf.lt C2.get⟩⟩, by dsimp only; omega, fun _ h => h, fun _ _ h => h⟩
    rw [show 0 + ((i : Nat) : Int).toNat = i by omega]
    exact wr_field (C2.le.get _ _ hg) hr (by simp)
  (refine vc_mp (by kernel_rfl : (∃ (xs : List (List Value)), Qma (rowsV (Qmc h 4) (Qll a ps c) = some xs) (List.all xs (fun (row : List Value) =>
  decide (List.length row = (4 : Nat)) &&
    List.all row fun (v : Value) =>
      match v with
      | Value.agg cells => false
      | Value.tuple cells => false
      | Value.complex k re im => false
      | Value.chan r => false
      | x => true) = true) ((Qlh + List.length xs) * 56) (∃ (a : Option Addr) (n c : Nat) (h' : AHeap), Qmd h 4 Qly xs = some (Prod.mk (Value.slice a n c) h') ∧ (∃ (i : Nat × AHeap), Qlf (Value.slice a n c = Qll (Qm9 lo) ps pc) (Qm0 i) (Prod.snd i = h') (Qlt h (Qm9 lo) pc ps i) ((∀ (j : AHeap), Qlg h (Qm9 lo) pc ps j → Q (Qll (Qm9 lo) ps pc) j) ∧ (∀ (v : Value) (h : AHeap), False → Q v h))))) = _) ?_; delta Qlf Qlg Qlh Qli Qll Qlp Qlt Qly Qm0 Qm9 Qma Qmb Qmc Qmd)
  refine ⟨rows, e1, e2, by rw [e3]; omega, _, _, _, g0, e4, (0, g0), rfl, rfl, rfl, I0, fun g I => ?_, fun _ _ h => h.elim⟩
  obtain ⟨js, s, f⟩ := I.fin
  exact HQ _ _ ⟨I.le, I.wf, _, pc, js, rfl, s, f⟩
def scgL (h : AHeap) (cs : List changeSh.T) (pa : Option Addr) (pc : Nat) : LSpec where
  ι := Nat × AHeap
  κ := AHeap
  I := fun i => OwP changeSh h pa pc cs i.1 i.2
  μ := fun i => cs.length - i.1
  head := fun i => ⟨[(3, .slice pa cs.length pc), (4, .int .i64 i.1)], [], i.2⟩
  post := fun g => ⟨[(3, .slice pa cs.length pc)], [], g⟩
  R := fun _ g => OwP changeSh h pa pc cs cs.length g
  ret := fun _ _ _ => False
def Qme (a : Nat) := some (Addr.mk a Qlh (some (Sh.cells changeSh)))
theorem l13CopyChanges_sob (h : AHeap) (hw : h.wf) (cs : List changeSh.T) (a : Option Addr) (c : Nat) (hx : Sl h changeSh cs (.slice a cs.length c)) (sm : (Sh.sl changeSh).small cs) :
    ∃ r h', ACall Tryz.prog 71 [.slice a cs.length c] h r h' ∧ ∃ a' c' js, r = .slice a' cs.length c' ∧ SoB changeSh h h' a' cs.length c' cs js := by
  have n1 : cs.length ≤ 1048576 := sm.1
  obtain ⟨rows, e1, e2, e3, lo, pc, g0, e4, C⟩ := app_shallow (s := changeSh) hw hx
  have I0 := OwP.cpy hw C
  refine acall_q fun Q HQ => ?_
  refine acall_vc (fun _ => false) (fun _ => []) (fun _ => scgL h cs (some ⟨lo, 0, some changeSh.cells⟩) pc) mixed Tryz.func71 rfl rfl rfl (Nat.le_of_ble_eq_true rfl) ?_ ?_
  · (refine vc_mp (by kernel_rfl : (Qm1 True (Qm1 (∀ (i : Nat × AHeap), Qm5 h (Qme lo) pc cs i → bs (decide (Qlp i < Qm6 cs)) (∃ (l r : Nat), Qlq (Qme lo) l r Qm8 i (Qm6 cs) (∃ (a : Option Addr) (n c : Nat), AHeap.ld (Prod.snd i) l (Qlx r i) 2 1 = some (Qlw a n c) ∧ (∃ (a_1 : Option Addr) (n_1 c_1 : Nat) (h' : AHeap), Qlr 129 (Qlw a n c) (Prod.snd i) a_1 n_1 c_1 h' (∃ (l r : Nat), Qlq (Qme lo) l r Qm8 i (Qm6 cs) (∃ (h'_1 : AHeap), AHeap.wr h' l (Qlx r i) 2 (Qlw a_1 n_1 c_1) = some h'_1 ∧ (∃ (j : Nat × AHeap), Qlf (Qm3 (Qme lo) cs pc = Qm3 (Qme lo) cs pc) (Qlu (Qlp i + 1) j) (Prod.snd j = h'_1) (Qm5 h (Qme lo) pc cs j) (Qm4 cs j < Qm4 cs i ∧ (∀ (k : AHeap), Qm2 h (Qme lo) pc cs k → Qm2 h (Qme lo) pc cs k) ∧ (∀ (v : Value) (h : AHeap), False → False)))))))) (∃ (j : AHeap), Qm3 (Qme lo) cs pc = Qm3 (Qme lo) cs pc ∧ j = Prod.snd i ∧ Qm2 h (Qme lo) pc cs j)) (True ∧ True ∧ True))) = _) ?_; delta Qlf Qlh Qli Qlp Qlq Qlr Qlu Qlw Qlx Qm1 Qm2 Qm3 Qm4 Qm5 Qm6 Qm8 Qme)
    simp only [true_and, and_true]
    refine fun ⟨i, g⟩ I => ?_
    dsimp only at *
    refine bs_d (fun hlt => ?_) (fun hge => ⟨g, rfl, (show i = cs.length by have := I.1; omega) ▸ I⟩)
    obtain ⟨⟨f, v, ps⟩, hat⟩ : ∃ y : Int × Int × List proofSh.T, cs[i]? = some y := ⟨_, List.getElem?_eq_getElem (by omega)⟩
    obtain ⟨lo', rows', row, e, hg, hr, rd, hld, stp⟩ := I.row hat
    cases e
    obtain ⟨v1, rfl, s1⟩ := rd_change.1 rd
    obtain ⟨a2, c2, rfl⟩ := s1.isSlice
    dsimp only at s1 hld
    have smb := sm.2 (f, v, ps) (List.mem_of_getElem? hat)
    obtain ⟨_, g2, A2, le2, w2, a3, c3, js, rfl, s2, f2⟩ := l13Proofs_spec g I.wf ps a2 c2 (s1.mono I.le) smb.2.2
    refine ⟨lo, 0, rfl, Int.natCast_nonneg _, hlt, _, _, _, ld_cells (k := 2) (m := 1) hld (by simp), _, _, _, _, A2, lo, 0, rfl, Int.natCast_nonneg _, hlt, _, ?_, (i + 1, _), by rw [wrap_i64 (by omega)]; rfl, rfl, stp g2 _ js le2 w2 (rn_chg s2) f2, by dsimp only; omega, fun _ h => h, fun _ _ h => h⟩
    rw [show 0 + ((i : Nat) : Int).toNat = i by omega]
    exact wr_field (le2.get _ _ hg) hr (by simp)
  (refine vc_mp (by kernel_rfl : (∃ (xs : List (List Value)), Qma (rowsV (Qmc h 3) (Qm3 a cs c) = some xs) (List.all xs (fun (row : List Value) =>
  decide (List.length row = (3 : Nat)) &&
    List.all row fun (v : Value) =>
      match v with
      | Value.agg cells => false
      | Value.tuple cells => false
      | Value.complex k re im => false
      | Value.chan r => false
      | x => true) = true) ((Qlh + List.length xs) * 40) (∃ (a : Option Addr) (n c : Nat) (h' : AHeap), Qmd h 3 Qm8 xs = some (Prod.mk (Value.slice a n c) h') ∧ (∃ (i : Nat × AHeap), Qlf (Value.slice a n c = Qm3 (Qme lo) cs pc) (Qm0 i) (Prod.snd i = h') (Qm5 h (Qme lo) pc cs i) ((∀ (j : AHeap), Qm2 h (Qme lo) pc cs j → Q (Qm3 (Qme lo) cs pc) j) ∧ (∀ (v : Value) (h : AHeap), False → Q v h))))) = _) ?_; delta Qlf Qlh Qli Qlp Qm0 Qm2 Qm3 Qm5 Qm8 Qma Qmb Qmc Qmd Qme)
  refine ⟨rows, e1, e2, by rw [e3]; omega, _, _, _, g0, e4, (0, g0), rfl, rfl, rfl, I0, fun g I => ?_, fun _ _ h => h.elim⟩
  obtain ⟨js, B⟩ := I.finB C.cap
  exact HQ _ _ ⟨_, pc, js, rfl, B⟩
theorem l13CopyChanges_spec (h : AHeap) (hw : h.wf) (cs : List changeSh.T) (a : Option Addr) (c : Nat) (hx : Sl h changeSh cs (.slice a cs.length c)) (sm : (Sh.sl changeSh).small cs) :
    ∃ r h', ACall Tryz.prog 71 [.slice a cs.length c] h r h' ∧ h.Le h' ∧ h'.wf ∧ ∃ a' c' js, r = .slice a' cs.length c' ∧ Sn h' changeSh cs (.slice a' cs.length c') js ∧ Fresh h.n h'.n js := by
  obtain ⟨_, g, A, a', c', js, rfl, B⟩ := l13CopyChanges_sob h hw cs a c hx sm
  exact ⟨_, g, A, B.le, B.wf, a', c', js, rfl, B.sn, B.fr⟩
theorem l13CopySay_spec (h : AHeap) (hw : h.wf) (k f v q : Int) (op : ByteArray) (cs : List changeSh.T) (a : Option Addr) (c : Nat) (hx : Sl h changeSh cs (.slice a cs.length c)) (sm : (Sh.sl changeSh).small cs) :
    ∃ r h', ACall Tryz.prog 34 [.agg #[.int .i64 k, .int .i64 f, .int .i64 v, .int .i64 q, .string op, .slice a cs.length c]] h r h' ∧ h.Le h' ∧ h'.wf ∧ ∃ a' c' js, r = .agg #[.int .i64 k, .int .i64 f, .int .i64 v, .int .i64 q, .string op, .slice a' cs.length c'] ∧ Sn h' changeSh cs (.slice a' cs.length c') js ∧ Fresh h.n h'.n js := by
  obtain ⟨_, g, A, le, w, a', c', js, rfl, s, fr⟩ := l13CopyChanges_spec h hw cs a c hx sm
  refine acall_q fun Q HQ => ?_
  refine acall_vc (fun _ => false) (fun _ => []) (fun _ => .none) mixed Tryz.func34 rfl rfl rfl (Nat.le_of_ble_eq_true rfl) (by refine vc_mp (by kernel_rfl : (True ∧ True ∧ True ∧ True) = _) ?_; simp only [and_self]) ?_
  (refine vc_mp (by kernel_rfl : (∃ (a_1 : Option Addr) (n c_1 : Nat) (h' : AHeap), Qlr 71 [Qm3 a cs c] h a_1 n c_1 h' (Q (Qlz [Qli k, Qli f, Qli v, Qli q, Value.string op, Value.slice a_1 n c_1]) h')) = _) ?_; delta Qli Qlr Qlz Qm3)
  exact ⟨_, _, _, _, A, HQ _ _ ⟨le, w, a', c', js, rfl, s, fr⟩⟩
end Go.Proofs.YtpgfjadjhliohaaGreat
end
section
namespace Go.Dat
open Go.Abs
theorem rnSay {h : AHeap} {k f v q : Int} {op : ByteArray} {cs : List changeSh.T} {w : Value} {js : List Nat} (s : Sn h changeSh cs w js) : Sh.rn h saySh (k, f, v, q, op, cs) [.int .i64 k, .int .i64 f, .int .i64 v, .int .i64 q, .string op, w] js :=
  ⟨[.int .i64 k], [.int .i64 f, .int .i64 v, .int .i64 q, .string op, w], [], js, rfl, rfl, ⟨rfl, rfl⟩, [.int .i64 f], [.int .i64 v, .int .i64 q, .string op, w], [], js, rfl, rfl, ⟨rfl, rfl⟩, [.int .i64 v], [.int .i64 q, .string op, w], [], js, rfl, rfl, ⟨rfl, rfl⟩, [.int .i64 q], [.string op, w], [], js, rfl, rfl, ⟨rfl, rfl⟩, [.string op], [w], [], js, rfl, rfl, ⟨rfl, rfl⟩, rn_sl.2 ⟨w, rfl, s⟩⟩
theorem so_empty {s : Sh} {h : AHeap} (hw : h.wf) : OXok s h ⟨some ⟨h.n, 0, some s.cells⟩, 1, [], [h.n], h.push ⟨[], s.cells, true⟩⟩ := by
  refine ⟨.push hw _, hw.push _, hw, rfl, ⟨by simp, fun z hz => by rw [List.mem_singleton.1 hz]; exact ⟨Nat.le_refl _, Nat.lt_succ_self _⟩⟩, .inr ⟨h.n, [], [], rfl, AHeap.get_push_eq, rfl, rfl, rfl, .inr rfl, fun i x row js h1 => by cases h1⟩⟩
end Go.Dat
namespace Go.Proofs.YtpgfjadjhliohaaGreat
open Go.Abs Go.Dat
set_option maxRecDepth 100000
set_option maxHeartbeats 8000000
def Qmf (a b : Value) (c : Qmg) := Qlz [Qli 4, a, b, Qlj, Value.string (ByteArray.mk (Array.mk List.nil)), Value.slice c 1 2]
theorem changeSay_spec (h : AHeap) (f v : Int) (a : Option Addr) (n c : Nat) :
    ACall Tryz.prog 98 [.agg #[.int .i64 f, .int .i64 v, .slice a n c]] h (.agg #[.int .i64 4, .int .i64 f, .int .i64 v, .int .i64 (Int.ofNat 0), .string ⟨#[]⟩, .slice (some ⟨h.n, 0, some 3⟩) 1 2]) (h.push ⟨[[.int .i64 f, .int .i64 v, .slice a n c]], 3, true⟩) := by
  refine acall_to ?_
  refine acall_vc (fun _ => false) (fun _ => []) (fun _ => .none) mixed Tryz.func98 rfl rfl rfl (Nat.le_of_ble_eq_true rfl) (by refine vc_mp (by kernel_rfl : (True ∧ True ∧ True) = _) ?_; simp only [and_self]) ?_
  (refine vc_mp (by kernel_rfl : (Qmf (Qli f) (Qli v) (Qmb h Qm8) = Qmf (Qli f) (Qli v) (Qmb h Qm8) ∧ AHeap.push h (AObj.mk [Qm7 f v a n c] 3 true) = AHeap.push h (AObj.mk [Qm7 f v a n c] 3 true)) = _) ?_; delta Qlh Qli Qlj Qlz Qm7 Qm8 Qmb Qmf)
  exact ⟨rfl, rfl⟩
end Go.Proofs.YtpgfjadjhliohaaGreat
end
section
namespace Go.Proofs.YtpgfjadjhliohaaGreat
open Go.Abs Go.Dat
set_option maxRecDepth 100000
set_option maxHeartbeats 8000000
end Go.Proofs.YtpgfjadjhliohaaGreat
end
