/- W11. -/
import Derived.Test.YtpgfjadjhliohaaGreatV12W4
import Derived.Test.YtpgfjadjhliohaaGreatV12W10
namespace Go.Dat
open Go.Abs
def OwP (s : Sh) (h : AHeap) (pa : Option Addr) (pc : Nat) (xs : List s.T) (i : Nat) (g : AHeap) : Prop :=
  i ≤ xs.length ∧ ((pa = none ∧ pc = 0 ∧ xs = [] ∧ g = h ∧ h.wf) ∨ ∃ lo rows0 rows idss, pa = some ⟨lo, 0, some s.cells⟩ ∧ OwI s h lo xs rows0 i g rows idss)
theorem OwP.le {s : Sh} {h : AHeap} {pa : Option Addr} {pc : Nat} {xs : List s.T} {i : Nat} {g : AHeap} (I : OwP s h pa pc xs i g) : h.Le g := by
  obtain ⟨_, ⟨_, _, _, e, _⟩ | ⟨lo, rows0, rows, idss, _, I⟩⟩ := I
  · rw [e]; exact .refl _
  · exact I.le
theorem OwP.wf {s : Sh} {h : AHeap} {pa : Option Addr} {pc : Nat} {xs : List s.T} {i : Nat} {g : AHeap} (I : OwP s h pa pc xs i g) : g.wf := by
  obtain ⟨_, ⟨_, _, _, e, w⟩ | ⟨lo, rows0, rows, idss, _, I⟩⟩ := I
  · rw [e]; exact w
  · exact I.wf
theorem OwP.row {s : Sh} {h : AHeap} {pa : Option Addr} {pc : Nat} {xs : List s.T} {i : Nat} {g : AHeap} {y : s.T} (I : OwP s h pa pc xs i g) (hy : xs[i]? = some y) :
    ∃ lo rows row, pa = some ⟨lo, 0, some s.cells⟩ ∧ g.get lo = some ⟨rows, s.cells, true⟩ ∧ rows[i]? = some row ∧ s.rd h y row ∧ g.ld lo (0 + ((i : Nat) : Int).toNat) 0 s.cells = some row ∧
      ∀ (g1 : AHeap) (cs : List Value) (js : List Nat), g.Le g1 → g1.wf → s.rn g1 y cs js → Fresh g.n g1.n js → OwP s h pa pc xs (i + 1) (g1.put lo (some ⟨rows.set i cs, s.cells, true⟩)) := by
  obtain ⟨hi, ⟨_, _, rfl, _, _⟩ | ⟨lo, rows0, rows, idss, e, I⟩⟩ := I
  · cases hy
  · obtain ⟨row, hr, rd, hld⟩ := I.row hy
    refine ⟨lo, rows, row, e, I.get, hr, rd, by rw [show 0 + ((i : Nat) : Int).toNat = i by omega]; exact hld, fun g1 cs js le wf rn fj => ?_⟩
    exact ⟨(List.getElem?_eq_some_iff.1 hy).1, .inr ⟨lo, rows0, _, _, e, I.step hy le wf rn fj⟩⟩
theorem OwP.fin {s : Sh} {h : AHeap} {pa : Option Addr} {pc : Nat} {xs : List s.T} {g : AHeap} (I : OwP s h pa pc xs xs.length g) : ∃ js, Sn g s xs (.slice pa xs.length pc) js ∧ Fresh h.n g.n js := by
  obtain ⟨_, ⟨rfl, rfl, rfl, _, _⟩ | ⟨lo, rows0, rows, idss, rfl, I⟩⟩ := I
  · exact ⟨[], Sn.nil, .nil⟩
  · exact ⟨_, I.sn, I.fr⟩
theorem OwP.cpy {s : Sh} {h g : AHeap} {xs : List s.T} {l c : Nat} {rows : List (List Value)} (hw : h.wf) (C : Cpy s h g xs l c rows) : OwP s h (some ⟨l, 0, some s.cells⟩) c xs 0 g := ⟨Nat.zero_le _, .inr ⟨l, rows, rows, [], rfl, OwI.start hw C⟩⟩
theorem OwP.none {s : Sh} {h : AHeap} (hw : h.wf) : OwP s h Option.none 0 [] 0 h := ⟨Nat.le_refl _, .inl ⟨rfl, rfl, rfl, rfl, hw⟩⟩
theorem rn_chg {h : AHeap} {a b : Int} {ps : List proofSh.T} {v : Value} {js : List Nat} (s : Sn h proofSh ps v js) : Sh.rn h changeSh (a, b, ps) [.int .i64 a, .int .i64 b, v] js :=
  ⟨[.int .i64 a], [.int .i64 b, v], [], js, rfl, rfl, ⟨rfl, rfl⟩, [.int .i64 b], [v], [], js, rfl, rfl, ⟨rfl, rfl⟩, rn_sl.2 ⟨v, rfl, s⟩⟩
end Go.Dat
namespace Go.Proofs.YtpgfjadjhliohaaGreat
open Go.Abs Go.Dat
set_option maxRecDepth 100000
set_option maxHeartbeats 8000000
abbrev z3S : List Value := [.int .i64 (Int.ofNat 0), .int .i64 (Int.ofNat 0), .slice none 0 0]
def ccL (h : AHeap) (f v : Int) (a : Option Addr) (c : Nat) (ps : List proofSh.T) (pa : Option Addr) (pc : Nat) : LSpec where
  ι := Nat × AHeap
  κ := AHeap
  I := fun i => OwP proofSh h pa pc ps i.1 i.2
  μ := fun i => ps.length - i.1
  head := fun i => ⟨[(1, .complex .f32 0 0), (2, .complex .f32 1 0), (3, .slice pa ps.length pc), (9, .slice pa ps.length pc), (10, .int .i64 ps.length), (11, .int .i64 i.1)], [[.int .i64 f, .int .i64 v, .slice a ps.length c], z3S], i.2⟩
  post := fun g => ⟨[(1, .complex .f32 0 0), (2, .complex .f32 1 0), (3, .slice pa ps.length pc)], [[.int .i64 f, .int .i64 v, .slice a ps.length c], z3S], g⟩
  R := fun _ g => OwP proofSh h pa pc ps ps.length g
  ret := fun _ _ _ => False
theorem cloneChg_spec (h : AHeap) (hw : h.wf) (f v : Int) (ps : List proofSh.T) (a : Option Addr) (c : Nat) (hx : Sl h proofSh ps (.slice a ps.length c)) (sm : (Sh.sl proofSh).small ps) :
    ∃ r h', ACall Tryz.prog 155 [.agg #[.int .i64 f, .int .i64 v, .slice a ps.length c]] h r h' ∧ h.Le h' ∧ h'.wf ∧ ∃ a' c' js, r = .agg #[.int .i64 f, .int .i64 v, .slice a' ps.length c'] ∧ Sn h' proofSh ps (.slice a' ps.length c') js ∧ Fresh h.n h'.n js := by
  have n1 : ps.length ≤ 1048576 := sm.1
  obtain ⟨pa, pc, g0, A0, I0⟩ : ∃ pa pc g0, ACall Tryz.prog 166 [.slice a ps.length c] h (.slice pa ps.length pc) g0 ∧ OwP proofSh h pa pc ps 0 g0 := by
    obtain ⟨_, g0, A0, ⟨rfl, rfl, eg⟩ | ⟨l, c', rows, rfl, C⟩⟩ := cloneProof_spec h hw a c ps hx n1
    · rw [eg] at A0; exact ⟨_, _, _, A0, OwP.none hw⟩
    · exact ⟨_, _, _, A0, OwP.cpy hw C⟩
  refine acall_q fun Q HQ => ?_
  refine acall_vc (fun _ => false) (fun _ => []) (fun _ => ccL h f v a c ps pa pc) mixed Tryz.func155 rfl rfl rfl (Nat.le_of_ble_eq_true rfl) ?_ ?_
  · refine vc_mp (by kernel_rfl : (True ∧ True ∧ (True ∧ (∀ (i : Nat × AHeap), OwP proofSh h pa pc ps (Prod.fst i) (Prod.snd i) → bs (decide ((↑(Prod.fst i) : Int) < (↑(List.length ps) : Int))) (∃ (l : Nat), ∃ (r : Nat), pa = some (Addr.mk l r (some (4 : Nat))) ∧ (0 : Int) ≤ (↑(Prod.fst i) : Int) ∧ (↑(Prod.fst i) : Int) < (↑(List.length ps) : Int) ∧ ∃ (x : Int), ∃ (x_1 : Int), ∃ (x_2 : ByteArray), ∃ (a_2 : Option Addr), ∃ (n : Nat), ∃ (c_1 : Nat), AHeap.ld (Prod.snd i) l (r + Int.toNat (↑(Prod.fst i) : Int)) (0 : Nat) (4 : Nat) = some [Value.int IntKind.i64 x, Value.int IntKind.i64 x_1, Value.string x_2, Value.slice a_2 n c_1] ∧ ∃ (a_3 : Option Addr), ∃ (n_1 : Nat), ∃ (c_2 : Nat), ∃ (h' : AHeap), ACall Tryz.prog (167 : Nat) [Value.slice a_2 n c_1] (Prod.snd i) (Value.slice a_3 n_1 c_2) h' ∧ ∃ (l : Nat), ∃ (r : Nat), pa = some (Addr.mk l r (some (4 : Nat))) ∧ (0 : Int) ≤ (↑(Prod.fst i) : Int) ∧ (↑(Prod.fst i) : Int) < (↑(List.length ps) : Int) ∧ ∃ (h'_1 : AHeap), AHeap.wr h' l (r + Int.toNat (↑(Prod.fst i) : Int)) (3 : Nat) [Value.slice a_3 n_1 c_2] = some h'_1 ∧ ∃ (j : Nat × AHeap), Value.complex FloatKind.f32 (0 : Nat) (0 : Nat) = Value.complex FloatKind.f32 (0 : Nat) (0 : Nat) ∧ Value.complex FloatKind.f32 (1 : Nat) (0 : Nat) = Value.complex FloatKind.f32 (1 : Nat) (0 : Nat) ∧ Value.slice pa (List.length ps) pc = Value.slice pa (List.length ps) pc ∧ Value.slice pa (List.length ps) pc = Value.slice pa (List.length ps) pc ∧ Value.int IntKind.i64 (↑(List.length ps) : Int) = Value.int IntKind.i64 (↑(List.length ps) : Int) ∧ Value.int IntKind.i64 (IntKind.wrap IntKind.i64 ((↑(Prod.fst i) : Int) + (1 : Int))) = Value.int IntKind.i64 (↑(Prod.fst j) : Int) ∧ [Value.int IntKind.i64 f, Value.int IntKind.i64 v, Value.slice a (List.length ps) c] = [Value.int IntKind.i64 f, Value.int IntKind.i64 v, Value.slice a (List.length ps) c] ∧ [Value.int IntKind.i64 (Int.ofNat (0 : Nat)), Value.int IntKind.i64 (Int.ofNat (0 : Nat)), Value.slice none (0 : Nat) (0 : Nat)] = [Value.int IntKind.i64 (Int.ofNat (0 : Nat)), Value.int IntKind.i64 (Int.ofNat (0 : Nat)), Value.slice none (0 : Nat) (0 : Nat)] ∧ Prod.snd j = h'_1 ∧ OwP proofSh h pa pc ps (Prod.fst j) (Prod.snd j) ∧ List.length ps - Prod.fst j < List.length ps - Prod.fst i ∧ (∀ (k : AHeap), OwP proofSh h pa pc ps (List.length ps) k → OwP proofSh h pa pc ps (List.length ps) k) ∧ ∀ (v : Value) (h : AHeap), False → False) (∃ (j : AHeap), Value.complex FloatKind.f32 (0 : Nat) (0 : Nat) = Value.complex FloatKind.f32 (0 : Nat) (0 : Nat) ∧ Value.complex FloatKind.f32 (1 : Nat) (0 : Nat) = Value.complex FloatKind.f32 (1 : Nat) (0 : Nat) ∧ Value.slice pa (List.length ps) pc = Value.slice pa (List.length ps) pc ∧ [Value.int IntKind.i64 f, Value.int IntKind.i64 v, Value.slice a (List.length ps) c] = [Value.int IntKind.i64 f, Value.int IntKind.i64 v, Value.slice a (List.length ps) c] ∧ [Value.int IntKind.i64 (Int.ofNat (0 : Nat)), Value.int IntKind.i64 (Int.ofNat (0 : Nat)), Value.slice none (0 : Nat) (0 : Nat)] = [Value.int IntKind.i64 (Int.ofNat (0 : Nat)), Value.int IntKind.i64 (Int.ofNat (0 : Nat)), Value.slice none (0 : Nat) (0 : Nat)] ∧ j = Prod.snd i ∧ OwP proofSh h pa pc ps (List.length ps) j)) ∧ True ∧ (True ∧ True) ∧ (True ∧ True) ∧ True) ∧ True ∧ True ∧ True) = _) ?_
    simp only [true_and, and_true]
    refine fun ⟨i, g⟩ I => ?_
    dsimp only at *
    refine bs_d (fun hlt => ?_) (fun hge => ⟨g, rfl, (show i = ps.length by have := I.1; omega) ▸ I⟩)
    obtain ⟨⟨pv, pq, po, pb⟩, hat⟩ : ∃ y : Int × Int × ByteArray × List Sh.int.T, ps[i]? = some y := ⟨_, List.getElem?_eq_getElem (by omega)⟩
    obtain ⟨lo, rows, row, e, hg, hr, rd, hld, stp⟩ := I.row hat
    obtain ⟨v1, rfl, s1⟩ := rd_proof.1 rd
    obtain ⟨a2, c2, rfl⟩ := s1.isSlice
    dsimp only at s1 hld
    have smb := sm.2 (pv, pq, po, pb) (List.mem_of_getElem? hat)
    obtain ⟨a3, c3, g2, js, A2, le2, w2, s2, f2⟩ := cloneInt_sn g I.wf a2 c2 pb (s1.mono I.le) smb.2.2.2.1
    refine ⟨lo, 0, e, Int.natCast_nonneg _, hlt, _, _, _, _, _, _, hld, _, _, _, _, A2, lo, 0, e, Int.natCast_nonneg _, hlt, _, ?_, (i + 1, _), by rw [wrap_i64 (by omega)]; rfl, rfl, stp g2 _ js le2 w2 (rn_prf s2) f2, by dsimp only; omega, fun _ h => h, fun _ _ h => h⟩
    rw [show 0 + ((i : Nat) : Int).toNat = i by omega]
    exact wr_field (le2.get _ _ hg) hr (by simp)
  refine vc_mp (by kernel_rfl : (∃ (a_1 : Option Addr), ∃ (n : Nat), ∃ (c_1 : Nat), ∃ (h' : AHeap), ACall Tryz.prog (166 : Nat) [Value.slice a (List.length ps) c] h (Value.slice a_1 n c_1) h' ∧ ∃ (i : Nat × AHeap), Value.complex FloatKind.f32 (0 : Nat) (0 : Nat) = Value.complex FloatKind.f32 (0 : Nat) (0 : Nat) ∧ Value.complex FloatKind.f32 (1 : Nat) (0 : Nat) = Value.complex FloatKind.f32 (1 : Nat) (0 : Nat) ∧ Value.slice a_1 n c_1 = Value.slice pa (List.length ps) pc ∧ Value.slice a_1 n c_1 = Value.slice pa (List.length ps) pc ∧ Value.int IntKind.i64 (↑n : Int) = Value.int IntKind.i64 (↑(List.length ps) : Int) ∧ Value.int IntKind.i64 (0 : Int) = Value.int IntKind.i64 (↑(Prod.fst i) : Int) ∧ [Value.int IntKind.i64 f, Value.int IntKind.i64 v, Value.slice a (List.length ps) c] = [Value.int IntKind.i64 f, Value.int IntKind.i64 v, Value.slice a (List.length ps) c] ∧ [Value.int IntKind.i64 (Int.ofNat (0 : Nat)), Value.int IntKind.i64 (Int.ofNat (0 : Nat)), Value.slice none (0 : Nat) (0 : Nat)] = [Value.int IntKind.i64 (Int.ofNat (0 : Nat)), Value.int IntKind.i64 (Int.ofNat (0 : Nat)), Value.slice none (0 : Nat) (0 : Nat)] ∧ Prod.snd i = h' ∧ OwP proofSh h pa pc ps (Prod.fst i) (Prod.snd i) ∧ (∀ (j : AHeap), OwP proofSh h pa pc ps (List.length ps) j → Q (Value.agg (Array.mk [Value.int IntKind.i64 f, Value.int IntKind.i64 v, Value.slice pa (List.length ps) pc])) j) ∧ ∀ (v : Value) (h : AHeap), False → Q v h) = _) ?_
  refine ⟨_, _, _, _, A0, (0, g0), rfl, rfl, rfl, rfl, rfl, rfl, rfl, rfl, rfl, I0, fun g I => ?_, fun _ _ h => h.elim⟩
  obtain ⟨js, s, f⟩ := I.fin
  exact HQ _ _ ⟨I.le, I.wf, pa, pc, js, rfl, s, f⟩
def clL (h : AHeap) (cs : List changeSh.T) (pa : Option Addr) (pc : Nat) : LSpec where
  ι := Nat × AHeap
  κ := AHeap
  I := fun i => OwP changeSh h pa pc cs i.1 i.2
  μ := fun i => cs.length - i.1
  head := fun i => ⟨[(3, .slice pa cs.length pc), (8, .slice pa cs.length pc), (9, .int .i64 cs.length), (10, .int .i64 i.1)], [], i.2⟩
  post := fun g => ⟨[(3, .slice pa cs.length pc)], [], g⟩
  R := fun _ g => OwP changeSh h pa pc cs cs.length g
  ret := fun _ _ _ => False
theorem cloneChgs_spec (h : AHeap) (hw : h.wf) (cs : List changeSh.T) (a : Option Addr) (c : Nat) (hx : Sl h changeSh cs (.slice a cs.length c)) (sm : (Sh.sl changeSh).small cs) :
    ∃ r h', ACall Tryz.prog 138 [.slice a cs.length c] h r h' ∧ h.Le h' ∧ h'.wf ∧ ∃ a' c' js, r = .slice a' cs.length c' ∧ Sn h' changeSh cs (.slice a' cs.length c') js ∧ Fresh h.n h'.n js := by
  have n1 : cs.length ≤ 1048576 := sm.1
  obtain ⟨pa, pc, g0, A0, I0⟩ : ∃ pa pc g0, ACall Tryz.prog 160 [.slice a cs.length c] h (.slice pa cs.length pc) g0 ∧ OwP changeSh h pa pc cs 0 g0 := by
    obtain ⟨_, g0, A0, ⟨rfl, rfl, eg⟩ | ⟨l, c', rows, rfl, C⟩⟩ := cloneChange_spec h hw a c cs hx n1
    · rw [eg] at A0; exact ⟨_, _, _, A0, OwP.none hw⟩
    · exact ⟨_, _, _, A0, OwP.cpy hw C⟩
  refine acall_q fun Q HQ => ?_
  refine acall_vc (fun _ => false) (fun _ => []) (fun _ => clL h cs pa pc) mixed Tryz.func138 rfl rfl rfl (Nat.le_of_ble_eq_true rfl) ?_ ?_
  · refine vc_mp (by kernel_rfl : (True ∧ True ∧ (True ∧ (∀ (i : Nat × AHeap), OwP changeSh h pa pc cs (Prod.fst i) (Prod.snd i) → bs (decide ((↑(Prod.fst i) : Int) < (↑(List.length cs) : Int))) (∃ (l : Nat), ∃ (r : Nat), pa = some (Addr.mk l r (some (3 : Nat))) ∧ (0 : Int) ≤ (↑(Prod.fst i) : Int) ∧ (↑(Prod.fst i) : Int) < (↑(List.length cs) : Int) ∧ ∃ (x : Int), ∃ (x_1 : Int), ∃ (a : Option Addr), ∃ (n : Nat), ∃ (c : Nat), AHeap.ld (Prod.snd i) l (r + Int.toNat (↑(Prod.fst i) : Int)) (0 : Nat) (3 : Nat) = some [Value.int IntKind.i64 x, Value.int IntKind.i64 x_1, Value.slice a n c] ∧ ∃ (x_2 : Int), ∃ (x_3 : Int), ∃ (a_1 : Option Addr), ∃ (n_1 : Nat), ∃ (c_1 : Nat), ∃ (h' : AHeap), ACall Tryz.prog (155 : Nat) [Value.agg (Array.mk [Value.int IntKind.i64 x, Value.int IntKind.i64 x_1, Value.slice a n c])] (Prod.snd i) (Value.agg (Array.mk [Value.int IntKind.i64 x_2, Value.int IntKind.i64 x_3, Value.slice a_1 n_1 c_1])) h' ∧ ∃ (l : Nat), ∃ (r : Nat), pa = some (Addr.mk l r (some (3 : Nat))) ∧ (0 : Int) ≤ (↑(Prod.fst i) : Int) ∧ (↑(Prod.fst i) : Int) < (↑(List.length cs) : Int) ∧ ∃ (h'_1 : AHeap), AHeap.wr h' l (r + Int.toNat (↑(Prod.fst i) : Int)) (0 : Nat) [Value.int IntKind.i64 x_2, Value.int IntKind.i64 x_3, Value.slice a_1 n_1 c_1] = some h'_1 ∧ ∃ (j : Nat × AHeap), Value.slice pa (List.length cs) pc = Value.slice pa (List.length cs) pc ∧ Value.slice pa (List.length cs) pc = Value.slice pa (List.length cs) pc ∧ Value.int IntKind.i64 (↑(List.length cs) : Int) = Value.int IntKind.i64 (↑(List.length cs) : Int) ∧ Value.int IntKind.i64 (IntKind.wrap IntKind.i64 ((↑(Prod.fst i) : Int) + (1 : Int))) = Value.int IntKind.i64 (↑(Prod.fst j) : Int) ∧ Prod.snd j = h'_1 ∧ OwP changeSh h pa pc cs (Prod.fst j) (Prod.snd j) ∧ List.length cs - Prod.fst j < List.length cs - Prod.fst i ∧ (∀ (k : AHeap), OwP changeSh h pa pc cs (List.length cs) k → OwP changeSh h pa pc cs (List.length cs) k) ∧ ∀ (v : Value) (h : AHeap), False → False) (∃ (j : AHeap), Value.slice pa (List.length cs) pc = Value.slice pa (List.length cs) pc ∧ j = Prod.snd i ∧ OwP changeSh h pa pc cs (List.length cs) j)) ∧ True ∧ (True ∧ True) ∧ (True ∧ True) ∧ True) ∧ True ∧ True) = _) ?_
    simp only [true_and, and_true]
    refine fun ⟨i, g⟩ I => ?_
    dsimp only at *
    refine bs_d (fun hlt => ?_) (fun hge => ⟨g, rfl, (show i = cs.length by have := I.1; omega) ▸ I⟩)
    obtain ⟨⟨f, v, ps⟩, hat⟩ : ∃ y : Int × Int × List proofSh.T, cs[i]? = some y := ⟨_, List.getElem?_eq_getElem (by omega)⟩
    obtain ⟨lo, rows, row, e, hg, hr, rd, hld, stp⟩ := I.row hat
    obtain ⟨v1, rfl, s1⟩ := rd_change.1 rd
    obtain ⟨a2, c2, rfl⟩ := s1.isSlice
    dsimp only at s1 hld
    have smb := sm.2 (f, v, ps) (List.mem_of_getElem? hat)
    obtain ⟨_, g2, A2, le2, w2, a3, c3, js, rfl, s2, f2⟩ := cloneChg_spec g I.wf f v ps a2 c2 (s1.mono I.le) smb.2.2
    refine ⟨lo, 0, e, Int.natCast_nonneg _, hlt, _, _, _, _, _, hld, _, _, _, _, _, _, A2, lo, 0, e, Int.natCast_nonneg _, hlt, _, ?_, (i + 1, _), by rw [wrap_i64 (by omega)]; rfl, rfl, stp g2 _ js le2 w2 (rn_chg s2) f2, by dsimp only; omega, fun _ h => h, fun _ _ h => h⟩
    rw [show 0 + ((i : Nat) : Int).toNat = i by omega]
    exact wr_field (le2.get _ _ hg) hr (by simp)
  refine vc_mp (by kernel_rfl : (∃ (a_1 : Option Addr), ∃ (n : Nat), ∃ (c_1 : Nat), ∃ (h' : AHeap), ACall Tryz.prog (160 : Nat) [Value.slice a (List.length cs) c] h (Value.slice a_1 n c_1) h' ∧ ∃ (i : Nat × AHeap), Value.slice a_1 n c_1 = Value.slice pa (List.length cs) pc ∧ Value.slice a_1 n c_1 = Value.slice pa (List.length cs) pc ∧ Value.int IntKind.i64 (↑n : Int) = Value.int IntKind.i64 (↑(List.length cs) : Int) ∧ Value.int IntKind.i64 (0 : Int) = Value.int IntKind.i64 (↑(Prod.fst i) : Int) ∧ Prod.snd i = h' ∧ OwP changeSh h pa pc cs (Prod.fst i) (Prod.snd i) ∧ (∀ (j : AHeap), OwP changeSh h pa pc cs (List.length cs) j → Q (Value.slice pa (List.length cs) pc) j) ∧ ∀ (v : Value) (h : AHeap), False → Q v h) = _) ?_
  refine ⟨_, _, _, _, A0, (0, g0), rfl, rfl, rfl, rfl, rfl, I0, fun g I => ?_, fun _ _ h => h.elim⟩
  obtain ⟨js, s, f⟩ := I.fin
  exact HQ _ _ ⟨I.le, I.wf, pa, pc, js, rfl, s, f⟩
theorem cloneSay_spec (h : AHeap) (hw : h.wf) (k f v q : Int) (op : ByteArray) (cs : List changeSh.T) (a : Option Addr) (c : Nat) (hx : Sl h changeSh cs (.slice a cs.length c)) (sm : (Sh.sl changeSh).small cs) :
    ∃ r h', ACall Tryz.prog 97 [.agg #[.int .i64 k, .int .i64 f, .int .i64 v, .int .i64 q, .string op, .slice a cs.length c]] h r h' ∧ h.Le h' ∧ h'.wf ∧ ∃ a' c' js, r = .agg #[.int .i64 k, .int .i64 f, .int .i64 v, .int .i64 q, .string op, .slice a' cs.length c'] ∧ Sn h' changeSh cs (.slice a' cs.length c') js ∧ Fresh h.n h'.n js := by
  obtain ⟨_, g, A, le, w, a', c', js, rfl, s, fr⟩ := cloneChgs_spec h hw cs a c hx sm
  refine acall_q fun Q HQ => ?_
  refine acall_vc (fun _ => false) (fun _ => []) (fun _ => .none) mixed Tryz.func97 rfl rfl rfl (Nat.le_of_ble_eq_true rfl) (by refine vc_mp (by kernel_rfl : (True ∧ True ∧ True ∧ True) = _) ?_; simp only [and_self]) ?_
  refine vc_mp (by kernel_rfl : (∃ (a_1 : Option Addr), ∃ (n : Nat), ∃ (c_1 : Nat), ∃ (h' : AHeap), ACall Tryz.prog (138 : Nat) [Value.slice a (List.length cs) c] h (Value.slice a_1 n c_1) h' ∧ Q (Value.agg (Array.mk [Value.int IntKind.i64 k, Value.int IntKind.i64 f, Value.int IntKind.i64 v, Value.int IntKind.i64 q, Value.string op, Value.slice a_1 n c_1])) h') = _) ?_
  exact ⟨_, _, _, _, A, HQ _ _ ⟨le, w, a', c', js, rfl, s, fr⟩⟩
def spfL (h : AHeap) (ps : List proofSh.T) (pa : Option Addr) (pc : Nat) : LSpec where
  ι := Nat × AHeap
  κ := AHeap
  I := fun i => OwP proofSh h pa pc ps i.1 i.2
  μ := fun i => ps.length - i.1
  head := fun i => ⟨[(3, .slice pa ps.length pc), (4, .int .i64 i.1)], [], i.2⟩
  post := fun g => ⟨[(3, .slice pa ps.length pc)], [], g⟩
  R := fun _ g => OwP proofSh h pa pc ps ps.length g
  ret := fun _ _ _ => False
theorem l13Proofs_spec (h : AHeap) (hw : h.wf) (ps : List proofSh.T) (a : Option Addr) (c : Nat) (hx : Sl h proofSh ps (.slice a ps.length c)) (sm : (Sh.sl proofSh).small ps) :
    ∃ r h', ACall Tryz.prog 129 [.slice a ps.length c] h r h' ∧ h.Le h' ∧ h'.wf ∧ ∃ a' c' js, r = .slice a' ps.length c' ∧ Sn h' proofSh ps (.slice a' ps.length c') js ∧ Fresh h.n h'.n js := by
  have n1 : ps.length ≤ 1048576 := sm.1
  obtain ⟨rows, e1, e2, e3, lo, pc, g0, e4, C⟩ := app_shallow (s := proofSh) hw hx
  have I0 := OwP.cpy hw C
  refine acall_q fun Q HQ => ?_
  refine acall_vc (fun _ => false) (fun _ => []) (fun _ => spfL h ps (some ⟨lo, 0, some proofSh.cells⟩) pc) mixed Tryz.func129 rfl rfl rfl (Nat.le_of_ble_eq_true rfl) ?_ ?_
  · refine vc_mp (by kernel_rfl : (True ∧ True ∧ (True ∧ (∀ (i : Nat × AHeap), OwP proofSh h (some (Addr.mk lo (0 : Nat) (some (Sh.cells proofSh)))) pc ps (Prod.fst i) (Prod.snd i) → bs (decide ((↑(Prod.fst i) : Int) < (↑(List.length ps) : Int))) (∃ (l : Nat), ∃ (r : Nat), some (Addr.mk lo (0 : Nat) (some (Sh.cells proofSh))) = some (Addr.mk l r (some (4 : Nat))) ∧ (0 : Int) ≤ (↑(Prod.fst i) : Int) ∧ (↑(Prod.fst i) : Int) < (↑(List.length ps) : Int) ∧ ∃ (a : Option Addr), ∃ (n : Nat), ∃ (c : Nat), AHeap.ld (AHeap.push (Prod.snd i) (AObj.mk [] (1 : Nat) true)) l (r + Int.toNat (↑(Prod.fst i) : Int)) (3 : Nat) (1 : Nat) = some [Value.slice a n c] ∧ ∃ (xs : List (List Value)), rowsV (AHeap.push (Prod.snd i) (AObj.mk [] (1 : Nat) true)) (Value.slice a n c) = some xs ∧ (List.all xs fun (row : List Value) => decide (List.length row = (1 : Nat)) && List.all row fun (v : Value) => match v with | Value.agg cells => false | Value.tuple cells => false | Value.complex k re im => false | Value.chan r => false | x => true) = true ∧ ((0 : Nat) + List.length xs) * (8 : Nat) ≤ (140737488355328 : Nat) ∧ ∃ (a : Option Addr), ∃ (n : Nat), ∃ (c : Nat), ∃ (h' : AHeap), AHeap.app (AHeap.push (Prod.snd i) (AObj.mk [] (1 : Nat) true)) (Value.slice (some (Addr.mk (AHeap.n (Prod.snd i)) (0 : Nat) (some (1 : Nat)))) (0 : Nat) (1 : Nat)) xs (1 : Nat) = some (Value.slice a n c, h') ∧ ∃ (l : Nat), ∃ (r : Nat), some (Addr.mk lo (0 : Nat) (some (Sh.cells proofSh))) = some (Addr.mk l r (some (4 : Nat))) ∧ (0 : Int) ≤ (↑(Prod.fst i) : Int) ∧ (↑(Prod.fst i) : Int) < (↑(List.length ps) : Int) ∧ ∃ (h'_1 : AHeap), AHeap.wr h' l (r + Int.toNat (↑(Prod.fst i) : Int)) (3 : Nat) [Value.slice a n c] = some h'_1 ∧ ∃ (j : Nat × AHeap), Value.slice (some (Addr.mk lo (0 : Nat) (some (Sh.cells proofSh)))) (List.length ps) pc = Value.slice (some (Addr.mk lo (0 : Nat) (some (Sh.cells proofSh)))) (List.length ps) pc ∧ Value.int IntKind.i64 (IntKind.wrap IntKind.i64 ((↑(Prod.fst i) : Int) + (1 : Int))) = Value.int IntKind.i64 (↑(Prod.fst j) : Int) ∧ Prod.snd j = h'_1 ∧ OwP proofSh h (some (Addr.mk lo (0 : Nat) (some (Sh.cells proofSh)))) pc ps (Prod.fst j) (Prod.snd j) ∧ List.length ps - Prod.fst j < List.length ps - Prod.fst i ∧ (∀ (k : AHeap), OwP proofSh h (some (Addr.mk lo (0 : Nat) (some (Sh.cells proofSh)))) pc ps (List.length ps) k → OwP proofSh h (some (Addr.mk lo (0 : Nat) (some (Sh.cells proofSh)))) pc ps (List.length ps) k) ∧ ∀ (v : Value) (h : AHeap), False → False) (∃ (j : AHeap), Value.slice (some (Addr.mk lo (0 : Nat) (some (Sh.cells proofSh)))) (List.length ps) pc = Value.slice (some (Addr.mk lo (0 : Nat) (some (Sh.cells proofSh)))) (List.length ps) pc ∧ j = Prod.snd i ∧ OwP proofSh h (some (Addr.mk lo (0 : Nat) (some (Sh.cells proofSh)))) pc ps (List.length ps) j)) ∧ (True ∧ True ∧ True) ∧ True ∧ True) ∧ True ∧ True) = _) ?_
    simp only [true_and, and_true]
    refine fun ⟨i, g⟩ I => ?_
    dsimp only at *
    refine bs_d (fun hlt => ?_) (fun hge => ⟨g, rfl, (show i = ps.length by have := I.1; omega) ▸ I⟩)
    obtain ⟨⟨pv, pq, po, pb⟩, hat⟩ : ∃ y : Int × Int × ByteArray × List Sh.int.T, ps[i]? = some y := ⟨_, List.getElem?_eq_getElem (by omega)⟩
    obtain ⟨lo', rows', row, e, hg, hr, rd, hld, stp⟩ := I.row hat
    cases e
    obtain ⟨v1, rfl, s1⟩ := rd_proof.1 rd
    obtain ⟨a2, c2, rfl⟩ := s1.isSlice
    dsimp only at s1 hld
    have smb := sm.2 (pv, pq, po, pb) (List.mem_of_getElem? hat)
    have hb : List.length (α := Int) pb ≤ 1048576 := smb.2.2.2.1
    obtain ⟨rows2, u1, u2, u3, l2, c3, g2, u4, C2⟩ := app_shallow (s := Sh.int) I.wf (s1.mono I.le)
    have lp := AHeap.Le.push I.wf ⟨[], 1, true⟩
    refine ⟨lo, 0, rfl, Int.natCast_nonneg _, hlt, _, _, _, ld_cells (k := 3) (m := 1) (lp.ld hld) (by simp), rows2, u1, u2, by rw [u3]; omega, _, _, _, g2, u4, lo, 0, rfl, Int.natCast_nonneg _, hlt, _, ?_, (i + 1, _), by rw [wrap_i64 (by omega)]; rfl, rfl, stp g2 _ [l2] C2.le C2.wf (rn_prf (C2.sn rfl)) ⟨by simp, fun z hz => by rw [List.mem_singleton.1 hz]; exact ⟨C2.new, C2.wf.lt C2.get⟩⟩, by dsimp only; omega, fun _ h => h, fun _ _ h => h⟩
    rw [show 0 + ((i : Nat) : Int).toNat = i by omega]
    exact wr_field (C2.le.get _ _ hg) hr (by simp)
  refine vc_mp (by kernel_rfl : (∃ (xs : List (List Value)), rowsV (AHeap.push h (AObj.mk [] (4 : Nat) true)) (Value.slice a (List.length ps) c) = some xs ∧ (List.all xs fun (row : List Value) => decide (List.length row = (4 : Nat)) && List.all row fun (v : Value) => match v with | Value.agg cells => false | Value.tuple cells => false | Value.complex k re im => false | Value.chan r => false | x => true) = true ∧ ((0 : Nat) + List.length xs) * (56 : Nat) ≤ (140737488355328 : Nat) ∧ ∃ (a : Option Addr), ∃ (n : Nat), ∃ (c : Nat), ∃ (h' : AHeap), AHeap.app (AHeap.push h (AObj.mk [] (4 : Nat) true)) (Value.slice (some (Addr.mk (AHeap.n h) (0 : Nat) (some (4 : Nat)))) (0 : Nat) (1 : Nat)) xs (4 : Nat) = some (Value.slice a n c, h') ∧ ∃ (i : Nat × AHeap), Value.slice a n c = Value.slice (some (Addr.mk lo (0 : Nat) (some (Sh.cells proofSh)))) (List.length ps) pc ∧ Value.int IntKind.i64 (0 : Int) = Value.int IntKind.i64 (↑(Prod.fst i) : Int) ∧ Prod.snd i = h' ∧ OwP proofSh h (some (Addr.mk lo (0 : Nat) (some (Sh.cells proofSh)))) pc ps (Prod.fst i) (Prod.snd i) ∧ (∀ (j : AHeap), OwP proofSh h (some (Addr.mk lo (0 : Nat) (some (Sh.cells proofSh)))) pc ps (List.length ps) j → Q (Value.slice (some (Addr.mk lo (0 : Nat) (some (Sh.cells proofSh)))) (List.length ps) pc) j) ∧ ∀ (v : Value) (h : AHeap), False → Q v h) = _) ?_
  refine ⟨rows, e1, e2, by rw [e3]; omega, _, _, _, g0, e4, (0, g0), rfl, rfl, rfl, I0, fun g I => ?_, fun _ _ h => h.elim⟩
  obtain ⟨js, s, f⟩ := I.fin
  exact HQ _ _ ⟨I.le, I.wf, _, pc, js, rfl, s, f⟩
def scgL (h : AHeap) (cs : List changeSh.T) (pa : Option Addr) (pc : Nat) : LSpec where
  ι := Nat × AHeap
  κ := AHeap
  I := fun i => OwP changeSh h pa pc cs i.1 i.2
  μ := fun i => cs.length - i.1
  head := fun i => ⟨[(3, .slice pa cs.length pc), (4, .int .i64 i.1)], [], i.2⟩
  post := fun g => ⟨[(3, .slice pa cs.length pc)], [], g⟩
  R := fun _ g => OwP changeSh h pa pc cs cs.length g
  ret := fun _ _ _ => False
theorem l13CopyChanges_spec (h : AHeap) (hw : h.wf) (cs : List changeSh.T) (a : Option Addr) (c : Nat) (hx : Sl h changeSh cs (.slice a cs.length c)) (sm : (Sh.sl changeSh).small cs) :
    ∃ r h', ACall Tryz.prog 71 [.slice a cs.length c] h r h' ∧ h.Le h' ∧ h'.wf ∧ ∃ a' c' js, r = .slice a' cs.length c' ∧ Sn h' changeSh cs (.slice a' cs.length c') js ∧ Fresh h.n h'.n js := by
  have n1 : cs.length ≤ 1048576 := sm.1
  obtain ⟨rows, e1, e2, e3, lo, pc, g0, e4, C⟩ := app_shallow (s := changeSh) hw hx
  have I0 := OwP.cpy hw C
  refine acall_q fun Q HQ => ?_
  refine acall_vc (fun _ => false) (fun _ => []) (fun _ => scgL h cs (some ⟨lo, 0, some changeSh.cells⟩) pc) mixed Tryz.func71 rfl rfl rfl (Nat.le_of_ble_eq_true rfl) ?_ ?_
  · refine vc_mp (by kernel_rfl : (True ∧ True ∧ (True ∧ (∀ (i : Nat × AHeap), OwP changeSh h (some (Addr.mk lo (0 : Nat) (some (Sh.cells changeSh)))) pc cs (Prod.fst i) (Prod.snd i) → bs (decide ((↑(Prod.fst i) : Int) < (↑(List.length cs) : Int))) (∃ (l : Nat), ∃ (r : Nat), some (Addr.mk lo (0 : Nat) (some (Sh.cells changeSh))) = some (Addr.mk l r (some (3 : Nat))) ∧ (0 : Int) ≤ (↑(Prod.fst i) : Int) ∧ (↑(Prod.fst i) : Int) < (↑(List.length cs) : Int) ∧ ∃ (a : Option Addr), ∃ (n : Nat), ∃ (c : Nat), AHeap.ld (Prod.snd i) l (r + Int.toNat (↑(Prod.fst i) : Int)) (2 : Nat) (1 : Nat) = some [Value.slice a n c] ∧ ∃ (a_1 : Option Addr), ∃ (n_1 : Nat), ∃ (c_1 : Nat), ∃ (h' : AHeap), ACall Tryz.prog (129 : Nat) [Value.slice a n c] (Prod.snd i) (Value.slice a_1 n_1 c_1) h' ∧ ∃ (l : Nat), ∃ (r : Nat), some (Addr.mk lo (0 : Nat) (some (Sh.cells changeSh))) = some (Addr.mk l r (some (3 : Nat))) ∧ (0 : Int) ≤ (↑(Prod.fst i) : Int) ∧ (↑(Prod.fst i) : Int) < (↑(List.length cs) : Int) ∧ ∃ (h'_1 : AHeap), AHeap.wr h' l (r + Int.toNat (↑(Prod.fst i) : Int)) (2 : Nat) [Value.slice a_1 n_1 c_1] = some h'_1 ∧ ∃ (j : Nat × AHeap), Value.slice (some (Addr.mk lo (0 : Nat) (some (Sh.cells changeSh)))) (List.length cs) pc = Value.slice (some (Addr.mk lo (0 : Nat) (some (Sh.cells changeSh)))) (List.length cs) pc ∧ Value.int IntKind.i64 (IntKind.wrap IntKind.i64 ((↑(Prod.fst i) : Int) + (1 : Int))) = Value.int IntKind.i64 (↑(Prod.fst j) : Int) ∧ Prod.snd j = h'_1 ∧ OwP changeSh h (some (Addr.mk lo (0 : Nat) (some (Sh.cells changeSh)))) pc cs (Prod.fst j) (Prod.snd j) ∧ List.length cs - Prod.fst j < List.length cs - Prod.fst i ∧ (∀ (k : AHeap), OwP changeSh h (some (Addr.mk lo (0 : Nat) (some (Sh.cells changeSh)))) pc cs (List.length cs) k → OwP changeSh h (some (Addr.mk lo (0 : Nat) (some (Sh.cells changeSh)))) pc cs (List.length cs) k) ∧ ∀ (v : Value) (h : AHeap), False → False) (∃ (j : AHeap), Value.slice (some (Addr.mk lo (0 : Nat) (some (Sh.cells changeSh)))) (List.length cs) pc = Value.slice (some (Addr.mk lo (0 : Nat) (some (Sh.cells changeSh)))) (List.length cs) pc ∧ j = Prod.snd i ∧ OwP changeSh h (some (Addr.mk lo (0 : Nat) (some (Sh.cells changeSh)))) pc cs (List.length cs) j)) ∧ (True ∧ True ∧ True) ∧ True ∧ True) ∧ True ∧ True) = _) ?_
    simp only [true_and, and_true]
    refine fun ⟨i, g⟩ I => ?_
    dsimp only at *
    refine bs_d (fun hlt => ?_) (fun hge => ⟨g, rfl, (show i = cs.length by have := I.1; omega) ▸ I⟩)
    obtain ⟨⟨f, v, ps⟩, hat⟩ : ∃ y : Int × Int × List proofSh.T, cs[i]? = some y := ⟨_, List.getElem?_eq_getElem (by omega)⟩
    obtain ⟨lo', rows', row, e, hg, hr, rd, hld, stp⟩ := I.row hat
    cases e
    obtain ⟨v1, rfl, s1⟩ := rd_change.1 rd
    obtain ⟨a2, c2, rfl⟩ := s1.isSlice
    dsimp only at s1 hld
    have smb := sm.2 (f, v, ps) (List.mem_of_getElem? hat)
    obtain ⟨_, g2, A2, le2, w2, a3, c3, js, rfl, s2, f2⟩ := l13Proofs_spec g I.wf ps a2 c2 (s1.mono I.le) smb.2.2
    refine ⟨lo, 0, rfl, Int.natCast_nonneg _, hlt, _, _, _, ld_cells (k := 2) (m := 1) hld (by simp), _, _, _, _, A2, lo, 0, rfl, Int.natCast_nonneg _, hlt, _, ?_, (i + 1, _), by rw [wrap_i64 (by omega)]; rfl, rfl, stp g2 _ js le2 w2 (rn_chg s2) f2, by dsimp only; omega, fun _ h => h, fun _ _ h => h⟩
    rw [show 0 + ((i : Nat) : Int).toNat = i by omega]
    exact wr_field (le2.get _ _ hg) hr (by simp)
  refine vc_mp (by kernel_rfl : (∃ (xs : List (List Value)), rowsV (AHeap.push h (AObj.mk [] (3 : Nat) true)) (Value.slice a (List.length cs) c) = some xs ∧ (List.all xs fun (row : List Value) => decide (List.length row = (3 : Nat)) && List.all row fun (v : Value) => match v with | Value.agg cells => false | Value.tuple cells => false | Value.complex k re im => false | Value.chan r => false | x => true) = true ∧ ((0 : Nat) + List.length xs) * (40 : Nat) ≤ (140737488355328 : Nat) ∧ ∃ (a : Option Addr), ∃ (n : Nat), ∃ (c : Nat), ∃ (h' : AHeap), AHeap.app (AHeap.push h (AObj.mk [] (3 : Nat) true)) (Value.slice (some (Addr.mk (AHeap.n h) (0 : Nat) (some (3 : Nat)))) (0 : Nat) (1 : Nat)) xs (3 : Nat) = some (Value.slice a n c, h') ∧ ∃ (i : Nat × AHeap), Value.slice a n c = Value.slice (some (Addr.mk lo (0 : Nat) (some (Sh.cells changeSh)))) (List.length cs) pc ∧ Value.int IntKind.i64 (0 : Int) = Value.int IntKind.i64 (↑(Prod.fst i) : Int) ∧ Prod.snd i = h' ∧ OwP changeSh h (some (Addr.mk lo (0 : Nat) (some (Sh.cells changeSh)))) pc cs (Prod.fst i) (Prod.snd i) ∧ (∀ (j : AHeap), OwP changeSh h (some (Addr.mk lo (0 : Nat) (some (Sh.cells changeSh)))) pc cs (List.length cs) j → Q (Value.slice (some (Addr.mk lo (0 : Nat) (some (Sh.cells changeSh)))) (List.length cs) pc) j) ∧ ∀ (v : Value) (h : AHeap), False → Q v h) = _) ?_
  refine ⟨rows, e1, e2, by rw [e3]; omega, _, _, _, g0, e4, (0, g0), rfl, rfl, rfl, I0, fun g I => ?_, fun _ _ h => h.elim⟩
  obtain ⟨js, s, f⟩ := I.fin
  exact HQ _ _ ⟨I.le, I.wf, _, pc, js, rfl, s, f⟩
theorem l13CopySay_spec (h : AHeap) (hw : h.wf) (k f v q : Int) (op : ByteArray) (cs : List changeSh.T) (a : Option Addr) (c : Nat) (hx : Sl h changeSh cs (.slice a cs.length c)) (sm : (Sh.sl changeSh).small cs) :
    ∃ r h', ACall Tryz.prog 34 [.agg #[.int .i64 k, .int .i64 f, .int .i64 v, .int .i64 q, .string op, .slice a cs.length c]] h r h' ∧ h.Le h' ∧ h'.wf ∧ ∃ a' c' js, r = .agg #[.int .i64 k, .int .i64 f, .int .i64 v, .int .i64 q, .string op, .slice a' cs.length c'] ∧ Sn h' changeSh cs (.slice a' cs.length c') js ∧ Fresh h.n h'.n js := by
  obtain ⟨_, g, A, le, w, a', c', js, rfl, s, fr⟩ := l13CopyChanges_spec h hw cs a c hx sm
  refine acall_q fun Q HQ => ?_
  refine acall_vc (fun _ => false) (fun _ => []) (fun _ => .none) mixed Tryz.func34 rfl rfl rfl (Nat.le_of_ble_eq_true rfl) (by refine vc_mp (by kernel_rfl : (True ∧ True ∧ True ∧ True) = _) ?_; simp only [and_self]) ?_
  refine vc_mp (by kernel_rfl : (∃ (a_1 : Option Addr), ∃ (n : Nat), ∃ (c_1 : Nat), ∃ (h' : AHeap), ACall Tryz.prog (71 : Nat) [Value.slice a (List.length cs) c] h (Value.slice a_1 n c_1) h' ∧ Q (Value.agg (Array.mk [Value.int IntKind.i64 k, Value.int IntKind.i64 f, Value.int IntKind.i64 v, Value.int IntKind.i64 q, Value.string op, Value.slice a_1 n c_1])) h') = _) ?_
  exact ⟨_, _, _, _, A, HQ _ _ ⟨le, w, a', c', js, rfl, s, fr⟩⟩
end Go.Proofs.YtpgfjadjhliohaaGreat
