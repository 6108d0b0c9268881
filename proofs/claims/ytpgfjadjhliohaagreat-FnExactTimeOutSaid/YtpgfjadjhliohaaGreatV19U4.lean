/- U3, U4. -/
import Derived.Test.YtpgfjadjhliohaaGreatV19W0
section
namespace Go.Dat
open Go.Abs
def ChAt (xs : List changeSh.T) (f v : Int) (i : Nat) : Prop := ∃ x : changeSh.T, xs[i]? = some x ∧ (show Int from x.1) = f ∧ (show Int from x.2.1) = v
theorem ChAt.iff {xs : List changeSh.T} {f v f' v' : Int} {p : List proofSh.T} {i : Nat} (h : xs[i]? = some (f', v', p)) : ChAt xs f v i ↔ f' = f ∧ v' = v := ⟨fun ⟨x', e, H⟩ => by rw [h] at e; cases e; exact H, fun H => ⟨_, h, H⟩⟩
def CgAt (xs : List changeSh.T) (i : Nat) : Prop := ∃ x : changeSh.T, xs[i]? = some x ∧ ChgOk x.1 x.2.1 x.2.2 ∧ ∀ j, j < i → ¬ ChAt xs x.1 x.2.1 j
theorem CgAt.out {xs : List changeSh.T} {i : Nat} {f v : Int} {p : List proofSh.T} (H : CgAt xs i) (e : xs[i]? = some (f, v, p)) : ChgOk f v p ∧ ∀ j, j < i → ¬ ChAt xs f v j := by
  obtain ⟨x, e', h1, h2⟩ := H
  rw [e] at e'
  cases e'
  exact ⟨h1, h2⟩
def CgsOk (xs : List changeSh.T) : Prop := xs.length ≤ 40 ∧ ∀ i, i < xs.length → CgAt xs i
theorem ChAt.pre {xs : List changeSh.T} {f v : Int} {i j : Nat} (hj : j < i) : ChAt (xs.take i) f v j ↔ ChAt xs f v j := by
  unfold ChAt
  rw [List.getElem?_take, if_pos hj]
theorem chs_pre {xs : List changeSh.T} {f v : Int} {i : Nat} : (∀ j, j < i → ¬ ChAt (xs.take i) f v j) ↔ ∀ j, j < i → ¬ ChAt xs f v j :=
  ⟨fun H j hj h => H j hj ((ChAt.pre hj).2 h), fun H j hj h => H j hj ((ChAt.pre hj).1 h)⟩
theorem IdxRes.none {P : Nat → Prop} {n : Nat} {r : Int} (H : IdxRes P n r) : r < 0 ↔ ∀ j, j < n → ¬ P j := by
  rcases H with ⟨rfl, h⟩ | ⟨m, hm, rfl, h1, h2⟩
  · exact ⟨fun _ => h, fun _ => by decide⟩
  · exact ⟨fun hlt => by omega, fun H => absurd h1 (H m hm)⟩
end Go.Dat
namespace Go.Proofs.YtpgfjadjhliohaaGreat
open Go.Abs Go.Dat
set_option maxRecDepth 100000
set_option maxHeartbeats 8000000
abbrev Qce := List (Sh.T changeSh)
abbrev Qcf := Option Addr
abbrev Qcg := ByteArray
abbrev Qch := List (Sh.T Sh.str)
abbrev Qci := Sh.T Sh.str
abbrev Qcj := Sh.T Sh.int
abbrev Qck := Sh.T (Sh.sl changeSh)
def Qb9 := True ∧ True ∧ True
def Qba (a : Value) (b : Bool) := a = Value.bool b
def Qbb (a : Bool) := Qba (Value.bool false) a
def Qbc (a : Int) := Value.int IntKind.i64 a
theorem changeIndex1_spec (h : AHeap) (lo : Nat) (f v : Int) (y : Value) (f' v' : Int) (a : Option Addr) (n c : Nat) (hd : h.ld lo 0 0 3 = some [.int .i64 f, .int .i64 v, y]) :
    ACall Tryz.prog 137 [.agg #[.int .i64 f', .int .i64 v', .slice a n c], .pointer (some ⟨lo, 0, some 0⟩)] h (.bool (tr (f' = f ∧ v' = v))) h := by
  refine acall_out (acall_vc (fun _ => false) (fun _ => []) (fun _ => .none) mixed Tryz.func137 rfl rfl rfl (Nat.le_of_ble_eq_true rfl) (by (refine vc_mp (by kernel_rfl : (Qb9) = _) ?_; delta Qb9); simp only [and_self]) ?_)
  (refine vc_mp (by kernel_rfl : (∃ (x : Int), AHeap.ld h lo 0 0 1 = some [Qbc x] ∧ bs (decide (f' = x)) (∃ (x : Int), AHeap.ld h lo 0 1 1 = some [Qbc x] ∧ Qba (Value.bool (decide (v' = x))) (tr (f' = f ∧ v' = v)) ∧ h = h) (Qbb (tr (f' = f ∧ v' = v)) ∧ h = h)) = _) ?_; delta Qba Qbb Qbc)
  refine ⟨_, ld_cells (k := 0) (m := 1) hd (by simp), bs_d (fun e1 => ?_) (fun e => ⟨congrArg _ (tr_false fun H => e H.1), rfl⟩)⟩
  refine ⟨_, ld_cells (k := 1) (m := 1) hd (by simp), congrArg _ ?_, rfl⟩
  rw [tr_dec]
  exact tr_congr ⟨fun H => ⟨e1, H⟩, fun H => H.2⟩
def cloC (lo : Nat) : Value := .func (.func 137) #[] #[.pointer (some ⟨lo, 0, some 0⟩)]
def ixcL (a : Option Addr) (n c lo : Nat) (h : AHeap) (xs : List changeSh.T) (f v : Int) : LSpec where
  ι := Nat
  κ := Unit
  I := fun i => i ≤ n ∧ ∀ j, j < i → ¬ ChAt xs f v j
  μ := fun i => n - i
  head := fun i => ⟨[(0, .slice a n c), (1, cloC lo), (7, .int .i64 n), (8, .int .i64 i)], [], h⟩
  post := fun _ => ⟨[], [], h⟩
  R := fun _ _ => ∀ j, j < n → ¬ ChAt xs f v j
  ret := fun _ v' h' => h' = h ∧ ∃ r : Int, v' = .int .i64 r ∧ IdxRes (ChAt xs f v) n r
def Qbd (a b c d e : Prop) := a ∧ b ∧ c ∧ d ∧ e
def Qbe (a : Nat) (b : Qce) := a < List.length b
def Qbf (a : Nat) (b : Qce) (c d : Int) := Qbe a b → Not (ChAt b c d a)
def Qbg (a : Qce) := (↑(List.length a) : Int)
def Qbh := (0 : Int)
def Qbi (a : Qcf) (b c d : Nat) (e : Qce) (f : Prop) := a = some (Addr.mk b c (some 3)) ∧ Qbh ≤ (↑d : Int) ∧ (↑d : Int) < Qbg e ∧ f
def Qbj (a : Value) (b : Int) (c : Qce) (d e : Int) := a = Qbc b ∧ IdxRes (ChAt c d e) (List.length c) b
def Qbk (a : Qce) (b : Nat) := List.length a - b
def Qbl (a : Nat) (b : Qce) (c : Prop) := a ≤ List.length b ∧ c
def Qbm (a b : Nat) (c : Qce) (d e : Int) := a < b → Not (ChAt c d e a)
def Qbn (a b : Nat) := Qbc (IntKind.wrap IntKind.i64 ((↑a : Int) + 1)) = Qbc (↑b : Int)
def Qbo (a : Int) := Qbc a = Qbc a
def Qbp (a : FuncId) (b : List Value) := Value.func (Fn.func a) (Array.mk List.nil) (Array.mk b)
def Qbq (a : List Value) := Qbp 137 a
def Qbr (a : Nat) := Value.pointer (some (Addr.mk a 0 (some 0)))
def Qbs (a : Qcf) (b : Qce) (c : Nat) := Value.slice a (List.length b) c
def Qbt (a b : Int) (c : Qcf) (d e : Nat) := [Qbc a, Qbc b, Value.slice c d e]
def Qbu (a : Nat) := Int.toNat (↑a : Int)
def Qbv (a : Nat) := Qbc Qbh = Qbc (↑a : Int)
theorem indexChange_spec (h : AHeap) (a : Option Addr) (c lo : Nat) (xs : List changeSh.T) (f v : Int) (y : Value) (hx : Sl h changeSh xs (.slice a xs.length c)) (hn : xs.length ≤ 9223372036854775807) (hd : h.ld lo 0 0 3 = some [.int .i64 f, .int .i64 v, y]) :
    ∃ r h', ACall Tryz.prog 136 [.slice a xs.length c, cloC lo] h r h' ∧ h' = h ∧ ∃ i : Int, r = .int .i64 i ∧ IdxRes (ChAt xs f v) xs.length i := by
  refine acall_q fun Q HQ => ?_
  refine acall_vc (fun _ => false) (fun _ => []) (fun _ => ixcL a xs.length c lo h xs f v) mixed Tryz.func136 rfl rfl rfl (Nat.le_of_ble_eq_true rfl) ?_ ?_
  · (refine vc_mp (by kernel_rfl : (True ∧ Qbd True (∀ (i : Nat), Qbl i xs (∀ (j : Nat), Qbm j i xs f v) → bs (decide ((↑i : Int) < Qbg xs)) (∃ (l r : Nat), Qbi a l r i xs (∃ (x x_1 : Int) (a_2 : Option Addr) (n c_1 : Nat), AHeap.ld h l (r + Qbu i) 0 3 = some (Qbt x x_1 a_2 n c_1) ∧ (∃ (x_2 : Bool) (h' : AHeap), ACall Tryz.prog 137 [Value.agg (Array.mk (Qbt x x_1 a_2 n c_1)), Qbr lo] h (Value.bool x_2) h' ∧ bs x_2 (h' = h ∧ (∃ (r : Int), Qbj (Qbc (↑i : Int)) r xs f v)) (∃ (j : Nat), Qbd (Qbs a xs c = Qbs a xs c) (Qbq [Qbr lo] = Qbq [Qbr lo]) (Qbo (Qbg xs)) (Qbn i j) (Qbd (h = h') (Qbl j xs (∀ (j_1 : Nat), Qbm j_1 j xs f v)) (Qbk xs j < Qbk xs i) (∀ (k : Unit), (∀ (j : Nat), Qbf j xs f v) → (∀ (j : Nat), Qbf j xs f v)) (∀ (v_1 : Value) (h_1 : AHeap), h_1 = h ∧ (∃ (r : Int), Qbj v_1 r xs f v) → h_1 = h ∧ (∃ (r : Int), Qbj v_1 r xs f v))))))) (∃ (j : Unit), h = h ∧ (∀ (j : Nat), Qbf j xs f v))) True (True ∧ True) ((True ∧ True ∧ (True ∧ True) ∧ True) ∧ True) ∧ True ∧ True) = _) ?_; delta Qbc Qbd Qbe Qbf Qbg Qbh Qbi Qbj Qbk Qbl Qbm Qbn Qbo Qbp Qbq Qbr Qbs Qbt Qbu)
    simp only [true_and, and_true]
    rintro (i : Nat) ⟨hi, hall⟩
    refine bs_d (fun hlt => ?_) (fun hge => ⟨(), fun j hj => hall j (by omega)⟩)
    have hio : i < xs.length := by omega
    obtain ⟨⟨f', v', p⟩, hat⟩ : ∃ y : Int × Int × List proofSh.T, xs[i]? = some y := ⟨_, List.getElem?_eq_getElem hio⟩
    obtain ⟨l, r, row, ha, _, hrd, hld⟩ := hx.elem hat
    obtain ⟨v1, rfl, s1⟩ := rd_change.1 hrd
    obtain ⟨a2, c2, rfl⟩ := s1.isSlice
    dsimp only at hld
    refine ⟨l, r, ha, Int.natCast_nonneg _, hlt, _, _, _, _, _, hld, _, _, changeIndex1_spec h lo f v y f' v' a2 _ c2 hd, bs_b (fun e => ?_) (fun e => ?_)⟩
    · exact ⟨rfl, _, rfl, .inr ⟨i, hio, rfl, (ChAt.iff hat).2 (of_tr e), hall⟩⟩
    · exact ⟨i + 1, by rw [wrap_i64 (by omega)]; rfl, rfl, ⟨by omega, upto_step hall (fun H => of_trn e ((ChAt.iff hat).1 H))⟩, by omega, fun _ h => h, fun _ _ h => h⟩
  (refine vc_mp (by kernel_rfl : (∃ (i : Nat), Qbd (Qbs a xs c = Qbs a xs c) (Qbq [Qbr lo] = Qbq [Qbr lo]) (Qbo (Qbg xs)) (Qbv i) (h = h ∧ Qbl i xs (∀ (j : Nat), Qbm j i xs f v) ∧ (∀ (j : Unit), (∀ (j : Nat), Qbf j xs f v) → Q (Qbc (-1)) h) ∧ (∀ (v_1 : Value) (h_1 : AHeap), h_1 = h ∧ (∃ (r : Int), Qbj v_1 r xs f v) → Q v_1 h_1))) = _) ?_; delta Qbc Qbd Qbe Qbf Qbg Qbh Qbj Qbl Qbm Qbo Qbp Qbq Qbr Qbs Qbv)
  exact ⟨(0 : Nat), rfl, rfl, rfl, rfl, rfl, ⟨Nat.zero_le _, fun j hj => absurd hj (Nat.not_lt_zero _)⟩, fun _ hall => HQ _ _ ⟨rfl, _, rfl, .inl ⟨rfl, hall⟩⟩, fun _ _ H => HQ _ _ H⟩
theorem changeIndex_spec (h : AHeap) (hw : h.wf) (a : Option Addr) (c : Nat) (xs : List changeSh.T) (f v : Int) (a' : Option Addr) (n' c' : Nat) (hx : Sl h changeSh xs (.slice a xs.length c)) (hn : xs.length ≤ 9223372036854775807) :
    ∃ r h', ACall Tryz.prog 93 [.slice a xs.length c, .agg #[.int .i64 f, .int .i64 v, .slice a' n' c']] h r h' ∧ h.Le h' ∧ h'.wf ∧ ∃ i : Int, r = .int .i64 i ∧ IdxRes (ChAt xs f v) xs.length i := by
  refine acall_q fun Q HQ => ?_
  refine acall_vc (fun t => t == 3) (fun _ => []) (fun _ => .none) mixed Tryz.func93 rfl rfl rfl (Nat.le_of_ble_eq_true rfl) (by (refine vc_mp (by kernel_rfl : (Qb9) = _) ?_; delta Qb9); simp only [and_self]) ?_
  (refine vc_mp (by kernel_rfl : (∃ (x : Int) (h' : AHeap), ACall Tryz.prog 136 [Qbs a xs c, Qbp 137 [Qbr (AHeap.n h)]] (AHeap.push h (AObj.mk [Qbt f v a' n' c'] 3 true)) (Qbc x) h' ∧ Q (Qbc x) h') = _) ?_; delta Qbc Qbp Qbr Qbs Qbt)
  have wp := hw.push ⟨[[.int .i64 f, .int .i64 v, .slice a' n' c']], 3, true⟩
  have lp := AHeap.Le.push hw ⟨[[.int .i64 f, .int .i64 v, .slice a' n' c']], 3, true⟩
  obtain ⟨_, _, A, rfl, i, rfl, hi⟩ := indexChange_spec _ a c h.n xs f v (.slice a' n' c') (hx.mono lp) hn (by rw [AHeap.ld, AHeap.get_push_eq]; rfl)
  exact ⟨_, _, A, HQ _ _ ⟨lp, wp, i, rfl, hi⟩⟩
def ofL (xs : List changeSh.T) (f v : Int) (a : Option Addr) (c : Nat) (h : AHeap) : LSpec where
  ι := Nat
  κ := Unit
  I := fun i => i ≤ xs.length ∧ ∀ j, j < i → ¬ ChAt xs f v j
  μ := fun i => xs.length - i
  head := fun i => ⟨[(0, .slice a xs.length c), (1, .int .i64 f), (2, .int .i64 v), (7, .int .i64 i)], [], h⟩
  post := fun _ => ⟨[], [], h⟩
  R := fun _ _ => ∀ j, j < xs.length → ¬ ChAt xs f v j
  ret := fun _ r h' => h' = h ∧ ∃ i : Int, r = .int .i64 i ∧ IdxRes (ChAt xs f v) xs.length i
def Qbw (a b : Prop) := Qbd True a Qb9 (True ∧ b ∧ True) True
def Qbx (a : AHeap) (b c d : Nat) := AHeap.ld a b (c + Qbu d) 0 1
theorem l13Of_spec (h : AHeap) (xs : List changeSh.T) (a : Option Addr) (c : Nat) (f v : Int) (hx : Sl h changeSh xs (.slice a xs.length c)) (hn : xs.length ≤ 9223372036854775807) :
    ∃ r h', ACall Tryz.prog 121 [.slice a xs.length c, .int .i64 f, .int .i64 v] h r h' ∧ h' = h ∧ ∃ i : Int, r = .int .i64 i ∧ IdxRes (ChAt xs f v) xs.length i := by
  refine acall_q fun Q HQ => ?_
  refine acall_vc (fun _ => false) (fun _ => []) (fun _ => ofL xs f v a c h) mixed Tryz.func121 rfl rfl rfl (Nat.le_of_ble_eq_true rfl) ?_ ?_
  · (refine vc_mp (by kernel_rfl : (True ∧ Qbw (∀ (i : Nat), Qbl i xs (∀ (j : Nat), Qbm j i xs f v) → bs (decide ((↑i : Int) < Qbg xs)) (∃ (l r : Nat), Qbi a l r i xs (∃ (x : Int), Qbx h l r i = some [Qbc x] ∧ bs (decide (x = f)) (∃ (l r : Nat), Qbi a l r i xs (∃ (x : Int), AHeap.ld h l (r + Qbu i) 1 1 = some [Qbc x] ∧ bs (decide (x = v)) (h = h ∧ (∃ (i_1 : Int), Qbj (Qbc (↑i : Int)) i_1 xs f v)) (∃ (j : Nat), Qbd (Qbs a xs c = Qbs a xs c) (Qbo f) (Qbo v) (Qbn i j) (Qbd (h = h) (Qbl j xs (∀ (j_1 : Nat), Qbm j_1 j xs f v)) (Qbk xs j < Qbk xs i) (∀ (k : Unit), (∀ (j : Nat), Qbf j xs f v) → (∀ (j : Nat), Qbf j xs f v)) (∀ (v_1 : Value) (h_1 : AHeap), h_1 = h ∧ (∃ (i : Int), Qbj v_1 i xs f v) → h_1 = h ∧ (∃ (i : Int), Qbj v_1 i xs f v)))))) (∃ (j : Nat), Qbd (Qbs a xs c = Qbs a xs c) (Qbo f) (Qbo v) (Qbn i j) (Qbd (h = h) (Qbl j xs (∀ (j_1 : Nat), Qbm j_1 j xs f v)) (Qbk xs j < Qbk xs i) (∀ (k : Unit), (∀ (j : Nat), Qbf j xs f v) → (∀ (j : Nat), Qbf j xs f v)) (∀ (v_1 : Value) (h_1 : AHeap), h_1 = h ∧ (∃ (i : Int), Qbj v_1 i xs f v) → h_1 = h ∧ (∃ (i : Int), Qbj v_1 i xs f v)))))) (∃ (j : Unit), h = h ∧ (∀ (j : Nat), Qbf j xs f v))) (True ∧ True) ∧ True ∧ True) = _) ?_; delta Qb9 Qbc Qbd Qbe Qbf Qbg Qbh Qbi Qbj Qbk Qbl Qbm Qbn Qbo Qbs Qbu Qbw Qbx)
    simp only [true_and, and_true]
    rintro (i : Nat) ⟨hi, hall⟩
    refine bs_d (fun hlt => ?_) (fun hge => ⟨(), fun j hj => hall j (by omega)⟩)
    have hio : i < xs.length := by omega
    obtain ⟨⟨f', v', p⟩, hat⟩ : ∃ y : Int × Int × List proofSh.T, xs[i]? = some y := ⟨_, List.getElem?_eq_getElem hio⟩
    obtain ⟨l, r, row, ha, _, hrd, hld⟩ := hx.elem hat
    obtain ⟨v1, rfl, s1⟩ := rd_change.1 hrd
    dsimp only at hld
    refine ⟨l, r, ha, Int.natCast_nonneg _, hlt, _, ld_cells (k := 0) (m := 1) hld (by simp), bs_d (fun e1 => ?_) (fun e => ?_)⟩
    · refine ⟨l, r, ha, Int.natCast_nonneg _, hlt, _, ld_cells (k := 1) (m := 1) hld (by simp), bs_d (fun e2 => ?_) (fun e => ?_)⟩
      · exact ⟨_, rfl, .inr ⟨i, hio, rfl, (ChAt.iff hat).2 ⟨e1, e2⟩, hall⟩⟩
      · exact ⟨i + 1, by rw [wrap_i64 (by omega)]; rfl, ⟨by omega, upto_step hall (fun H => e ((ChAt.iff hat).1 H).2)⟩, by omega, fun _ h => h, fun _ _ h => h⟩
    · exact ⟨i + 1, by rw [wrap_i64 (by omega)]; rfl, ⟨by omega, upto_step hall (fun H => e ((ChAt.iff hat).1 H).1)⟩, by omega, fun _ h => h, fun _ _ h => h⟩
  (refine vc_mp (by kernel_rfl : (∃ (i : Nat), Qbd (Qbs a xs c = Qbs a xs c) (Qbo f) (Qbo v) (Qbv i) (h = h ∧ Qbl i xs (∀ (j : Nat), Qbm j i xs f v) ∧ (∀ (j : Unit), (∀ (j : Nat), Qbf j xs f v) → Q (Qbc (-1)) h) ∧ (∀ (v_1 : Value) (h_1 : AHeap), h_1 = h ∧ (∃ (i : Int), Qbj v_1 i xs f v) → Q v_1 h_1))) = _) ?_; delta Qbc Qbd Qbe Qbf Qbh Qbj Qbl Qbm Qbo Qbs Qbv)
  exact ⟨(0 : Nat), rfl, rfl, rfl, rfl, rfl, ⟨Nat.zero_le _, fun j hj => absurd hj (Nat.not_lt_zero _)⟩, fun _ hall => HQ _ _ ⟨rfl, _, rfl, .inl ⟨rfl, hall⟩⟩, fun _ _ H => HQ _ _ H⟩
end Go.Proofs.YtpgfjadjhliohaaGreat
end
section
namespace Go.Dat
open Go.Abs
def NoSay (k f v q : Int) (op : ByteArray) (cs : List changeSh.T) : Prop := k = 0 ∧ f = 0 ∧ v = 0 ∧ q = 0 ∧ op.size = 0 ∧ cs.length = 0
def NewOk (k f v q : Int) (op : ByteArray) (cs : List changeSh.T) : Prop := NoSay k f v q op cs ∨ (k = 5 ∧ SayOk k f v q op cs)
def LogOk (log : List Sh.str.T) : Prop := log.length ≤ 6 ∧ ∀ t ∈ log, ByteArray.size t ≤ 120
def RepOk (r : replicaSh.T) : Prop := InR 0 3 r.1 ∧ InR 0 7 r.2.1 ∧ ¬ ((show Bool from r.2.2.1) = true ∧ (show Int from r.2.1) = 0) ∧ InR 0 6 r.2.2.2.1 ∧ VotsOk r.2.2.2.2.1 ∧ CgsOk r.2.2.2.2.2.1 ∧
  NewOk r.2.2.2.2.2.2.1.1 r.2.2.2.2.2.2.1.2.1 r.2.2.2.2.2.2.1.2.2.1 r.2.2.2.2.2.2.1.2.2.2.1 r.2.2.2.2.2.2.1.2.2.2.2.1 r.2.2.2.2.2.2.1.2.2.2.2.2 ∧ LogOk r.2.2.2.2.2.2.2
end Go.Dat
namespace Go.Proofs.YtpgfjadjhliohaaGreat
open Go.Abs Go.Dat
set_option maxRecDepth 100000
set_option maxHeartbeats 8000000
def lcL (xs : List changeSh.T) (a : Option Addr) (c : Nat) (h : AHeap) : LSpec where
  ι := Nat
  κ := Unit
  I := fun i => i ≤ xs.length ∧ ∀ j, j < i → CgAt xs j
  μ := fun i => xs.length - i
  head := fun i => ⟨[(0, .slice a xs.length c), (3, .int .i64 i)], [], h⟩
  post := fun _ => ⟨[(0, .slice a xs.length c)], [], h⟩
  R := fun _ _ => ∀ j, j < xs.length → CgAt xs j
  ret := fun _ v h' => v = .bool false ∧ h' = h ∧ ∃ j, j < xs.length ∧ ¬ CgAt xs j
def Qby (a : FuncId) (b : List Value) (c : AHeap) (d : Bool) (e : AHeap) (f g : Prop) := ACall Tryz.prog a b c (Value.bool d) e ∧ bs (not d) f g
def Qbz (a : Value) (b c : AHeap) (d : Prop) := Qba a false ∧ b = c ∧ d
def Qc0 (a : Nat) (b : Qce) := Qbe a b ∧ Not (CgAt b a)
def Qc1 (a b : Bool) (c : AHeap) := Qba (Value.bool a) b ∧ c = c
theorem l13Changes_spec (h : AHeap) (xs : List changeSh.T) (a : Option Addr) (c : Nat) (h1 : Sl h changeSh xs (.slice a xs.length c)) (ok : (Sh.sl changeSh).ok xs) :
    ACall Tryz.prog 80 [.slice a xs.length c] h (.bool (tr (CgsOk xs))) h := by
  have n1 : xs.length ≤ 9223372036854775807 := ok.1
  refine acall_out (acall_vc (fun _ => false) (fun r => match r with | 4 => [(0, 0, []), (1, 0, []), (2, 0, []), (3, 1, []), (4, 3, []), (5, 0, []), (6, 0, []), (7, 0, []), (8, 0, []), (9, 0, []), (10, 0, []), (11, 0, []), (12, 0, []), (13, 0, []), (15, 0, []), (16, 0, []), (17, 0, []), (18, 0, []), (14, 1, []), (19, 1, []), (20, 3, []), (21, 0, []), (22, 0, [])] | _ => []) (fun _ => lcL xs a c h) mixed Tryz.func80 rfl rfl rfl (Nat.le_of_ble_eq_true rfl) ?_ ?_)
  · (refine vc_mp (by kernel_rfl : (True ∧ Qbw (∀ (i : Nat), Qbl i xs (∀ (j : Nat), j < i → CgAt xs j) → bs (decide ((↑i : Int) < Qbg xs)) (∃ (l r : Nat), Qbi a l r i xs (∃ (x x_1 : Int) (a_2 : Option Addr) (n c_1 : Nat), AHeap.ld h l (r + Qbu i) 0 3 = some (Qbt x x_1 a_2 n c_1) ∧ (∃ (x_2 : Bool) (h' : AHeap), Qby 118 [Value.agg (Array.mk (Qbt x x_1 a_2 n c_1))] h x_2 h' (Qbb false ∧ h' = h ∧ (∃ (j : Nat), Qc0 j xs)) (Qbd (Qbh ≤ Qbh) (Qbh ≤ (↑i : Int)) ((↑i : Int) ≤ Qbg xs ∨ c ≠ 0 ∧ (↑i : Int) < (↑c : Int)) (∀ (x : Addr), a = some x → Addr.spot x = some 3) (∃ (l r : Nat), Qbi a l r i xs (∃ (l_1 r_1 : Nat), Qbi a l_1 r_1 i xs (∃ (x : Int), Qbx h' l r i = some [Qbc x] ∧ (∃ (x_3 : Int), AHeap.ld h' l_1 (r_1 + Qbu i) 1 1 = some [Qbc x_3] ∧ (∃ (x_4 : Int) (h'_1 : AHeap), ACall Tryz.prog 121 [Value.slice (Option.map (fun (x : Addr) => Addr.mk (Addr.block x) (Addr.off x + Int.toNat (0 : Int)) (Addr.spot x)) a) (Qbu i - Int.toNat Qbh) (cond (decide (c = 0)) 0 (c - Int.toNat Qbh)), Qbc x, Qbc x_3] h' (Qbc x_4) h'_1 ∧ bs (decide (x_4 ≥ Qbh)) (Qbb false ∧ h'_1 = h ∧ (∃ (j : Nat), Qc0 j xs)) (∃ (j : Nat), Qbd (Qbs a xs c = Qbs a xs c) (Qbn i j) (h = h'_1) (Qbl j xs (∀ (j_1 : Nat), j_1 < j → CgAt xs j_1)) (Qbk xs j < Qbk xs i ∧ (∀ (k : Unit), (∀ (j : Nat), Qbe j xs → CgAt xs j) → (∀ (j : Nat), Qbe j xs → CgAt xs j)) ∧ (∀ (v : Value) (h_1 : AHeap), Qbz v h_1 h (∃ (j : Nat), Qc0 j xs) → Qbz v h_1 h (∃ (j : Nat), Qc0 j xs))))))))))))) (∃ (j : Unit), Qbs a xs c = Qbs a xs c ∧ h = h ∧ (∀ (j : Nat), Qbe j xs → CgAt xs j))) (True ∧ True) ∧ True ∧ True) = _) ?_; delta Qb9 Qba Qbb Qbc Qbd Qbe Qbg Qbh Qbi Qbk Qbl Qbn Qbs Qbt Qbu Qbw Qbx Qby Qbz Qc0)
    simp only [true_and, and_true]
    rintro (i : Nat) ⟨hi, hall⟩
    refine bs_d (fun hlt => ?_) (fun hge => ⟨(), fun j hj => hall j (by omega)⟩)
    obtain ⟨⟨f, v, p⟩, hat⟩ : ∃ y : Int × Int × List proofSh.T, xs[i]? = some y := ⟨_, List.getElem?_eq_getElem (by omega)⟩
    obtain ⟨l, r, row, ha, _, hrd, hld⟩ := h1.elem hat
    obtain ⟨v1, rfl, s1⟩ := rd_change.1 hrd
    obtain ⟨a2, c2, rfl⟩ := s1.isSlice
    dsimp only at hld s1
    obtain rfl := ha
    have okp := ok.2 (f, v, p) (List.mem_of_getElem? hat)
    refine ⟨l, r, rfl, Int.natCast_nonneg _, hlt, _, _, _, _, _, hld, _, _, changeRight_spec h f v p a2 c2 s1 okp.2.2, bs_nb (fun e => ⟨rfl, i, by omega, fun H => of_trn e (H.out hat).1⟩) (fun e1 => ?_)⟩
    refine ⟨Int.le_refl _, Int.natCast_nonneg _, .inl (by omega), fun x hx => by cases hx; rfl, l, r, rfl, Int.natCast_nonneg _, hlt, l, r, rfl, Int.natCast_nonneg _, hlt, _, ld_cells (k := 0) (m := 1) hld (by simp), _, ld_cells (k := 1) (m := 1) hld (by simp), ?_⟩
    have hlen : (xs.take i).length = i := by rw [List.length_take]; omega
    obtain ⟨_, _, A, rfl, m, rfl, hm⟩ := l13Of_spec h (xs.take i) (some ⟨l, r, some changeSh.cells⟩) (bif decide (c = 0) then 0 else c - Int.toNat 0) f v (by rw [hlen]; exact h1.take (by omega)) (by omega)
    rw [hlen] at A hm
    refine ⟨_, _, A, bs_d (fun e => ⟨rfl, i, by omega, fun H => ?_⟩) (fun e2 => ?_)⟩
    · have := hm.none.2 (chs_pre.2 (H.out hat).2)
      omega
    have hno : ∀ j, j < i → ¬ ChAt xs f v j := chs_pre.1 (hm.none.1 (by omega))
    exact ⟨i + 1, by rw [wrap_i64 (by omega)]; rfl, rfl, ⟨by omega, upto_step hall ⟨_, hat, of_tr e1, hno⟩⟩, by omega, fun _ h => h, fun _ _ h => h⟩
  (refine vc_mp (by kernel_rfl : (∃ (i : Nat), Qbd (Qbs a xs c = Qbs a xs c) (Qbv i) (h = h) (Qbl i xs (∀ (j : Nat), j < i → CgAt xs j)) ((∀ (j : Unit), (∀ (j : Nat), Qbe j xs → CgAt xs j) → Qc1 (decide (Qbg xs ≤ 40)) (tr (CgsOk xs)) h) ∧ (∀ (v : Value) (h_1 : AHeap), Qbz v h_1 h (∃ (j : Nat), Qc0 j xs) → Qba v (tr (CgsOk xs)) ∧ h_1 = h))) = _) ?_; delta Qba Qbc Qbd Qbe Qbg Qbh Qbl Qbs Qbv Qbz Qc0 Qc1)
  refine ⟨(0 : Nat), rfl, rfl, rfl, ⟨Nat.zero_le _, fun j hj => absurd hj (Nat.not_lt_zero _)⟩, fun _ hg => ⟨congrArg _ ?_, rfl⟩, fun v g ⟨e1, e2, j, hj, hn⟩ => ⟨e1.trans (congrArg _ (tr_false fun H => hn (H.2 j hj))), e2⟩⟩
  rw [tr_dec]
  exact tr_congr ⟨fun H => ⟨by omega, hg⟩, fun H => by have := H.1; omega⟩
def Qc2 (a : Bool) (b : Prop) (c d e f : Int) (g : Qcg) (h : Qce) (i : Prop) := bs a b (Qbb (tr (NoSay c d e f g h)) ∧ i)
theorem l13None_spec (h : AHeap) (k f v q : Int) (op : ByteArray) (cs : List changeSh.T) (a : Option Addr) (c : Nat) :
    ACall Tryz.prog 81 [.agg #[.int .i64 k, .int .i64 f, .int .i64 v, .int .i64 q, .string op, .slice a cs.length c]] h (.bool (tr (NoSay k f v q op cs))) h := by
  refine acall_out (acall_vc (fun _ => false) (fun _ => []) (fun _ => .none) mixed Tryz.func81 rfl rfl rfl (Nat.le_of_ble_eq_true rfl) (by (refine vc_mp (by kernel_rfl : (Qb9) = _) ?_; delta Qb9); simp only [and_self]) ?_)
  (refine vc_mp (by kernel_rfl : (Qc2 (decide (k = Qbh)) (Qc2 (decide (f = Qbh)) (Qc2 (decide (v = Qbh)) (Qc2 (decide (q = Qbh)) (Qc2 (decide (op = ByteArray.mk (Array.mk List.nil))) (Qc1 (decide (Qbg cs = Qbh)) (tr (NoSay k f v q op cs)) h) k f v q op cs (h = h)) k f v q op cs (h = h)) k f v q op cs (h = h)) k f v q op cs (h = h)) k f v q op cs (h = h)) = _) ?_; delta Qba Qbb Qbg Qbh Qc1 Qc2)
  repeat' first | refine bs_d (fun _ => ?_) (fun _ => ?_)
  all_goals refine ⟨congrArg _ ?_, rfl⟩
  all_goals first
    | (refine tr_false fun H => ?_; have := @ba_nil op; unfold NoSay at H; simp_all; done)
    | (rw [tr_dec]; refine tr_congr ?_; have := @ba_nil op; unfold NoSay; constructor <;> intro H <;> simp_all <;> omega)
def Qc3 (a b c d : Int) (e : Qcg) (f : Qcf) (g : Qce) (h : Nat) := Value.agg (Array.mk [Qbc a, Qbc b, Qbc c, Qbc d, Value.string e, Qbs f g h])
theorem newRight_spec (h : AHeap) (k f v q : Int) (op : ByteArray) (cs : List changeSh.T) (a : Option Addr) (c : Nat) (h1 : Sl h changeSh cs (.slice a cs.length c)) (ok : (Sh.sl changeSh).ok cs) :
    ACall Tryz.prog 82 [.agg #[.int .i64 k, .int .i64 f, .int .i64 v, .int .i64 q, .string op, .slice a cs.length c]] h (.bool (tr (k = 5 ∧ SayOk k f v q op cs))) h := by
  refine acall_out (acall_vc (fun _ => false) (fun _ => []) (fun _ => .none) mixed Tryz.func82 rfl rfl rfl (Nat.le_of_ble_eq_true rfl) (by (refine vc_mp (by kernel_rfl : (Qb9) = _) ?_; delta Qb9); simp only [and_self]) ?_)
  (refine vc_mp (by kernel_rfl : (bs (decide (k = 5)) (∃ (x : Bool) (h' : AHeap), ACall Tryz.prog 61 [Qc3 k f v q op a cs c] h (Value.bool x) h' ∧ Qba (Value.bool x) (tr (k = 5 ∧ SayOk k f v q op cs)) ∧ h' = h) (Qbb (tr (k = 5 ∧ SayOk k f v q op cs)) ∧ h = h)) = _) ?_; delta Qba Qbb Qbc Qbs Qc3)
  refine bs_d (fun e => ⟨_, _, sayRight_spec h k f v q op cs a c h1 ok, congrArg _ (tr_congr ⟨fun H => ⟨e, H⟩, fun H => H.2⟩), rfl⟩) (fun e => ⟨congrArg _ (tr_false fun H => e H.1), rfl⟩)
def rrL (r : replicaSh.T) (C : List Value) (ar : Option Addr) (cr : Nat) (h : AHeap) : LSpec where
  ι := Nat
  κ := Unit
  I := fun i => i ≤ r.2.2.2.2.2.2.2.length ∧ ∀ j t, j < i → r.2.2.2.2.2.2.2[j]? = some t → ByteArray.size t ≤ 120
  μ := fun i => r.2.2.2.2.2.2.2.length - i
  head := fun i => ⟨[(1, .complex .f32 0 0), (3, .int .i64 i)], [C], h⟩
  post := fun _ => ⟨[], [C], h⟩
  R := fun _ _ => ∀ t ∈ r.2.2.2.2.2.2.2, ByteArray.size t ≤ 120
  ret := fun _ v h' => v = .bool false ∧ h' = h ∧ ∃ t ∈ r.2.2.2.2.2.2.2, ¬ ByteArray.size t ≤ 120
def Qc4 (a : Qcg) := ByteArray.size a ≤ 120
def Qc5 (a : Qch) (b : Qci) (c : Qcg) := Membership.mem a b → Qc4 c
def Qc6 (a b : Int) (c : Bool) (d : Int) (e : Qcf) (f : List (Sh.T voteSh)) (g : Nat) (h : Qcf) (i : Qce) (j : Nat) (k l m n : Int) (o : Qcg) (p : Qcf) (q : Qce) (r : Nat) (s : Qcf) (t : Qch) (u : Nat) := [Qbc a, Qbc b, Value.bool c, Qbc d, Value.slice e (List.length f) g, Qbs h i j, Qbc k, Qbc l, Qbc m, Qbc n, Value.string o, Qbs p q r, Value.slice s (List.length t) u]
def Qc7 (a : Qch) (b : Qci) (c : Qcg) := Membership.mem a b ∧ Not (Qc4 c)
def Qc8 (a b : Nat) (c : Qch) (d : Qci) (e : Qcg) := a < b → getElem? c a = some d → Qc4 e
def Qc9 := Value.complex FloatKind.f32 0 0
def Qca (a : Qch) := (↑(List.length a) : Int)
noncomputable def Qcb (a b : Qcj) (c : Sh.T Sh.bool) (d : Qcj) (e : Sh.T (Sh.sl voteSh)) (f : Qck) (g h i j : Qcj) (k : Qci) (l : Qck) (m : Sh.T (Sh.sl Sh.str)) := tr (RepOk (Prod.mk a (Prod.mk b (Prod.mk c (Prod.mk d (Prod.mk e (Prod.mk f (Prod.mk (Prod.mk g (Prod.mk h (Prod.mk i (Prod.mk j (Prod.mk k l))))) m))))))))
def Qcc (a : FuncId) (b : List Value) (c : AHeap) (d : Bool) (e : AHeap) (f g : Qcj) (h : Sh.T Sh.bool) (i : Qcj) (j : Sh.T (Sh.sl voteSh)) (k : Qck) (l m n o : Qcj) (p : Qci) (q : Qck) (r : Sh.T (Sh.sl Sh.str)) (s : AHeap) (t : Prop) := Qby a b c d e (Qbb (Qcb f g h i j k l m n o p q r) ∧ e = s) t
def Qcd (a : Nat) (b c : Prop) (d : Qch) (e f g : Prop) := Qbd (Qc9 = Qc9) (Qbv a) b c ((a ≤ List.length d ∧ e) ∧ f ∧ g)
theorem replicaRight_spec (h : AHeap) (id view top k f v q : Int) (chg : Bool) (vs : List voteSh.T) (cg : List changeSh.T) (op : ByteArray) (cs : List changeSh.T) (log : List Sh.str.T) (a1 : Option Addr) (c1 : Nat) (a2 : Option Addr) (c2 : Nat) (a3 : Option Addr) (c3 : Nat) (a4 : Option Addr) (c4 : Nat)
    (h1 : Sl h voteSh vs (.slice a1 vs.length c1)) (h2 : Sl h changeSh cg (.slice a2 cg.length c2)) (h3 : Sl h changeSh cs (.slice a3 cs.length c3)) (h4 : Sl h Sh.str log (.slice a4 log.length c4))
    (ok : replicaSh.ok (id, view, chg, top, vs, cg, (k, f, v, q, op, cs), log)) :
    ACall Tryz.prog 32 [.agg #[.int .i64 id, .int .i64 view, .bool chg, .int .i64 top, .slice a1 vs.length c1, .slice a2 cg.length c2, .int .i64 k, .int .i64 f, .int .i64 v, .int .i64 q, .string op, .slice a3 cs.length c3, .slice a4 log.length c4]] h
      (.bool (tr (RepOk (id, view, chg, top, vs, cg, (k, f, v, q, op, cs), log)))) h := by
  have n4 : log.length ≤ 9223372036854775807 := ok.2.2.2.2.2.2.2.1
  refine acall_out (acall_vc (fun _ => false) (fun _ => []) (fun _ => rrL (id, view, chg, top, vs, cg, (k, f, v, q, op, cs), log) [.int .i64 id, .int .i64 view, .bool chg, .int .i64 top, .slice a1 vs.length c1, .slice a2 cg.length c2, .int .i64 k, .int .i64 f, .int .i64 v, .int .i64 q, .string op, .slice a3 cs.length c3, .slice a4 log.length c4] a4 c4 h) mixed Tryz.func32 rfl rfl rfl (Nat.le_of_ble_eq_true rfl) ?_ ?_)
  · (refine vc_mp (by kernel_rfl : (Qbd True (True ∧ (True ∧ True) ∧ True) (Qbw (∀ (i : Nat), i ≤ List.length log ∧ (∀ (j : Nat) (t : Sh.T Sh.str), Qc8 j i log t t) → bs (decide ((↑i : Int) < Qca log)) (∃ (l r : Nat), a4 = some (Addr.mk l r (some 1)) ∧ Qbh ≤ (↑i : Int) ∧ (↑i : Int) < Qca log ∧ (∃ (x : ByteArray), Qbx h l r i = some [Value.string x] ∧ (∃ (x_1 : Bool) (h' : AHeap), Qby 50 [Value.string x] h x_1 h' (Qbb false ∧ h' = h ∧ (∃ (t : Sh.T Sh.str), Qc7 log t t)) (∃ (j : Nat), Qbd (Qc9 = Qc9) (Qbn i j) (Qc6 id view chg top a1 vs c1 a2 cg c2 k f v q op a3 cs c3 a4 log c4 = Qc6 id view chg top a1 vs c1 a2 cg c2 k f v q op a3 cs c3 a4 log c4) (h = h') ((j ≤ List.length log ∧ (∀ (j_1 : Nat) (t : Sh.T Sh.str), Qc8 j_1 j log t t)) ∧ List.length log - j < List.length log - i ∧ (∀ (k : Unit), (∀ (t : Sh.T Sh.str), Qc5 log t t) → (∀ (t : Sh.T Sh.str), Qc5 log t t)) ∧ (∀ (v : Value) (h_1 : AHeap), Qbz v h_1 h (∃ (t : Sh.T Sh.str), Qc7 log t t) → Qbz v h_1 h (∃ (t : Sh.T Sh.str), Qc7 log t t))))))) (∃ (j : Unit), Qc6 id view chg top a1 vs c1 a2 cg c2 k f v q op a3 cs c3 a4 log c4 = Qc6 id view chg top a1 vs c1 a2 cg c2 k f v q op a3 cs c3 a4 log c4 ∧ h = h ∧ (∀ (t : Sh.T Sh.str), Qc5 log t t))) (True ∧ True)) True True) = _) ?_; delta Qb9 Qba Qbb Qbc Qbd Qbh Qbn Qbs Qbu Qbw Qbx Qby Qbz Qc4 Qc5 Qc6 Qc7 Qc8 Qc9 Qca)
    simp only [true_and, and_true]
    rintro (i : Nat) ⟨hi, hall⟩
    refine bs_d (fun hlt => ?_) (fun hge => ⟨(), fun t ht => ?_⟩)
    · obtain ⟨t, hat⟩ : ∃ y : ByteArray, log[i]? = some y := ⟨_, List.getElem?_eq_getElem (by omega)⟩
      obtain ⟨l, r, row, ha, _, hrd, hld⟩ := h4.elem hat
      obtain rfl : row = [.string t] := hrd
      refine ⟨l, r, ha, Int.natCast_nonneg _, hlt, _, hld, _, _, opRight_spec h t, bs_nb (fun e => ⟨rfl, t, List.mem_of_getElem? hat, of_trn e⟩) (fun e => ?_)⟩
      refine ⟨i + 1, by rw [wrap_i64 (by omega)]; rfl, rfl, ⟨by omega, fun j t' hj hj2 => ?_⟩, by omega, fun _ h => h, fun _ _ h => h⟩
      rcases Nat.lt_succ_iff_lt_or_eq.1 hj with hj | rfl
      · exact hall j t' hj hj2
      · rw [hat] at hj2; cases hj2; exact of_tr e
    · obtain ⟨j, hj⟩ := List.mem_iff_getElem?.1 ht
      have := (List.getElem?_eq_some_iff.1 hj).1
      exact hall j t (by omega) hj
  have F : ¬ RepOk (id, view, chg, top, vs, cg, (k, f, v, q, op, cs), log) → Value.bool false = .bool (tr (RepOk (id, view, chg, top, vs, cg, (k, f, v, q, op, cs), log))) ∧ h = h := fun H => ⟨congrArg _ (tr_false H), rfl⟩
  (refine vc_mp (by kernel_rfl : (∃ (x : Bool) (h' : AHeap), Qcc 76 [Qbc id] h x h' id view chg top vs cg k f v q op cs log h (∃ (x : Bool) (h'_1 : AHeap), Qcc 77 [Qbc view] h' x h'_1 id view chg top vs cg k f v q op cs log h (bs chg (bs (decide (view < 1)) (Qbb (Qcb id view chg top vs cg k f v q op cs log) ∧ h'_1 = h) (∃ (x : Bool) (h' : AHeap), Qcc 78 [Qbc top, Qbc Qbh, Qbc 6] h'_1 x h' id view chg top vs cg k f v q op cs log h (∃ (x : Bool) (h'_2 : AHeap), Qcc 79 [Value.slice a1 (List.length vs) c1] h' x h'_2 id view chg top vs cg k f v q op cs log h (∃ (x : Bool) (h' : AHeap), Qcc 80 [Qbs a2 cg c2] h'_2 x h' id view chg top vs cg k f v q op cs log h (∃ (x : Bool) (h'_3 : AHeap), Qby 81 [Qc3 k f v q op a3 cs c3] h' x h'_3 (∃ (x : Bool) (h' : AHeap), Qcc 82 [Qc3 k f v q op a3 cs c3] h'_3 x h' id view chg top vs cg k f v q op cs log h (bs (decide (Qca log > 6)) (Qbb (Qcb id view chg top vs cg k f v q op cs log) ∧ h' = h) (∃ (i : Nat), Qcd i (Qc6 id view chg top a1 vs c1 a2 cg c2 k f v q op a3 cs c3 a4 log c4 = Qc6 id view chg top a1 vs c1 a2 cg c2 k f v q op a3 cs c3 a4 log c4) (h = h') log (∀ (j : Nat) (t : Sh.T Sh.str), Qc8 j i log t t) (∀ (j : Unit), (∀ (t : Sh.T Sh.str), Qc5 log t t) → Qc1 true (Qcb id view chg top vs cg k f v q op cs log) h) (∀ (v_1 : Value) (h_1 : AHeap), Qbz v_1 h_1 h (∃ (t : Sh.T Sh.str), Qc7 log t t) → Qba v_1 (Qcb id view chg top vs cg k f v q op cs log) ∧ h_1 = h)))) (bs (decide (Qca log > 6)) (Qbb (Qcb id view chg top vs cg k f v q op cs log) ∧ h'_3 = h) (∃ (i : Nat), Qcd i (Qc6 id view chg top a1 vs c1 a2 cg c2 k f v q op a3 cs c3 a4 log c4 = Qc6 id view chg top a1 vs c1 a2 cg c2 k f v q op a3 cs c3 a4 log c4) (h = h'_3) log (∀ (j : Nat) (t : Sh.T Sh.str), Qc8 j i log t t) (∀ (j : Unit), (∀ (t : Sh.T Sh.str), Qc5 log t t) → Qc1 true (Qcb id view chg top vs cg k f v q op cs log) h) (∀ (v_1 : Value) (h_1 : AHeap), Qbz v_1 h_1 h (∃ (t : Sh.T Sh.str), Qc7 log t t) → Qba v_1 (Qcb id view chg top vs cg k f v q op cs log) ∧ h_1 = h)))))))) (∃ (x : Bool) (h' : AHeap), Qcc 78 [Qbc top, Qbc Qbh, Qbc 6] h'_1 x h' id view chg top vs cg k f v q op cs log h (∃ (x : Bool) (h'_2 : AHeap), Qcc 79 [Value.slice a1 (List.length vs) c1] h' x h'_2 id view chg top vs cg k f v q op cs log h (∃ (x : Bool) (h' : AHeap), Qcc 80 [Qbs a2 cg c2] h'_2 x h' id view chg top vs cg k f v q op cs log h (∃ (x : Bool) (h'_3 : AHeap), Qby 81 [Qc3 k f v q op a3 cs c3] h' x h'_3 (∃ (x : Bool) (h' : AHeap), Qcc 82 [Qc3 k f v q op a3 cs c3] h'_3 x h' id view chg top vs cg k f v q op cs log h (bs (decide (Qca log > 6)) (Qbb (Qcb id view chg top vs cg k f v q op cs log) ∧ h' = h) (∃ (i : Nat), Qcd i (Qc6 id view chg top a1 vs c1 a2 cg c2 k f v q op a3 cs c3 a4 log c4 = Qc6 id view chg top a1 vs c1 a2 cg c2 k f v q op a3 cs c3 a4 log c4) (h = h') log (∀ (j : Nat) (t : Sh.T Sh.str), Qc8 j i log t t) (∀ (j : Unit), (∀ (t : Sh.T Sh.str), Qc5 log t t) → Qc1 true (Qcb id view chg top vs cg k f v q op cs log) h) (∀ (v_1 : Value) (h_1 : AHeap), Qbz v_1 h_1 h (∃ (t : Sh.T Sh.str), Qc7 log t t) → Qba v_1 (Qcb id view chg top vs cg k f v q op cs log) ∧ h_1 = h)))) (bs (decide (Qca log > 6)) (Qbb (Qcb id view chg top vs cg k f v q op cs log) ∧ h'_3 = h) (∃ (i : Nat), Qcd i (Qc6 id view chg top a1 vs c1 a2 cg c2 k f v q op a3 cs c3 a4 log c4 = Qc6 id view chg top a1 vs c1 a2 cg c2 k f v q op a3 cs c3 a4 log c4) (h = h'_3) log (∀ (j : Nat) (t : Sh.T Sh.str), Qc8 j i log t t) (∀ (j : Unit), (∀ (t : Sh.T Sh.str), Qc5 log t t) → Qc1 true (Qcb id view chg top vs cg k f v q op cs log) h) (∀ (v_1 : Value) (h_1 : AHeap), Qbz v_1 h_1 h (∃ (t : Sh.T Sh.str), Qc7 log t t) → Qba v_1 (Qcb id view chg top vs cg k f v q op cs log) ∧ h_1 = h)))))))))) = _) ?_; delta Qba Qbb Qbc Qbd Qbh Qbs Qbv Qby Qbz Qc1 Qc3 Qc4 Qc5 Qc6 Qc7 Qc8 Qc9 Qca Qcb Qcc Qcd)
  refine ⟨_, _, l09Who_spec _ _, bs_nb (fun e => F fun H => inF e H.1) (fun e1 => ⟨_, _, l10View_spec _ _, bs_nb (fun e => F fun H => of_trn e H.2.1) (fun e2 => ?_)⟩)⟩
  have e2' := of_tr e2
  refine bs_of (fun hc => bs_d (fun hv => F fun H => H.2.2.1 ⟨hc, by have := e2'.1; show view = 0; omega⟩) (fun hv => ?_)) (fun hc => ?_)
  all_goals
    have hcv : ¬ (chg = true ∧ view = 0) := by first | (intro H; omega) | (intro H; rw [hc] at H; cases H.1)
    refine ⟨_, _, l03Is_spec _ _ _ _, bs_nb (fun e => F fun H => inF e H.2.2.2.1) (fun e3 => ?_)⟩
    refine ⟨_, _, votesRight_spec h vs a1 c1 h1 ok.2.2.2.2.1, bs_nb (fun e => F fun H => of_trn e H.2.2.2.2.1) (fun e4 => ?_)⟩
    refine ⟨_, _, l13Changes_spec h cg a2 c2 h2 ok.2.2.2.2.2.1, bs_nb (fun e => F fun H => of_trn e H.2.2.2.2.2.1) (fun e5 => ?_)⟩
    refine ⟨_, _, l13None_spec h k f v q op cs a3 c3, bs_nb (fun e6 => ⟨_, _, newRight_spec h k f v q op cs a3 c3 h3 ok.2.2.2.2.2.2.1.2.2.2.2.2, bs_nb (fun e => F fun H => H.2.2.2.2.2.2.1.elim (of_trn e6) (of_trn e)) (fun e7 => ?_)⟩) (fun e6 => ?_)⟩
    all_goals
      have hnew : NewOk k f v q op cs := by first | exact .inl (of_tr e6) | exact .inr (of_tr e7)
      refine bs_d (fun e => F fun H => ?_) (fun e8 => ?_)
      · have : log.length ≤ 6 := H.2.2.2.2.2.2.2.1
        omega
      · exact ⟨(0 : Nat), rfl, rfl, rfl, rfl, ⟨Nat.zero_le _, fun j t hj => absurd hj (Nat.not_lt_zero _)⟩, fun _ hl => ⟨congrArg _ (tr_true ⟨inT e1, e2', hcv, inT e3, of_tr e4, of_tr e5, hnew, by show log.length ≤ 6; omega, hl⟩), rfl⟩, fun _ _ ⟨x1, x2, t, ht, hn⟩ => ⟨x1.trans (congrArg _ (tr_false fun H => hn (H.2.2.2.2.2.2.2.2 t ht))), x2⟩⟩
end Go.Proofs.YtpgfjadjhliohaaGreat
end
