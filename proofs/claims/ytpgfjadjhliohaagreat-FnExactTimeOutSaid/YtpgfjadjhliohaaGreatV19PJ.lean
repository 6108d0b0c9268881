/- PG, P7, PH, PI, PJ. -/
import Derived.Test.YtpgfjadjhliohaaGreatV19PF
import Derived.Test.YtpgfjadjhliohaaGreatV19PB
import Derived.Test.YtpgfjadjhliohaaGreatV19P1
section
namespace Go.Dat
open Go.Abs
theorem Sl.mid {h : AHeap} {s : Sh} {xs : List s.T} {l r n c i c' : Nat} {x : s.T} (X : Sl h s xs (.slice (some ⟨l, r, some s.cells⟩) n c)) (hx : xs[i]? = some x) : Sl h s [x] (.slice (some ⟨l, r + i, some s.cells⟩) 1 c') := by
  obtain ⟨a', n', c'', rows, e, h1, h2, h3, h4⟩ := X
  cases e
  have hi := (List.getElem?_eq_some_iff.1 hx).1
  unfold AHeap.rowsOf at h2
  dsimp only at h2
  cases hg : h.get l with
  | none => rw [hg] at h2; cases h2
  | some o =>
    rw [hg] at h2
    dsimp only at h2
    cases hb : (o.esz == s.cells) with
    | false => rw [hb, Bool.false_and, cond_false] at h2; cases h2
    | true =>
      by_cases hd : r + n ≤ o.rows.length
      · rw [hb, decide_eq_true hd, Bool.true_and, cond_true] at h2
        obtain rfl := Option.some.inj h2
        refine ⟨_, _, _, (o.rows.drop (r + i)).take 1, rfl, .inr ⟨_, _, rfl⟩, ?_, rfl, fun j y row hy hr => ?_⟩
        · unfold AHeap.rowsOf
          dsimp only
          rw [hg]
          dsimp only
          rw [hb, decide_eq_true (by omega), Bool.true_and, cond_true]
        · cases j with
          | succ j => cases hy
          | zero =>
            cases hy
            refine h4 i _ row hx ?_
            rw [List.getElem?_take, if_pos (by decide), List.getElem?_drop] at hr
            rw [List.getElem?_take, if_pos (by omega), List.getElem?_drop]
            exact hr
      · rw [hb, decide_eq_false hd, Bool.true_and, cond_false] at h2; cases h2
theorem sl_one {h : AHeap} {l c : Nat} {f v : Int} {ps : List proofSh.T} {w : Value} (hg : h.get l = some ⟨[[.int .i64 f, .int .i64 v, w]], 3, true⟩) (s : Sl h proofSh ps w) : Sl h changeSh [(f, v, ps)] (.slice (some ⟨l, 0, some 3⟩) 1 c) := by
  refine ⟨_, 1, c, [[.int .i64 f, .int .i64 v, w]], rfl, .inr ⟨l, 0, rfl⟩, (get_rows hg (by simp)).trans rfl, rfl, fun i x row h1 h2 => ?_⟩
  cases i with
  | zero => cases h1; cases h2; exact rd_change.2 ⟨w, rfl, s⟩
  | succ i => cases h1
theorem OXok.app2 {s : Sh} {h : AHeap} {o : OX s.T} (B : OXok s h o) {x : s.T} {cs : List Value} {js : List Nat} (rn : s.rn o.g x cs js) (fj : Fresh h.n o.g.n js) (d : ∀ z ∈ o.ids, z ∉ js) :
    ∃ o' : OX s.T, o.g.app (.slice o.a o.xs.length o.c) [cs] s.cells = some (.slice o'.a o'.xs.length o'.c, o'.g) ∧ OXok s h o' ∧ o'.xs = o.xs ++ [x] := by
  obtain ⟨l, h', ids', e, B', _⟩ := SoB.app B rn fj d
  have el : (o.xs ++ [x]).length = o.xs.length + 1 := by simp
  rw [← el] at e B'
  exact ⟨⟨some ⟨l, 0, some s.cells⟩, 0, o.xs ++ [x], ids', h'⟩, e, B', rfl⟩
theorem OXok.lit {s : Sh} {h : AHeap} (hw : h.wf) : OXok s h ⟨some ⟨h.n, 0, some s.cells⟩, 1, [], [h.n], h.push ⟨[], s.cells, true⟩⟩ :=
  ⟨.push hw _, hw.push _, hw, rfl, ⟨by simp, fun z hz => by rw [List.mem_singleton.1 hz]; exact ⟨Nat.le_refl _, Nat.lt_succ_self _⟩⟩, .inr ⟨h.n, [], [], rfl, AHeap.get_push_eq, rfl, rfl, rfl, .inr rfl, fun i x row js h => by cases h⟩⟩
end Go.Dat
namespace Go.Proofs.YtpgfjadjhliohaaGreat
open Go.Abs Go.Dat
set_option maxRecDepth 100000
set_option maxHeartbeats 8000000
abbrev Qzr := OX (Sh.T changeSh) × Wk × AHeap
abbrev Qzs := Nat × OX (Sh.T changeSh) × Wk × AHeap
abbrev Qzt := Option Addr
abbrev Qzu := List (List Value)
def Qyd (a b c d e : Prop) := a ∧ b ∧ c ∧ d ∧ e
def Qye (a : Prop) := True ∧ a ∧ True
def Qyf (a : Wk × AHeap) := LX.xs (Wk.changes (Prod.fst a))
def Qyg (a : Qzr) (b : Int) := OX.xs (Prod.fst a) = lstN (Qyf (Prod.snd a)) b 4
def Qyh (a : Qzr) := OXok changeSh (Prod.snd (Prod.snd a)) (Prod.fst a)
def Qyi (a : Qzs) := Prod.snd (Prod.snd a)
def Qyj (a : Qzs) := Prod.fst (Prod.snd a)
def Qyk (a : Qzs) := OX.g (Qyj a)
def Qyl (a : Qzr) := OX.g (Prod.fst a)
def Qym (a : Int) := Value.int IntKind.i64 a
def Qyn (a b : Int) (c : Qzt) (d : List (Sh.T proofSh)) (e : Nat) := [Qym a, Qym b, Value.slice c (List.length d) e]
def Qyo (a b : Int) (c : Qzt) (d : List (Sh.T proofSh)) (e : Nat) := Qyn a b c d e = Qyn a b c d e
def Qyp (a : Qzt) (b : List (Sh.T changeSh)) (c : Nat) := Value.slice a (List.length b) c
def Qyq (a : Qzr) := Qyp (OX.a (Prod.fst a)) (OX.xs (Prod.fst a)) (OX.c (Prod.fst a))
def Qyr (a : Qzs) := Qyp (OX.a (Qyj a)) (OX.xs (Qyj a)) (OX.c (Qyj a))
def Qys := (0 : Nat)
def Qyt := Value.complex FloatKind.f32 Qys Qys
def Qyu := Qyt = Qyt
def Qyv (a : Nat) := Value.pointer (some (Addr.mk a Qys (some Qys)))
def Qyw (a : Nat) := Qyv a = Qyv a
def Qyx (a : Qzr) (b : Qzs) (c : Int) := Prod.snd a = Qyi b ∧ Qyh a ∧ Qyg a c
def Qyy (a : Qzs) (b c : Nat) (d : Int) (e : Prop) (f : Wk) := Qyd (Prod.fst a ≤ 4) (WkOk b c (Prod.snd (Qyi a)) (Prod.fst (Qyi a))) (OXok changeSh (Prod.snd (Qyi a)) (Qyj a)) (OX.xs (Qyj a) = lstN (Qyf (Qyi a)) d (Prod.fst a)) (List.length (Qyf (Qyi a)) ≤ 40 ∧ e ∧ Wk.id (Prod.fst (Qyi a)) = Wk.id f)
def Qyz (a : Qzs) (b : Sh.T changeSh) := Membership.mem (Qyf (Qyi a)) b → Sh.small changeSh b
def Qz0 (a : Qzs) := (↑(Prod.fst a) : Int)
def Qz1 (a : Int) := IntKind.wrap IntKind.i64 (a + 1)
def Qz2 (a b : Prop) (c : Nat) (d : Prop) := a ∧ b ∧ c ≤ 140737488355328 ∧ d
def Qz3 (a : Qzt) (b c : Nat) (d : AHeap) := some (Prod.mk (Value.slice a b c) d)
def Qz4 (a : Qzu) := List.all a (fun (row : List Value) =>
  decide (List.length row = (3 : Nat)) &&
    List.all row fun (v : Value) =>
      match v with
      | Value.agg cells => false
      | Value.tuple cells => false
      | Value.complex k re im => false
      | Value.chan r => false
      | x => true)
def Qz5 (a : FuncId) (b : List Value) (c : AHeap) (d : Value) (e : AHeap) := ACall Tryz.prog a b c d e
def Qz6 (a : Qzt) (b c : Nat) := [Value.slice a b c]
def Qz7 (a : AHeap) (b : Nat) (c : Qzt) (d e : Nat) := AHeap.ld a b Qys 5 1 = some (Qz6 c d e)
def Qz8 := Value.bool true
def Qz9 (a : List Value) (b c : AHeap) := Qz5 67 a b (Value.tuple (Array.mk List.nil)) c
def Qza (a : List Value) := Value.agg (Array.mk a)
def Qzb := ByteArray.mk (Array.mk List.nil)
def Qzc := Qym (Int.ofNat Qys)
def Qzd (a b : Int) (c : Qzr) := Qza [Qym 5, Qym a, Qym b, Qzc, Value.string Qzb, Qyq c]
def Qze (a : AHeap) (b : Qzu) := AHeap.push a (AObj.mk b 6 true)
def Qzf (a b c d : Int) (e : ByteArray) (f : Qzt) (g h : Nat) := [Qym a, Qym b, Qym c, Qym d, Value.string e, Value.slice f g h]
def Qzg (a : Qzu) := List.all a (fun (row : List Value) =>
  decide (List.length row = (6 : Nat)) &&
    List.all row fun (v : Value) =>
      match v with
      | Value.agg cells => false
      | Value.tuple cells => false
      | Value.complex k re im => false
      | Value.chan r => false
      | x => true)
def Qzh (a : AHeap) (b : Nat) := some (Addr.mk (AHeap.n a) Qys (some b))
def Qzi (a : AHeap) := Value.slice (Qzh a 6) 1 2
def Qzj (a : Qzt) (b c : Nat) (d : Qzt) (e f : Nat) := Value.slice a b c = Value.slice d e f
def Qzk (a : AHeap) (b : Nat) (c : Qzt) (d e : Nat) := AHeap.ld a b Qys 13 1 = some (Qz6 c d e)
def Qzl (a : AHeap) (b : Nat) (c : List Value) := AHeap.ld a b Qys Qys 1 = some c
def Qzm (a : AHeap) (b : Nat) (c d : Int) := Qzl a b [Qym c] ∧ Qym c = Qym d
def Qzn (a : Qzr) := (↑(List.length (OX.xs (Prod.fst a))) : Int)
def Qzo (a : AHeap) (b : Qzu) := AHeap.push a (AObj.mk b 3 true)
def Qzp := Qym 0
theorem sChange_spec {n0 l m : Nat} {g : AHeap} {w : Wk} (W : WkOk n0 l g w) (R : ROk 1000 m (w.rep, w.says.xs)) (hm : m ≤ 800) (f v : Int) (ps : List proofSh.T) (a : Option Addr) (c : Nat) (hc : CgW (f, v, ps)) (hv : InR 0 7 v) (hx : ∀ g', Kp (w.all l) g g' → Sl g' proofSh ps (.slice a ps.length c)) :
    ∃ r g', ACall Tryz.prog 66 [.pointer (some ⟨l, 0, some 0⟩), .agg #[.int .i64 f, .int .i64 v, .slice a ps.length c]] g r g' ∧ ∃ w', WkOk n0 l g' w' ∧ Mv l w w' g g' ∧ ((∃ e, chgR (w.rep, w.says.xs) (f, v, ps) = .inl e ∧ r = .bool false) ∨ (chgR (w.rep, w.says.xs) (f, v, ps) = .inr (w'.rep, w'.says.xs) ∧ r = .bool true)) := by
  have nc : w.changes.xs.length ≤ 40 := R.ncg
  have hid : InR 0 3 w.id := R.id
  have hs : w.says.xs.length ≤ m := R.vs.n
  have smp : changeSh.small (f, v, ps) := hc.2.2.2.1
  obtain ⟨_, g', A1, eg, i1, rfl, hi1⟩ := l13Of_spec g w.changes.xs w.changes.a w.changes.c f v W.C.sn.so.sl (Nat.le_trans nc (by decide))
  rw [eg] at A1
  refine acall_q fun Q HQ => ?_
  refine acall_vc (fun _ => false) (fun r => match r with | 1 => [(0, 0, []), (1, 0, []), (2, 0, []), (3, 0, []), (5, 0, []), (7, 0, []), (4, 1, []), (6, 1, []), (8, 1, []), (9, 3, []), (10, 0, [])] | 4 => [(0, 0, []), (1, 0, []), (2, 0, []), (3, 0, []), (4, 0, []), (5, 1, []), (6, 1, []), (7, 3, [5]), (8, 3, [5]), (9, 3, []), (10, 0, []), (11, 0, []), (12, 0, []), (13, 3, [])] | 5 => [(0, 0, []), (3, 0, []), (4, 0, []), (5, 0, []), (6, 0, []), (1, 1, []), (7, 1, []), (2, 3, [7]), (8, 0, [])] | 11 => [(0, 0, []), (1, 0, []), (2, 0, []), (3, 0, []), (5, 0, []), (6, 0, []), (4, 1, []), (7, 1, []), (8, 3, []), (9, 0, [])] | 15 => [(0, 0, []), (1, 0, []), (2, 0, []), (3, 0, []), (5, 0, []), (7, 0, []), (4, 1, []), (6, 1, []), (8, 0, []), (9, 3, [4, 6]), (10, 3, [])] | 16 => [(0, 0, []), (1, 0, []), (2, 0, []), (3, 0, []), (4, 1, []), (5, 1, []), (6, 3, [4]), (7, 3, [4]), (8, 3, []), (9, 0, []), (10, 0, []), (11, 3, [])] | _ => []) (fun _ => hcL n0 l w.id v [.int .i64 f, .int .i64 v, .slice a ps.length c] false) mixed Tryz.func66 rfl rfl rfl (Nat.le_of_ble_eq_true rfl) ?_ ?_
  · (refine vc_mp (by kernel_rfl : (Qyd True (Qye (Qye (True ∧ True) ∧ True)) (Qye (True ∧ True)) True (Qyd True (∀ (i : Nat × OX (Sh.T changeSh) × Wk × AHeap), Qyy i n0 l v (∀ (c : Sh.T changeSh), Qyz i c) w → bs (decide (Qz0 i < 4)) (bs (decide ((↑(List.length (OX.xs (Qyj i))) : Int) < 3)) (∃ (a_2 : Option Addr) (n c_1 : Nat), Qz7 (Qyk i) l a_2 n c_1 ∧ (∃ (x : Int) (h' : AHeap), Qz5 121 [Value.slice a_2 n c_1, Qym (Qz0 i), Qym v] (Qyk i) (Qym x) h' ∧ bs (decide (x ≥ 0)) (∃ (a_3 : Option Addr) (n c_2 : Nat), Qyd (Qz7 h' l a_3 n c_2) (0 ≤ x) (x ≤ Qz1 x) (Qz1 x ≤ (↑n : Int) ∨ c_2 ≠ Qys ∧ Qz1 x < (↑c_2 : Int)) ((∀ (x : Addr), a_3 = some x → Addr.spot x = some 3) ∧ (∃ (a_4 : Option Addr) (n c_3 : Nat) (h'_1 : AHeap), Qz5 71 (Qz6 (Option.map (fun (x_1 : Addr) => Addr.mk (Addr.block x_1) (Addr.off x_1 + Int.toNat x) (Addr.spot x_1)) a_3) (Int.toNat (Qz1 x) - Int.toNat x) (cond (decide (c_2 = Qys)) Qys (c_2 - Int.toNat x))) h' (Value.slice a_4 n c_3) h'_1 ∧ (∃ (xs : List (List Value)), Qz2 (rowsV h'_1 (Value.slice a_4 n c_3) = some xs) (Qz4 xs = true) ((List.length (OX.xs (Qyj i)) + List.length xs) * 40) (∃ (a_5 : Option Addr) (n c_4 : Nat) (h' : AHeap), AHeap.app h'_1 (Qyr i) xs 3 = Qz3 a_5 n c_4 h' ∧ (∃ (j : Nat × OX (Sh.T changeSh) × Wk × AHeap), Qyd (Qyw l) Qyu (Value.slice a_5 n c_4 = Qyr j) (Qym (Qz1 (Qz0 i)) = Qym (Qz0 j)) (Qyd (Qyo f v a ps c) (Qyk j = h') (Qyy j n0 l v (∀ (c : Sh.T changeSh), Qyz j c) w) (4 - Prod.fst j < 4 - Prod.fst i) ((∀ (k : OX (Sh.T changeSh) × Wk × AHeap), Qyx k j v → Qyx k i v) ∧ (∀ (v : Value) (h : AHeap), False → False))))))))) (∃ (j : Nat × OX (Sh.T changeSh) × Wk × AHeap), Qyd (Qyw l) Qyu (Qyr i = Qyr j) (Qym (Qz1 (Qz0 i)) = Qym (Qz0 j)) (Qyd (Qyo f v a ps c) (Qyk j = h') (Qyy j n0 l v (∀ (c : Sh.T changeSh), Qyz j c) w) (4 - Prod.fst j < 4 - Prod.fst i) ((∀ (k : OX (Sh.T changeSh) × Wk × AHeap), Qyx k j v → Qyx k i v) ∧ (∀ (v : Value) (h : AHeap), False → False)))))) (∃ (j : OX (Sh.T changeSh) × Wk × AHeap), Qyd (Qyw l) Qyu (Qyr i = Qyq j) (Qyo f v a ps c) (Qyl j = Qyk i ∧ Prod.snd j = Qyi i ∧ Qyh j ∧ Qyg j v))) (∃ (j : OX (Sh.T changeSh) × Wk × AHeap), Qyd (Qyw l) Qyu (Qyr i = Qyq j) (Qyo f v a ps c) (Qyl j = Qyk i ∧ Prod.snd j = Qyi i ∧ Qyh j ∧ Qyg j v))) (Qye True) (True ∧ True ∧ True ∧ True) True ∧ Qye (Qye True) ∧ True ∧ True)) = _) ?_; delta Qyd Qye Qyf Qyg Qyh Qyi Qyj Qyk Qyl Qym Qyn Qyo Qyp Qyq Qyr Qys Qyt Qyu Qyv Qyw Qyx Qyy Qyz Qz0 Qz1 Qz2 Qz3 Qz4 Qz5 Qz6 Qz7)
    simp only [true_and, and_true]
    refine fun ⟨i, o, w1, g1⟩ ⟨hi, W1, B, ho, nc, hsm, eid⟩ => ?_
    dsimp only at *
    have lo3 : o.xs.length ≤ 3 := by rw [ho]; exact lstN_len _ _ _
    refine bs_d (fun hlt => bs_d (fun hl3 => ?_) (fun hl3 => ⟨(o, w1, g1), rfl, rfl, rfl, B, ?_⟩)) (fun hge => ⟨(o, w1, g1), rfl, rfl, rfl, B, by rw [ho, show i = 4 by omega]⟩)
    · have W2 := W1.grow B.le B.wf
      obtain ⟨_, _, A2, rfl, ix, rfl, hix⟩ := l13Of_spec o.g w1.changes.xs w1.changes.a w1.changes.c i v W2.C.sn.so.sl (Nat.le_trans nc (by decide))
      refine ⟨_, _, _, W2.ld (i := 5) (n := 1) rfl (by decide), _, _, A2, ?_⟩
      rcases idx_chF hix with ⟨hneg, hf, _⟩ | ⟨mm, ⟨xf, xv, xp⟩, rfl, hat, hf, _⟩
      · refine bs_d (fun e => absurd e (by omega)) (fun _ => ⟨(i + 1, o, w1, g1), rfl, by rw [wrap_i64 (by omega)]; rfl, rfl, ⟨by dsimp only; omega, W1, B, by dsimp only; rw [lstN, hf]; exact ho, nc, hsm, eid⟩, by dsimp only; omega, fun _ h => h, fun _ _ h => h⟩)
      · refine bs_d (fun _ => ?_) (fun e => absurd (Int.natCast_nonneg mm) e)
        obtain ⟨lo, r, row, ha, hmm, hrd, hld⟩ := W2.C.sn.so.sl.elem hat
        have SL := W2.C.sn.so.sl
        rw [ha] at SL
        have em : Option.map (fun x => (⟨x.block, x.off + ((mm : Nat) : Int).toNat, x.spot⟩ : Addr)) w1.changes.a = some ⟨lo, r + mm, some 3⟩ := by rw [ha]; rfl
        have ew : IntKind.i64.wrap ((mm : Int) + 1) = ((mm + 1 : Nat) : Int) := by rw [wrap_i64 (by omega)]; rfl
        have e1 : (IntKind.i64.wrap ((mm : Int) + 1)).toNat - ((mm : Nat) : Int).toNat = 1 := by rw [ew]; show mm + 1 - mm = 1; omega
        obtain ⟨_, g2, A3, a5, c5, js, rfl, B5⟩ := l13CopyChanges_sob o.g B.wf [(xf, xv, xp)] (some ⟨lo, r + mm, some 3⟩) (bif decide (w1.changes.c = 0) then 0 else w1.changes.c - ((mm : Nat) : Int).toNat) (Sl.mid SL hat) ⟨by simp, fun c hc => by rw [List.mem_singleton.1 hc]; exact hsm _ (List.mem_of_getElem? hat)⟩
        obtain ⟨a6, c6, j6, er6, S6, F6⟩ := chg_one B5
        obtain ⟨o', e6, B', hx'⟩ := (B.grow B5.le B5.wf).app2 (x := (xf, xv, xp)) (rn_chg S6) (F6.widen B.le.n (Nat.le_refl _)) (fun z hz hm => by have h1 := (B.fr.bd z hz).2; have h2 := (F6.bd z hm).1; omega)
        refine ⟨_, _, _, W2.ld (i := 5) (n := 1) rfl (by decide), Int.natCast_nonneg mm, by rw [ew]; omega, .inl (by rw [ew]; omega), fun x e => by rw [ha] at e; cases e; rfl, _, _, _, g2, by rw [em, e1]; exact A3, _, er6, rfl, by simp only [List.length_cons, List.length_nil]; omega, _, _, _, o'.g, e6, (i + 1, o', w1, g1), rfl, by rw [wrap_i64 (by omega)]; rfl, rfl, ⟨by dsimp only; omega, W1, B', ?_, nc, hsm, eid⟩, by dsimp only; omega, fun _ h => h, fun _ _ h => h⟩
        dsimp only
        rw [lstN, hf]
        dsimp only
        rw [if_pos (by rw [← ho]; omega), ← ho]; exact hx'
    · have h3 : (lstN w1.changes.xs v i).length = 3 := by rw [← ho]; omega
      rw [ho, ← lstN_full h3 (4 - i), show i + (4 - i) = 4 by omega]
  have tl : ∀ (ww : Wk) (gg : AHeap), WkOk n0 l gg ww → Mv l w ww g gg → cgM w.changes.xs (f, v, ps) = some ww.changes.xs → ww.rep = setC w.rep ww.changes.xs → ww.says.xs = w.says.xs →
      (¬ ww.id = v % 4 → Q (.bool true) gg) ∧ (∀ (o : OX changeSh.T), OXok changeSh gg o → o.xs = lstN ww.changes.xs v 4 → ww.id = v % 4 → (¬ o.xs.length = 3 → Q (.bool true) o.g) ∧ (o.xs.length = 3 → ∃ (a6 : Option Addr) (c6 : Nat) (g5 : AHeap) (S' : LX saySh.T) (g6 : AHeap) (g7 : AHeap), ACall Tryz.prog 34 [.agg #[.int .i64 5, .int .i64 ww.id, .int .i64 v, .int .i64 0, .string ⟨#[]⟩, .slice o.a o.xs.length o.c]] o.g (.agg #[.int .i64 5, .int .i64 ww.id, .int .i64 v, .int .i64 0, .string ⟨#[]⟩, .slice a6 o.xs.length c6]) g5 ∧ o.g.Le g5 ∧ g5.wf ∧
        (g5.push ⟨[[.int .i64 5, .int .i64 ww.id, .int .i64 v, .int .i64 0, .string ⟨#[]⟩, .slice a6 o.xs.length c6]], 6, true⟩).app (.slice ww.says.a ww.says.xs.length ww.says.c) [[.int .i64 5, .int .i64 ww.id, .int .i64 v, .int .i64 0, .string ⟨#[]⟩, .slice a6 o.xs.length c6]] 6 = some (.slice S'.a S'.xs.length S'.c, g6) ∧ (∃ g8, g6.wr l 0 13 [.slice S'.a S'.xs.length S'.c] = some g8 ∧ ACall Tryz.prog 67 [.pointer (some ⟨l, 0, some 0⟩), .agg #[.int .i64 5, .int .i64 ww.id, .int .i64 v, .int .i64 0, .string ⟨#[]⟩, .slice o.a o.xs.length o.c]] g8 (.tuple #[]) g7) ∧ Q (.bool true) g7)) ∧ ww.changes.xs.length ≤ 40 ∧ ∀ c ∈ ww.changes.xs, changeSh.small c := by
    intro ww gg W1 M1 eC er es
    have R1 : ROk 1000 m (ww.rep, ww.says.xs) := by
      rw [er, es]
      exact R.setC (cgM_ok eC R.ncg R.cgs hc).1 (cgM_ok eC R.ncg R.cgs hc).2
    have hidw : InR 0 3 ww.id := R1.id
    have eid : ww.id = w.id := congrArg (fun r : replicaSh.T => r.1) er
    have no : ¬ ((show Int from v) % 4 = w.id ∧ (lstN ww.changes.xs v 4).length = 3) → chgR (w.rep, w.says.xs) (f, v, ps) = .inr (ww.rep, ww.says.xs) := fun h => by
      unfold chgR
      rw [show cgM (w.rep, w.says.xs).1.2.2.2.2.2.1 (f, v, ps) = some ww.changes.xs from eC]
      dsimp only
      rw [er, es]
      exact if_neg h
    refine ⟨fun hne => HQ _ _ ⟨ww, W1, M1, .inr ⟨no fun h => hne (by rw [eid]; exact h.1.symm), rfl⟩⟩, fun o B eo heq => ⟨fun h3 => HQ _ _ ⟨ww, W1.grow B.le B.wf, M1.trans W.wf (.of_le B.le), .inr ⟨no fun h => h3 (by rw [eo]; exact h.2), rfl⟩⟩, fun h3 => ?_⟩, R1.ncg, fun c h => (R1.cgs c h).2.2.2.1⟩
    have W2 := W1.grow B.le B.wf
    have Hc : ∀ c ∈ o.xs, CgW c := fun c h => by rw [eo] at h; exact R1.cgs c (lstN_mem h).1
    have sm : (Sh.sl changeSh).small o.xs := ⟨by omega, fun c h => (Hc c h).2.2.2.1⟩
    obtain ⟨N, _⟩ := opn_ok (v := v) R1.cgs hidw hv
    rw [show lstN (ww.rep, ww.says.xs).1.2.2.2.2.2.1 v 4 = o.xs from eo.symm] at N
    obtain ⟨_, g5, A5, le5, w5, a6, c6, js, rfl, sn, fr⟩ := l13CopySay_spec o.g B.wf 5 ww.id v 0 ⟨#[]⟩ o.xs o.a o.c B.sn.so.sl sm
    obtain ⟨S', g6, eS, e6', e7', W5, M5⟩ := W2.say le5 w5 (k := 5) (f := ww.id) (v := v) (q := 0) (op := ⟨#[]⟩) sn fr
    have St : Stay l ww o.g o.xs o.a o.c := fun g' kp => (B.sn.kp kp (fun z hz hj => by
      obtain ⟨b, hb, hzb⟩ := List.mem_flatten.1 hj
      have h1 := W1.lt b hb z hzb
      have h2 := (B.fr.bd z hz).1
      omega)).so.sl
    have K5 : VSk (m + 1) (ww.votes.xs, S'.xs) := by
      rw [eS, eo]
      exact (R1.say (opn_ok (v := v) R1.cgs hidw hv).2).vs
    obtain ⟨_, g7, A6, rfl, w', W6, M6, e6⟩ := sEnter_spec W5 K5 (by omega) hidw 5 ww.id v 0 ⟨#[]⟩ o.xs o.a o.c (St.mv B.wf M5) N (by omega) sm (fun c h => Nat.le_trans (Hc c h).2.2.2.2 (by decide))
    refine ⟨a6, c6, g5, S', g6, g7, A5, le5, w5, e6', ⟨_, e7', A6⟩, HQ _ _ ⟨w', W6, ((M1.trans W.wf (.of_le B.le)).trans W.wf M5).trans W.wf M6, .inr ⟨?_, rfl⟩⟩⟩
    unfold chgR
    rw [show cgM (w.rep, w.says.xs).1.2.2.2.2.2.1 (f, v, ps) = some ww.changes.xs from eC]
    dsimp only
    rw [if_pos ⟨by rw [← heq, eid]; rfl, by rw [← eo]; exact h3⟩, e6, eS, ← er, ← es, eo, show w.rep.1 = ww.id from eid.symm]
    rfl
  (refine vc_mp (by kernel_rfl : (∃ (a_1 : Option Addr) (n c_1 : Nat), Qz7 g l a_1 n c_1 ∧ (∃ (x : Int) (h' : AHeap), Qz5 121 [Value.slice a_1 n c_1, Qym f, Qym v] g (Qym x) h' ∧ bs (decide (x < 0)) (∃ (a_2 : Option Addr) (n c_2 : Nat), Qz7 h' l a_2 n c_2 ∧ bs (decide ((↑n : Int) ≥ 40)) (Q (Value.bool false) h') (∃ (a_3 : Option Addr) (n c_3 : Nat), Qz7 h' l a_3 n c_3 ∧ (∃ (a_4 : Option Addr) (n_1 c_4 : Nat), Qz7 (Qzo h' [Qyn f v a ps c]) l a_4 n_1 c_4 ∧ Qzj a_4 n_1 c_4 a_3 n c_3) ∧ (∃ (a_4 : Option Addr) (n_1 c_4 : Nat) (h'_1 : AHeap), Qz5 71 (Qz6 (Qzh h' 3) 1 2) (Qzo h' [Qyn f v a ps c]) (Value.slice a_4 n_1 c_4) h'_1 ∧ (∃ (a : Option Addr) (n_2 c : Nat), Qz7 h'_1 l a n_2 c ∧ Qzj a n_2 c a_3 n c_3) ∧ (∃ (xs : List (List Value)), Qz2 (rowsV h'_1 (Value.slice a_4 n_1 c_4) = some xs) (Qz4 xs = true) ((n + List.length xs) * 40) (∃ (a_5 : Option Addr) (n_2 c_5 : Nat) (h' : AHeap), AHeap.app h'_1 (Value.slice a_3 n c_3) xs 3 = Qz3 a_5 n_2 c_5 h' ∧ (∃ (h'_2 : AHeap), AHeap.wr h' l Qys 5 (Qz6 a_5 n_2 c_5) = some h'_2 ∧ (∃ (x : Int), Qzl h'_2 l [Qym x] ∧ (∃ (x_1 : Int) (h' : AHeap), Qz5 33 [Qym v] h'_2 (Qym x_1) h' ∧ (∃ (x_2 : Int), Qzm h' l x_2 x) ∧ bs (not (decide (x_1 = x))) (Q Qz8 h') (∃ (i : Nat × OX (Sh.T changeSh) × Wk × AHeap), Qyd (Qyw l) Qyu (Value.slice (Qzh h' 3) Qys 1 = Qyr i) (Qzp = Qym (Qz0 i)) (Qyd (Qyo f v a ps c) (Qyk i = Qzo h' List.nil) (Qyy i n0 l v (∀ (c : Sh.T changeSh), Qyz i c) w) (∀ (j : OX (Sh.T changeSh) × Wk × AHeap), Qyx j i v → bs (decide (Qzn j ≥ 3)) (∃ (x : Int), Qzl (Qyl j) l [Qym x] ∧ Qym v = Qym v ∧ (∃ (x_2 : Int), Qzm (Qyl j) l x_2 x) ∧ (∃ (a : Option Addr) (n c : Nat), Qzk (Qyl j) l a n c ∧ (∃ (x_2 x_3 x_4 x_5 : Int) (x_6 : ByteArray) (a_6 : Option Addr) (n_3 c_6 : Nat) (h' : AHeap), Qz5 34 [Qzd x v j] (Qyl j) (Qza (Qzf x_2 x_3 x_4 x_5 x_6 a_6 n_3 c_6)) h' ∧ (∃ (a_7 : Option Addr) (n_4 c_7 : Nat), Qzk h' l a_7 n_4 c_7 ∧ Qzj a_7 n_4 c_7 a n c) ∧ (∃ (a_7 : Option Addr) (n_4 c_7 : Nat), Qzk (Qze h' [Qzf x_2 x_3 x_4 x_5 x_6 a_6 n_3 c_6]) l a_7 n_4 c_7 ∧ Qzj a_7 n_4 c_7 a n c) ∧ (∃ (xs : List (List Value)), Qz2 (rowsV (Qze h' [Qzf x_2 x_3 x_4 x_5 x_6 a_6 n_3 c_6]) (Qzi h') = some xs) (Qzg xs = true) ((n + List.length xs) * 72) (∃ (a_7 : Option Addr) (n_4 c_7 : Nat) (h'_3 : AHeap), AHeap.app (Qze h' [Qzf x_2 x_3 x_4 x_5 x_6 a_6 n_3 c_6]) (Value.slice a n c) xs 6 = Qz3 a_7 n_4 c_7 h'_3 ∧ (∃ (h' : AHeap), AHeap.wr h'_3 l Qys 13 (Qz6 a_7 n_4 c_7) = some h' ∧ (∃ (h'_4 : AHeap), Qz9 [Qyv l, Qzd x v j] h' h'_4 ∧ Q Qz8 h'_4))))))) (Q Qz8 (Qyl j))) (∀ (v : Value) (h : AHeap), False → Q v h))))))))))) (∃ (x : Int), Qzl h' l [Qym x] ∧ (∃ (x_1 : Int) (h'_1 : AHeap), Qz5 33 [Qym v] h' (Qym x_1) h'_1 ∧ (∃ (x_2 : Int), Qzm h'_1 l x_2 x) ∧ bs (not (decide (x_1 = x))) (Q Qz8 h'_1) (∃ (i : Nat × OX (Sh.T changeSh) × Wk × AHeap), Qyd (Qyw l) Qyu (Value.slice (Qzh h'_1 3) Qys 1 = Qyr i) (Qzp = Qym (Qz0 i)) (Qyd (Qyo f v a ps c) (Qyk i = Qzo h'_1 List.nil) (Qyy i n0 l v (∀ (c : Sh.T changeSh), Qyz i c) w) (∀ (j : OX (Sh.T changeSh) × Wk × AHeap), Qyx j i v → bs (decide (Qzn j ≥ 3)) (∃ (x : Int), Qzl (Qyl j) l [Qym x] ∧ Qym v = Qym v ∧ (∃ (x_2 : Int), Qzm (Qyl j) l x_2 x) ∧ (∃ (a : Option Addr) (n c : Nat), Qzk (Qyl j) l a n c ∧ (∃ (x_2 x_3 x_4 x_5 : Int) (x_6 : ByteArray) (a_2 : Option Addr) (n_1 c_2 : Nat) (h' : AHeap), Qz5 34 [Qzd x v j] (Qyl j) (Qza (Qzf x_2 x_3 x_4 x_5 x_6 a_2 n_1 c_2)) h' ∧ (∃ (a_3 : Option Addr) (n_2 c_3 : Nat), Qzk h' l a_3 n_2 c_3 ∧ Qzj a_3 n_2 c_3 a n c) ∧ (∃ (a_3 : Option Addr) (n_2 c_3 : Nat), Qzk (Qze h' [Qzf x_2 x_3 x_4 x_5 x_6 a_2 n_1 c_2]) l a_3 n_2 c_3 ∧ Qzj a_3 n_2 c_3 a n c) ∧ (∃ (xs : List (List Value)), Qz2 (rowsV (Qze h' [Qzf x_2 x_3 x_4 x_5 x_6 a_2 n_1 c_2]) (Qzi h') = some xs) (Qzg xs = true) ((n + List.length xs) * 72) (∃ (a_3 : Option Addr) (n_2 c_3 : Nat) (h'_2 : AHeap), AHeap.app (Qze h' [Qzf x_2 x_3 x_4 x_5 x_6 a_2 n_1 c_2]) (Value.slice a n c) xs 6 = Qz3 a_3 n_2 c_3 h'_2 ∧ (∃ (h' : AHeap), AHeap.wr h'_2 l Qys 13 (Qz6 a_3 n_2 c_3) = some h' ∧ (∃ (h'_3 : AHeap), Qz9 [Qyv l, Qzd x v j] h' h'_3 ∧ Q Qz8 h'_3))))))) (Q Qz8 (Qyl j))) (∀ (v : Value) (h : AHeap), False → Q v h))))))) = _) ?_; delta Qyd Qyf Qyg Qyh Qyi Qyj Qyk Qyl Qym Qyn Qyo Qyp Qyq Qyr Qys Qyt Qyu Qyv Qyw Qyx Qyy Qyz Qz0 Qz2 Qz3 Qz4 Qz5 Qz6 Qz7 Qz8 Qz9 Qza Qzb Qzc Qzd Qze Qzf Qzg Qzh Qzi Qzj Qzk Qzl Qzm Qzn Qzo Qzp)
  refine ⟨_, _, _, W.ld (i := 5) (n := 1) rfl (by decide), _, _, A1, ?_⟩
  rcases idx_chF hi1 with ⟨hneg, _, hno⟩ | ⟨mm, x, rfl, _, _, hyes⟩
  · refine bs_d (fun _ => ⟨_, _, _, W.ld (i := 5) (n := 1) rfl (by decide), bs_d (fun h40 => ?_) (fun h40 => ?_)⟩) (fun e => absurd hneg e)
    · refine HQ _ _ ⟨w, W, .of_le (.refl _), .inl ⟨9, ?_, rfl⟩⟩
      have h40' : 40 ≤ w.changes.xs.length := by omega
      unfold chgR
      rw [show cgM (w.rep, w.says.xs).1.2.2.2.2.2.1 (f, v, ps) = none from (if_neg hno).trans (if_pos h40')]
    · have lp := AHeap.Le.push W.wf ⟨[[.int .i64 f, .int .i64 v, .slice a ps.length c]], 3, true⟩
      have wp := W.wf.push ⟨[[.int .i64 f, .int .i64 v, .slice a ps.length c]], 3, true⟩
      obtain ⟨_, g2, A2, a5, c5, js, rfl, B5⟩ := l13CopyChanges_sob _ wp [(f, v, ps)] (some ⟨g.n, 0, some 3⟩) 2 (sl_one AHeap.get_push_eq ((hx g .refl).mono lp)) ⟨by simp, fun c hc => by rw [List.mem_singleton.1 hc]; exact smp⟩
      obtain ⟨a6, c6, j6, er6, S6, F6⟩ := chg_one B5
      obtain ⟨C', g3, eC, e6, e7, W3, M3⟩ := W.chgApp (f := f) (v := v) (lp.trans B5.le) B5.wf S6 (F6.widen lp.n (Nat.le_refl _))
      refine ⟨_, _, _, W.ld (i := 5) (n := 1) rfl (by decide), ⟨_, _, _, (W.grow lp wp).ld (i := 5) (n := 1) rfl (by decide), rfl⟩, _, _, _, g2, A2, ⟨_, _, _, (W.grow (lp.trans B5.le) B5.wf).ld (i := 5) (n := 1) rfl (by decide), rfl⟩, _, er6, rfl, by simp only [List.length_cons, List.length_nil]; omega, _, _, _, g3, e6, _, e7, ?_⟩
      have h40' : ¬ 40 ≤ w.changes.xs.length := by omega
      obtain ⟨t1, t2, t3, t4⟩ := tl _ _ W3 M3 ((if_neg hno).trans ((if_neg h40').trans (congrArg some eC.symm))) rfl rfl
      refine ⟨_, W3.ld (i := 0) (n := 1) rfl (by decide), _, _, specLeader _ v hv.1, ⟨_, W3.ld (i := 0) (n := 1) rfl (by decide), rfl⟩, bs_dn (fun hne => t1 fun e => hne e.symm) (fun heq => ⟨(0, ⟨some ⟨_, 0, some 3⟩, 1, [], [_], _⟩, _, _), rfl, rfl, rfl, rfl, rfl, rfl, ⟨Nat.zero_le _, W3, OXok.lit W3.wf, rfl, t3, t4, rfl⟩, fun ⟨o, w2, g2⟩ ⟨e1, B, eo⟩ => ?_, fun _ _ h => h.elim⟩)⟩
      dsimp only at e1 B eo ⊢
      cases e1
      obtain ⟨u1, u2⟩ := t2 o B eo heq.symm
      have lo3 : o.xs.length ≤ 3 := by rw [eo]; exact lstN_len _ _ _
      refine bs_d (fun h3 => ?_) (fun h3 => u1 (by omega))
      have W4 := W3.grow B.le B.wf
      obtain ⟨a7, c7, g5, S', g6, g7, A5, le5, w5, f6, ⟨g8, f7, A6⟩, q⟩ := u2 (by omega)
      have lp5 := AHeap.Le.push w5 ⟨[[.int .i64 5, .int .i64 w.id, .int .i64 v, .int .i64 0, .string ⟨#[]⟩, .slice a7 o.xs.length c7]], 6, true⟩
      have wp5 := w5.push ⟨[[.int .i64 5, .int .i64 w.id, .int .i64 v, .int .i64 0, .string ⟨#[]⟩, .slice a7 o.xs.length c7]], 6, true⟩
      exact ⟨_, W4.ld (i := 0) (n := 1) rfl (by decide), rfl, ⟨_, W4.ld (i := 0) (n := 1) rfl (by decide), rfl⟩, _, _, _, W4.ld (i := 13) (n := 1) rfl (by decide), _, _, _, _, _, _, _, _, _, A5, ⟨_, _, _, (W4.grow le5 w5).ld (i := 13) (n := 1) rfl (by decide), rfl⟩, ⟨_, _, _, (W4.grow (le5.trans lp5) wp5).ld (i := 13) (n := 1) rfl (by decide), rfl⟩, _, rowsV_push, rfl, by simp only [List.length_cons, List.length_nil]; omega, _, _, _, g6, f6, _, f7, _, A6, q⟩
  · refine bs_d (fun e => absurd e (by omega)) (fun _ => ?_)
    obtain ⟨t1, t2, t3, t4⟩ := tl _ _ W (.of_le (.refl _)) (if_pos hyes) rfl rfl
    refine ⟨_, W.ld (i := 0) (n := 1) rfl (by decide), _, _, specLeader _ v hv.1, ⟨_, W.ld (i := 0) (n := 1) rfl (by decide), rfl⟩, bs_dn (fun hne => t1 fun e => hne e.symm) (fun heq => ⟨(0, ⟨some ⟨_, 0, some 3⟩, 1, [], [_], _⟩, _, _), rfl, rfl, rfl, rfl, rfl, rfl, ⟨Nat.zero_le _, W, OXok.lit W.wf, rfl, t3, t4, rfl⟩, fun ⟨o, w2, g2⟩ ⟨e1, B, eo⟩ => ?_, fun _ _ h => h.elim⟩)⟩
    dsimp only at e1 B eo ⊢
    cases e1
    obtain ⟨u1, u2⟩ := t2 o B eo heq.symm
    have lo3 : o.xs.length ≤ 3 := by rw [eo]; exact lstN_len _ _ _
    refine bs_d (fun h3 => ?_) (fun h3 => u1 (by omega))
    have W4 := W.grow B.le B.wf
    obtain ⟨a7, c7, g5, S', g6, g7, A5, le5, w5, f6, ⟨g8, f7, A6⟩, q⟩ := u2 (by omega)
    have lp5 := AHeap.Le.push w5 ⟨[[.int .i64 5, .int .i64 w.id, .int .i64 v, .int .i64 0, .string ⟨#[]⟩, .slice a7 o.xs.length c7]], 6, true⟩
    have wp5 := w5.push ⟨[[.int .i64 5, .int .i64 w.id, .int .i64 v, .int .i64 0, .string ⟨#[]⟩, .slice a7 o.xs.length c7]], 6, true⟩
    exact ⟨_, W4.ld (i := 0) (n := 1) rfl (by decide), rfl, ⟨_, W4.ld (i := 0) (n := 1) rfl (by decide), rfl⟩, _, _, _, W4.ld (i := 13) (n := 1) rfl (by decide), _, _, _, _, _, _, _, _, _, A5, ⟨_, _, _, (W4.grow le5 w5).ld (i := 13) (n := 1) rfl (by decide), rfl⟩, ⟨_, _, _, (W4.grow (le5.trans lp5) wp5).ld (i := 13) (n := 1) rfl (by decide), rfl⟩, _, rowsV_push, rfl, by simp only [List.length_cons, List.length_nil]; omega, _, _, _, g6, f6, _, f7, _, A6, q⟩
end Go.Proofs.YtpgfjadjhliohaaGreat
end
section
namespace Go.Proofs.YtpgfjadjhliohaaGreat
open Go.Abs Go.Dat
set_option maxRecDepth 100000
set_option maxHeartbeats 8000000
theorem CopyOk.wk {h g : AHeap} {vs : List voteSh.T} {cg cs : List changeSh.T} {log : List Sh.str.T} {V : LX voteSh.T} {C N : LX changeSh.T} {L : LX Sh.str.T} (X : CopyOk h g vs cg cs log V C N L) (id view top k f v q : Int) (chg : Bool) (op : ByteArray) :
    WkOk h.n g.n (g.push ⟨[(⟨id, view, chg, top, V, C, k, f, v, q, op, N, L, ⟨none, 0, [], []⟩⟩ : Wk).row], 14, true⟩) ⟨id, view, chg, top, V, C, k, f, v, q, op, N, L, ⟨none, 0, [], []⟩⟩ := by
  obtain ⟨le, wf, _, _, _, _, bV, bC, bN, bL, dj⟩ := X
  have lp := AHeap.Le.push wf ⟨[(⟨id, view, chg, top, V, C, k, f, v, q, op, N, L, ⟨none, 0, [], []⟩⟩ : Wk).row], 14, true⟩
  have wp := wf.push ⟨[(⟨id, view, chg, top, V, C, k, f, v, q, op, N, L, ⟨none, 0, [], []⟩⟩ : Wk).row], 14, true⟩
  exact ⟨wp, AHeap.get_push_eq, le.n, bV.kp (J := []) (.of_le lp) wp (by simp), bC.kp (J := []) (.of_le lp) wp (by simp), bN.kp (J := []) (.of_le lp) (by simp), bL.kp (J := []) (.of_le lp) wp (by simp), SoB.new wp (Nat.le_trans le.n lp.n), dj g.n (.inr (Nat.le_refl _))⟩
def Qzq := Value.slice none Qys Qys
theorem l13Ill_spec (h : AHeap) (c : Int) : ACall Tryz.prog 49 [.int .i64 c] h (.agg #[.int .i64 0, .int .i64 0, .bool false, .int .i64 0, .slice none 0 0, .slice none 0 0, .int .i64 0, .int .i64 0, .int .i64 0, .int .i64 0, .string ⟨#[]⟩, .slice none 0 0, .slice none 0 0, .slice none 0 0, .int .i64 c]) h := by
  refine acall_out (acall_vc (fun _ => false) (fun _ => []) (fun _ => .none) mixed Tryz.func49 rfl rfl rfl (Nat.le_of_ble_eq_true rfl) (by (refine vc_mp (by kernel_rfl : (Qye True) = _) ?_; delta Qye); simp only [and_self]) ?_)
  (refine vc_mp (by kernel_rfl : (Qza [Qzc, Qzc, Value.bool false, Qzc, Qzq, Qzq, Qzc, Qzc, Qzc, Qzc, Value.string Qzb, Qzq, Qzq, Qzq, Qym c] = Qza [Qzp, Qzp, Value.bool false, Qzp, Qzq, Qzq, Qzp, Qzp, Qzp, Qzp, Value.string Qzb, Qzq, Qzq, Qzq, Qym c] ∧ h = h) = _) ?_; delta Qym Qys Qza Qzb Qzc Qzp Qzq)
  exact ⟨rfl, rfl⟩
theorem out_spec {n0 l : Nat} {g : AHeap} {w : Wk} (W : WkOk n0 l g w) : ACall Tryz.prog 55 [.pointer (some ⟨l, 0, some 0⟩)] g (.agg #[.int .i64 w.id, .int .i64 w.view, .bool w.chg, .int .i64 w.top, .slice w.votes.a w.votes.xs.length w.votes.c, .slice w.changes.a w.changes.xs.length w.changes.c, .int .i64 w.nk, .int .i64 w.nf, .int .i64 w.nv, .int .i64 w.nq, .string w.nop, .slice w.nch.a w.nch.xs.length w.nch.c, .slice w.log.a w.log.xs.length w.log.c, .slice w.says.a w.says.xs.length w.says.c, .int .i64 0]) g := by
  refine acall_out (acall_vc (fun _ => false) (fun r => match r with | 1 => [(0, 0, []), (1, 0, []), (2, 0, []), (4, 0, []), (5, 0, []), (6, 0, []), (3, 1, []), (7, 1, []), (8, 0, []), (9, 3, [])] | _ => []) (fun _ => .none) mixed Tryz.func55 rfl rfl rfl (Nat.le_of_ble_eq_true rfl) (by (refine vc_mp (by kernel_rfl : (Qye True) = _) ?_; delta Qye); simp only [and_self]) ?_)
  (refine vc_mp (by kernel_rfl : (∃ (x x_1 : Int) (x_2 : Bool) (x_3 : Int) (a : Option Addr) (n c : Nat) (a_1 : Option Addr) (n_1 c_1 : Nat) (x_4 x_5 x_6 x_7 : Int) (x_8 : ByteArray) (a_2 : Option Addr) (n_2 c_2 : Nat) (a_3 : Option Addr) (n_3 c_3 : Nat), AHeap.ld g l Qys Qys 13 = some [Qym x, Qym x_1, Value.bool x_2, Qym x_3, Value.slice a n c, Value.slice a_1 n_1 c_1, Qym x_4, Qym x_5, Qym x_6, Qym x_7, Value.string x_8, Value.slice a_2 n_2 c_2, Value.slice a_3 n_3 c_3] ∧ (∃ (a_4 : Option Addr) (n_4 c_4 : Nat), Qzk g l a_4 n_4 c_4 ∧ Qza [Qym x, Qym x_1, Value.bool x_2, Qym x_3, Value.slice a n c, Value.slice a_1 n_1 c_1, Qym x_4, Qym x_5, Qym x_6, Qym x_7, Value.string x_8, Value.slice a_2 n_2 c_2, Value.slice a_3 n_3 c_3, Value.slice a_4 n_4 c_4, Qzc] = Qza [Qym (Wk.id w), Qym (Wk.view w), Value.bool (Wk.chg w), Qym (Wk.top w), Value.slice (LX.a (Wk.votes w)) (List.length (LX.xs (Wk.votes w))) (LX.c (Wk.votes w)), Qyp (LX.a (Wk.changes w)) (LX.xs (Wk.changes w)) (LX.c (Wk.changes w)), Qym (Wk.nk w), Qym (Wk.nf w), Qym (Wk.nv w), Qym (Wk.nq w), Value.string (Wk.nop w), Qyp (LX.a (Wk.nch w)) (LX.xs (Wk.nch w)) (LX.c (Wk.nch w)), Value.slice (LX.a (Wk.log w)) (List.length (LX.xs (Wk.log w))) (LX.c (Wk.log w)), Value.slice (LX.a (Wk.says w)) (List.length (LX.xs (Wk.says w))) (LX.c (Wk.says w)), Qzp] ∧ g = g)) = _) ?_; delta Qym Qyp Qys Qz6 Qza Qzc Qzk Qzp)
  exact ⟨_, _, _, _, _, _, _, _, _, _, _, _, _, _, _, _, _, _, _, _, _, W.ld (i := 0) (n := 13) rfl (by decide), _, _, _, W.ld (i := 13) (n := 1) rfl (by decide), rfl, rfl⟩
theorem _root_.Go.Dat.WkOk.ge {n0 l : Nat} {g : AHeap} {w : Wk} (W : WkOk n0 l g w) : ∀ z ∈ w.all l, n0 ≤ z := by
  intro z hz
  obtain ⟨a, ha, hz⟩ := List.mem_flatten.1 hz
  simp only [Wk.lists, List.mem_cons, List.not_mem_nil, or_false] at ha
  rcases ha with rfl | rfl | rfl | rfl | rfl | rfl
  · simp only [List.mem_cons, List.not_mem_nil, or_false] at hz
    subst hz; exact W.lo
  · exact (W.V.fr.bd z hz).1
  · exact (W.C.fr.bd z hz).1
  · exact (W.N.2.bd z hz).1
  · exact (W.L.fr.bd z hz).1
  · exact (W.S.fr.bd z hz).1
theorem _root_.Go.Dat.Mv.le {h g g' : AHeap} {l : Nat} {w w' : Wk} (M : Mv l w w' g g') (W : WkOk h.n l g w) (hw : h.wf) (le : h.Le g) : h.Le g' :=
  ⟨Nat.le_trans le.n M.kp.n, fun z o ho => M.kp.get z o (fun hz => by have h1 := W.ge z hz; have h2 := hw.lt ho; omega) (le.get z o ho)⟩
end Go.Proofs.YtpgfjadjhliohaaGreat
end
section
namespace Go.Proofs.YtpgfjadjhliohaaGreat
open Go.Abs Go.Dat
set_option maxRecDepth 100000
set_option maxHeartbeats 8000000
theorem chgR_err {x : RS} {c : changeSh.T} {e : Int} (h : chgR x c = .inl e) : e = 9 := by
  unfold chgR at h
  split at h
  · cases h; rfl
  · split at h <;> cases h
theorem _root_.Go.Dat.WkOk.keep {h g g' : AHeap} {l : Nat} {w : Wk} (W : WkOk h.n l g w) (hw : h.wf) (le : h.Le g) (kp : Kp (w.all l) g g') : h.Le g' :=
  ⟨Nat.le_trans le.n kp.n, fun z o ho => kp.get z o (fun hz => by have h1 := W.ge z hz; have h2 := hw.lt ho; omega) (le.get z o ho)⟩
end Go.Proofs.YtpgfjadjhliohaaGreat
end
section
namespace Go.Proofs.YtpgfjadjhliohaaGreat
open Go.Abs Go.Dat
set_option maxRecDepth 100000
set_option maxHeartbeats 8000000
end Go.Proofs.YtpgfjadjhliohaaGreat
end
section
namespace Go.Proofs.YtpgfjadjhliohaaGreat
open Go.Abs Go.Dat
set_option maxRecDepth 100000
set_option maxHeartbeats 8000000
end Go.Proofs.YtpgfjadjhliohaaGreat
end
