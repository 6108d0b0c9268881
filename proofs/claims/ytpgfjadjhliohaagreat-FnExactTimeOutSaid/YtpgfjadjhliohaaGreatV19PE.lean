/- PE. -/
import Derived.Test.YtpgfjadjhliohaaGreatV19PB
import Derived.Test.YtpgfjadjhliohaaGreatV19PD
namespace Go.Dat
open Go.Abs
def Stay (l : Nat) (w : Wk) (g : AHeap) (cs : List changeSh.T) (a : Option Addr) (c : Nat) : Prop := ∀ g', Kp (w.all l) g g' → Sl g' changeSh cs (.slice a cs.length c)
theorem Stay.mv {l : Nat} {w w' : Wk} {g g' : AHeap} {cs : List changeSh.T} {a : Option Addr} {c : Nat} (H : Stay l w g cs a c) (wf : g.wf) (M : Mv l w w' g g') : Stay l w' g' cs a c := fun g2 k => H g2 (M.kp.drop wf k M.ids)
theorem Mv.setN {l : Nat} {w : Wk} {g g' : AHeap} (nk nf nv nq : Int) (nop : ByteArray) (N' : LX changeSh.T) (kp : Kp w.nch.ids g g') (hi : ∀ z ∈ N'.ids, g.n ≤ z ∨ z ∈ w.nch.ids) (o' : Option AObj) : Mv l w { w with nk := nk, nf := nf, nv := nv, nq := nq, nop := nop, nch := N' } g (g'.put l o') :=
  Mv.set (k := 3) (old := w.nch.ids) (new := N'.ids) rfl rfl kp hi o'
abbrev entW (w : Wk) (k f v q : Int) (op : ByteArray) (N : LX changeSh.T) (top : Int) (V : LX voteSh.T) (S : LX saySh.T) : Wk := { w with view := v, chg := false, top := top, nk := k, nf := f, nv := v, nq := q, nop := op, nch := N, votes := V, says := S }
theorem WkOk.opn {n0 l : Nat} {g g1 : AHeap} {w : Wk} (W : WkOk n0 l g w) (le1 : g.Le g1) (w1 : g1.wf) (k f v q : Int) (op : ByteArray) (N : LX changeSh.T) (S1 : Sn g1 changeSh N.xs (.slice N.a N.xs.length N.c) N.ids) (F1 : Fresh g.n g1.n N.ids) :
    ∃ ga gb gc gd, g1.wr l 0 6 [.int .i64 k, .int .i64 f, .int .i64 v, .int .i64 q, .string op, .slice N.a N.xs.length N.c] = some ga ∧ ga.wr l 0 1 [.int .i64 v] = some gb ∧ gb.wr l 0 2 [.bool false] = some gc ∧ gc.wr l 0 3 [.int .i64 0] = some gd ∧ WkOk n0 l gd (entW w k f v q op N 0 w.votes w.says) ∧ Mv l w (entW w k f v q op N 0 w.votes w.says) g gd := by
  have W1 := (W.grow le1 w1).setN k f v q op N S1 W.n F1 W.lt
  have M1 := Mv.setN (l := l) (w := w) k f v q op N (.of_le le1) (fun z hz => .inl (F1.bd z hz).1) (some ⟨[({ w with nk := k, nf := f, nv := v, nq := q, nop := op, nch := N } : Wk).row], 14, true⟩)
  have W2 := W1.num v w.chg w.top
  have W3 := W2.num v false w.top
  have W4 := W3.num v false 0
  refine ⟨_, _, _, _, wk_wr (W.grow le1 w1).obj rfl (by simp), wk_wr W1.obj rfl (by simp), wk_wr W2.obj rfl (by simp), wk_wr W3.obj rfl (by simp), W4, ?_⟩
  exact ((M1.trans W.wf (Mv.num (w := { w with nk := k, nf := f, nv := v, nq := q, nop := op, nch := N }) (w' := { w with view := v, nk := k, nf := f, nv := v, nq := q, nop := op, nch := N }) rfl _)).trans W.wf (Mv.num (w := { w with view := v, nk := k, nf := f, nv := v, nq := q, nop := op, nch := N }) (w' := { w with view := v, chg := false, nk := k, nf := f, nv := v, nq := q, nop := op, nch := N }) rfl _)).trans W.wf (Mv.num (w := { w with view := v, chg := false, nk := k, nf := f, nv := v, nq := q, nop := op, nch := N }) (w' := entW w k f v q op N 0 w.votes w.says) rfl _)
end Go.Dat
namespace Go.Proofs.YtpgfjadjhliohaaGreat
open Go.Abs Go.Dat
set_option maxRecDepth 100000
set_option maxHeartbeats 8000000
def seL (n0 l : Nat) (gL : AHeap) (w : Wk) (k f v q : Int) (op : ByteArray) (cs : List changeSh.T) (a : Option Addr) (c : Nat) (N : LX changeSh.T) (ao : Option Addr) (co : Nat) (b : Bool) : LSpec where
  ι := Nat × LX voteSh.T × LX saySh.T × AHeap
  κ := LX voteSh.T × LX saySh.T × AHeap
  I := fun i => i.1 ≤ (wantM cs).length ∧ WkOk n0 l i.2.2.2 (entW w k f v q op N i.1 i.2.1 i.2.2.1) ∧ (i.2.1.xs, i.2.2.1.xs) = entM w.id v f (w.votes.xs, w.says.xs) ((wantM cs).take i.1) ∧ Mv l (entW w k f v q op N 0 w.votes w.says) (entW w k f v q op N i.1 i.2.1 i.2.2.1) gL i.2.2.2
  μ := fun i => (wantM cs).length - i.1
  head := fun i => ⟨bif b then [(0, .pointer (some ⟨l, 0, some 0⟩)), (3, .complex .f32 0 0), (28, .slice ao (wantM cs).length co), (29, .int .i64 (wantM cs).length), (30, .int .i64 i.1)] else [(0, .pointer (some ⟨l, 0, some 0⟩)), (3, .complex .f32 0 0), (4, .slice ao (wantM cs).length co), (5, .int .i64 i.1)], [[.int .i64 k, .int .i64 f, .int .i64 v, .int .i64 q, .string op, .slice a cs.length c]], i.2.2.2⟩
  post := fun j => ⟨[], [], j.2.2⟩
  R := fun _ j => WkOk n0 l j.2.2 (entW w k f v q op N (wantM cs).length j.1 j.2.1) ∧ (j.1.xs, j.2.1.xs) = entM w.id v f (w.votes.xs, w.says.xs) (wantM cs) ∧ Mv l (entW w k f v q op N 0 w.votes w.says) (entW w k f v q op N (wantM cs).length j.1 j.2.1) gL j.2.2
  ret := fun _ _ _ => False
abbrev Qx4 := ByteArray
abbrev Qx5 := Option Addr
abbrev Qx6 := List (Sh.T changeSh)
abbrev Qx7 := OX (Sh.T freshSh)
abbrev Qx8 := LX (Sh.T voteSh) × LX (Sh.T saySh) × AHeap
abbrev Qx9 := Nat × LX (Sh.T voteSh) × LX (Sh.T saySh) × AHeap
def Qw5 (a : Prop) := True ∧ a ∧ True
def Qw6 (a : Nat) (b : Wk) (c d e f : Int) (g : Qx4) (h : Qx5) (i : Nat) (j : Qx6) (k : List Nat) (l : Wk) (m : Qx7) (n : AHeap) := Mv a (entW b c d e f g (LX.mk h i j k) 0 (Wk.votes b) (Wk.says b)) l (OX.g m) n
def Qw7 (a : Qx8) := Prod.snd (Prod.snd a)
def Qw8 (a : Qx8) := Prod.fst (Prod.snd a)
def Qw9 (a : Qx6) := List.length (wantM a)
def Qwa (a : Qx6) := (↑(Qw9 a) : Int)
def Qwb (a : Wk) (b c d e : Int) (f : Qx4) (g : Qx5) (h : Nat) (i : Qx6) (j : List Nat) (k : Qx8) := entW a b c d e f (LX.mk g h i j) (Qwa i) (Prod.fst k) (Qw8 k)
def Qwc (a : LX (Sh.T voteSh)) (b : LX (Sh.T saySh)) := Prod.mk (LX.xs a) (LX.xs b)
def Qwd (a : Qx8) (b : Wk) (c d : Int) (e : Qx6) := Qwc (Prod.fst a) (Qw8 a) = entM (Wk.id b) c d (Qwc (Wk.votes b) (Wk.says b)) (wantM e)
def Qwe (a : Qx9) := Qw7 (Prod.snd a)
def Qwf (a : Qx9) := (↑(Prod.fst a) : Int)
def Qwg (a : Qx7) (b c : Nat) (d : Qx9) (e : Qx6) (f : Prop) := OX.a a = some (Addr.mk b c (some 2)) ∧ 0 ≤ Qwf d ∧ Qwf d < Qwa e ∧ f
def Qwh (a : FuncId) (b : List Value) (c : AHeap) (d : Value) (e : AHeap) (f : Prop) := ACall Tryz.prog a b c d e ∧ f
def Qwi (a : Int) := Value.int IntKind.i64 a
def Qwj (a : AHeap) (b c : Nat) (d : Int) (e : Prop) := AHeap.ld a b c 0 1 = some [Qwi d] ∧ e
def Qwk (a : AHeap) (b c : Nat) (d : List Value) := AHeap.wr a b 0 c d
def Qwl (a : AHeap) (b : Nat) (c : Int) (d : AHeap) (e : Prop) := Qwk a b 3 [Qwi c] = some d ∧ e
def Qwm (a : Qx7) (b : Qx6) := Value.slice (OX.a a) (Qw9 b) (OX.c a)
def Qwn := Value.complex FloatKind.f32 0 0
def Qwo (a : Nat) := Value.pointer (some (Addr.mk a 0 (some 0)))
def Qwp (a : Nat) (b : Value) (c : Qx7) (d : Qx6) (e f g h i j : Prop) := Qwo a = Qwo a ∧ Qwn = Qwn ∧ b = Qwm c d ∧ e ∧ f ∧ g ∧ h ∧ i ∧ j
def Qwq (a b : Nat) (c : Qx8) (d : Wk) (e f g h : Int) (i : Qx4) (j : Qx5) (k : Nat) (l : Qx6) (m : List Nat) (n o : Prop) := WkOk a b (Qw7 c) (Qwb d e f g h i j k l m c) ∧ n ∧ o
def Qwr (a : Qx6) (b : Qx9) := Qw9 a - Prod.fst b
def Qws (a : Wk) (b c d e : Int) (f : Qx4) (g : Qx5) (h : Nat) (i : Qx6) (j : List Nat) (k : Qx9) := entW a b c d e f (LX.mk g h i j) (Qwf k) (Prod.fst (Prod.snd k)) (Qw8 (Prod.snd k))
def Qwt (a : Qx9) (b : Qx6) (c d : Nat) (e : Wk) (f g h i : Int) (j : Qx4) (k : Qx5) (l : Nat) (m : List Nat) (n : List (Sh.T voteSh) × List (Sh.T saySh)) (o : Prop) := Prod.fst a ≤ Qw9 b ∧ WkOk c d (Qwe a) (Qws e f g h i j k l b m a) ∧ Qwc (Prod.fst (Prod.snd a)) (Qw8 (Prod.snd a)) = n ∧ o
noncomputable def Qwu (a : Wk) (b c : Int) (d : Qx9) (e : Qx6) := entM (Wk.id a) b c (Qwc (Wk.votes a) (Wk.says a)) (List.take (Prod.fst d) (wantM e))
def Qwv (a b c d : Int) (e : Qx4) (f : Value) := [Qwi a, Qwi b, Qwi c, Qwi d, Value.string e, f]
def Qww (a : Qx5) (b : Qx6) (c : Nat) := Value.slice a (List.length b) c
def Qwx (a b c d : Int) (e : Qx4) (f : Qx5) (g : Qx6) (h : Nat) := Qwv a b c d e (Qww f g h) = Qwv a b c d e (Qww f g h)
def Qwy (a : Int) (b : Qx9) := Qwi (IntKind.wrap IntKind.i64 a) = Qwi (Qwf b)
def Qwz (a b : Int) := Qwi a = Qwi b
def Qx0 := Value.tuple (Array.mk List.nil)
def Qx1 := Qwi 2
def Qx2 (a : List Value) := Value.agg (Array.mk a)
def Qx3 (a : Nat) (b : Qx9) := a + Int.toNat (Qwf b)
theorem iEnter_spec {n0 l m : Nat} {g : AHeap} {w : Wk} (W : WkOk n0 l g w) (K : VSk m (w.votes.xs, w.says.xs)) (hm : m ≤ 900) (hid : InR 0 3 w.id) (k f v q : Int) (op : ByteArray) (cs : List changeSh.T) (a : Option Addr) (c : Nat) (hx : Stay l w g cs a c) (N : NSay (k, f, v, q, op, cs)) (n1 : cs.length ≤ 1000) (sm : (Sh.sl changeSh).small cs) (n2 : ∀ c ∈ (show List (Int × Int × List Prf) from cs), c.2.2.length ≤ 1000) :
    ∃ r g', ACall Tryz.prog 128 [.pointer (some ⟨l, 0, some 0⟩), .agg #[.int .i64 k, .int .i64 f, .int .i64 v, .int .i64 q, .string op, .slice a cs.length c]] g r g' ∧ r = .tuple #[] ∧ ∃ w', WkOk n0 l g' w' ∧ Mv l w w' g g' ∧ (w'.rep, w'.says.xs) = entR (w.rep, w.says.xs) (k, f, v, q, op, cs) := by
  obtain ⟨_, g1, A1, le1, w1, a1, c1, js1, rfl, S1, F1⟩ := cloneSay_spec g W.wf k f v q op cs a c (hx g .refl) sm
  obtain ⟨ga, gb, gc, gd, e1, e2, e3, e4, W4, M4⟩ := W.opn le1 w1 k f v q op ⟨a1, c1, cs, js1⟩ S1 F1
  obtain ⟨_, _, A5, gm, o, rfl, rfl, leM, B, eo⟩ := wanted_spec _ W4.wf cs a c (hx _ M4.kp) n1 n2 N.P
  have W5 := W4.grow (leM.trans B.le) B.wf
  have l6 := wantM_len N.P
  have SB : ∀ g', Kp ((entW w k f v q op ⟨a1, c1, cs, js1⟩ 0 w.votes w.says).all l) o.g g' → Sl g' freshSh (wantM cs) (.slice o.a (wantM cs).length o.c) := fun g' kp => by
    have := (B.sn.kp kp (fun z hz hj => by
      obtain ⟨b, hb, hzb⟩ := List.mem_flatten.1 hj
      have h1 := W4.lt b hb z hzb
      have h2 := (B.fr.bd z hz).1
      have h3 := leM.n
      omega)).so.sl
    rw [eo] at this
    exact this
  refine acall_q fun Q HQ => ?_
  refine acall_vc (fun _ => false) (fun r => match r with | 1 => [(0, 0, []), (1, 0, []), (2, 0, []), (3, 0, []), (6, 0, []), (4, 1, []), (7, 1, []), (5, 3, [7]), (8, 0, []), (9, 0, []), (10, 0, []), (11, 3, [7]), (12, 0, []), (13, 0, []), (14, 0, []), (15, 3, []), (16, 0, []), (17, 0, []), (18, 0, []), (19, 3, []), (20, 0, []), (21, 0, []), (22, 0, []), (23, 3, [])] | 6 => [(0, 0, []), (1, 0, []), (2, 0, []), (3, 0, []), (5, 0, []), (4, 1, []), (6, 1, []), (7, 0, [])] | _ => []) (fun _ => seL n0 l o.g w k f v q op cs a c ⟨a1, c1, cs, js1⟩ o.a o.c true) mixed Tryz.func128 rfl rfl rfl (Nat.le_of_ble_eq_true rfl) ?_ ?_
  · (refine vc_mp (by kernel_rfl : (True ∧ True ∧ True ∧ (∀ (i : Nat × LX (Sh.T voteSh) × LX (Sh.T saySh) × AHeap), Qwt i cs n0 l w k f v q op a1 c1 js1 (Qwu w v f i cs) (Qw6 l w k f v q op a1 c1 cs js1 (Qws w k f v q op a1 c1 cs js1 i) o (Qwe i)) → bs (decide (Qwf i < Qwa cs)) (∃ (l_1 r : Nat), Qwg o l_1 r i cs (∃ (x : Int) (x_1 : ByteArray), AHeap.ld (Qwe i) l_1 (Qx3 r i) 0 2 = some [Qwi x, Value.string x_1] ∧ (∃ (x_2 : Bool) (h' : AHeap), Qwh 112 [Qwo l, Qx2 [Qx1, Qwi v, Qwi x, Value.string x_1, Qwi f]] (Qwe i) (Value.bool x_2) h' (∃ (x_3 : Int), Qwj h' l 0 x_3 (bs (not (decide (x_3 = f))) (∃ (h'_1 : AHeap), Qwh 126 [Qwo l, Qx1, Qwi v, Qwi x, Value.string x_1] h' Qx0 h'_1 (∃ (h' : AHeap), Qwl h'_1 l x h' (∃ (j : Nat × LX (Sh.T voteSh) × LX (Sh.T saySh) × AHeap), Qwp l (Qwm o cs) o cs (Qwz (Qwa cs) (Qwa cs)) (Qwy (Qwf i + 1) j) (Qwx k f v q op a cs c) (Qwe j = h') (Qwt j cs n0 l w k f v q op a1 c1 js1 (Qwu w v f j cs) (Qw6 l w k f v q op a1 c1 cs js1 (Qws w k f v q op a1 c1 cs js1 j) o (Qwe j))) (Qwr cs j < Qwr cs i ∧ (∀ (k_1 : LX (Sh.T voteSh) × LX (Sh.T saySh) × AHeap), Qwq n0 l k_1 w k f v q op a1 c1 cs js1 (Qwd k_1 w v f cs) (Qw6 l w k f v q op a1 c1 cs js1 (Qwb w k f v q op a1 c1 cs js1 k_1) o (Qw7 k_1)) → Qwq n0 l k_1 w k f v q op a1 c1 cs js1 (Qwd k_1 w v f cs) (Qw6 l w k f v q op a1 c1 cs js1 (Qwb w k f v q op a1 c1 cs js1 k_1) o (Qw7 k_1))) ∧ (∀ (v : Value) (h : AHeap), False → False))))) (∃ (h'_1 : AHeap), Qwl h' l x h'_1 (∃ (j : Nat × LX (Sh.T voteSh) × LX (Sh.T saySh) × AHeap), Qwp l (Qwm o cs) o cs (Qwz (Qwa cs) (Qwa cs)) (Qwy (Qwf i + 1) j) (Qwx k f v q op a cs c) (Qwe j = h'_1) (Qwt j cs n0 l w k f v q op a1 c1 js1 (Qwu w v f j cs) (Qw6 l w k f v q op a1 c1 cs js1 (Qws w k f v q op a1 c1 cs js1 j) o (Qwe j))) (Qwr cs j < Qwr cs i ∧ (∀ (k_1 : LX (Sh.T voteSh) × LX (Sh.T saySh) × AHeap), Qwq n0 l k_1 w k f v q op a1 c1 cs js1 (Qwd k_1 w v f cs) (Qw6 l w k f v q op a1 c1 cs js1 (Qwb w k f v q op a1 c1 cs js1 k_1) o (Qw7 k_1)) → Qwq n0 l k_1 w k f v q op a1 c1 cs js1 (Qwd k_1 w v f cs) (Qw6 l w k f v q op a1 c1 cs js1 (Qwb w k f v q op a1 c1 cs js1 k_1) o (Qw7 k_1))) ∧ (∀ (v : Value) (h : AHeap), False → False))))))))) (∃ (j : LX (Sh.T voteSh) × LX (Sh.T saySh) × AHeap), Qw7 j = Qwe i ∧ WkOk n0 l (Qw7 j) (Qwb w k f v q op a1 c1 cs js1 j) ∧ Qwd j w v f cs ∧ Qw6 l w k f v q op a1 c1 cs js1 (Qwb w k f v q op a1 c1 cs js1 j) o (Qw7 j))) ∧ True ∧ (True ∧ True) ∧ (True ∧ True ∧ Qw5 True ∧ True) ∧ True) = _) ?_; delta Qw5 Qw6 Qw7 Qw8 Qw9 Qwa Qwb Qwc Qwd Qwe Qwf Qwg Qwh Qwi Qwj Qwk Qwl Qwm Qwn Qwo Qwp Qwq Qwr Qws Qwt Qwu Qwv Qww Qwx Qwy Qwz Qx0 Qx1 Qx2 Qx3)
    simp only [true_and, and_true]
    refine fun ⟨i, V, S, g2⟩ ⟨hi, Wi, ei, Mi⟩ => ?_
    dsimp only at *
    refine bs_d (fun hlt => ?_) (fun hge => ?_)
    · obtain ⟨⟨fq, fo⟩, hat⟩ : ∃ y : Int × ByteArray, (wantM cs)[i]? = some y := ⟨_, List.getElem?_eq_getElem (by omega)⟩
      obtain ⟨eq, hq, ho⟩ := wantM_at N.P hat
      obtain ⟨lf, rf, row, ha, _, hrd, hld⟩ := (SB g2 Mi.kp).elem hat
      obtain rfl := rd_fresh.1 hrd
      dsimp only at hld
      have Ki := K.ent hid N.v N.f N.P i hi
      rw [← ei] at Ki
      obtain ⟨_, g6, A6, V', rfl, eV, W6, M6⟩ := iAdd_spec Wi Ki.H.1 2 v fq f fo
      have Ka := Ki.add (k := 2) (v := v) (q := fq) (op := fo) (f := f) ⟨.inl rfl, N.v, hq, ho, N.f⟩
      dsimp only at Ka
      rw [← show V'.xs = (addM V.xs (2, v, fq, fo, f)).1 from eV] at Ka
      subst eq
      have W6 : WkOk n0 l g6 (entW w k f v q op ⟨a1, c1, cs, js1⟩ i V' S) := W6
      have M6 : Mv l (entW w k f v q op ⟨a1, c1, cs, js1⟩ i V S) (entW w k f v q op ⟨a1, c1, cs, js1⟩ i V' S) g2 g6 := M6
      refine ⟨lf, rf, ha, Int.natCast_nonneg _, hlt, _, _, hld, _, _, A6, _, W6.ld (i := 0) (n := 1) rfl (by decide), bs_dn (fun hne => ?_) (fun heq => ?_)⟩
      · obtain ⟨_, g7, A7, V2, S2, rfl, e7, W7, M7⟩ := iVote_spec W6 Ka.H.1 (Nat.le_trans Ki.n (by omega)) 2 v ((i : Int) + 1) fo
        have W7 : WkOk n0 l g7 (entW w k f v q op ⟨a1, c1, cs, js1⟩ i V2 S2) := W7
        have M7 : Mv l (entW w k f v q op ⟨a1, c1, cs, js1⟩ i V' S) (entW w k f v q op ⟨a1, c1, cs, js1⟩ i V2 S2) g6 g7 := M7
        have W8 := W7.num v false ((i : Int) + 1)
        refine ⟨_, A7, _, wk_wr W7.obj rfl (by simp), (i + 1, V2, S2, _), by rw [wrap_i64 (by omega)]; rfl, rfl, ⟨by dsimp only; omega, W8, ?_, ((Mi.trans B.wf M6).trans B.wf M7).trans B.wf (Mv.num (w := entW w k f v q op ⟨a1, c1, cs, js1⟩ i V2 S2) (w' := entW w k f v q op ⟨a1, c1, cs, js1⟩ ((i : Int) + 1) V2 S2) rfl _)⟩, by dsimp only; omega, fun _ h => h, fun _ _ h => h⟩
        rw [entM_take hat, ← ei]
        unfold ent1
        rw [if_neg hne]
        show (V2.xs, S2.xs) = voteM w.id ((addM V.xs (2, v, (i : Int) + 1, fo, f)).1, S.xs) 2 v ((i : Int) + 1) fo
        rw [← show V'.xs = (addM V.xs (2, v, (i : Int) + 1, fo, f)).1 from eV]; exact e7
      · have W8 := W6.num v false ((i : Int) + 1)
        refine ⟨_, wk_wr W6.obj rfl (by simp), (i + 1, V', S, _), by rw [wrap_i64 (by omega)]; rfl, rfl, ⟨by dsimp only; omega, W8, ?_, (Mi.trans B.wf M6).trans B.wf (Mv.num (w := entW w k f v q op ⟨a1, c1, cs, js1⟩ i V' S) (w' := entW w k f v q op ⟨a1, c1, cs, js1⟩ ((i : Int) + 1) V' S) rfl _)⟩, by dsimp only; omega, fun _ h => h, fun _ _ h => h⟩
        rw [entM_take hat, ← ei]
        unfold ent1
        rw [if_pos heq]
        show (V'.xs, S.xs) = ((addM V.xs (2, v, (i : Int) + 1, fo, f)).1, S.xs)
        rw [← show V'.xs = (addM V.xs (2, v, (i : Int) + 1, fo, f)).1 from eV]
    · obtain rfl : i = (wantM cs).length := by omega
      rw [List.take_length] at ei
      exact ⟨(V, S, g2), rfl, Wi, ei, Mi⟩
  (refine vc_mp (by kernel_rfl : (∃ (x x_1 x_2 x_3 : Int) (x_4 : ByteArray) (a_1 : Option Addr) (n c_1 : Nat) (h' : AHeap), ACall Tryz.prog 97 [Qx2 (Qwv k f v q op (Qww a cs c))] g (Qx2 (Qwv x x_1 x_2 x_3 x_4 (Value.slice a_1 n c_1))) h' ∧ Qwz v v ∧ (∃ (h'_1 : AHeap), Qwk h' l 6 (Qwv x x_1 x_2 x_3 x_4 (Value.slice a_1 n c_1)) = some h'_1 ∧ Qwz v v ∧ (∃ (h' : AHeap), Qwk h'_1 l 1 [Qwi v] = some h' ∧ (∃ (h'_2 : AHeap), Qwk h' l 2 [Value.bool false] = some h'_2 ∧ (∃ (h' : AHeap), Qwl h'_2 l 0 h' (∃ (a_2 : Option Addr) (n c_2 : Nat) (h'_3 : AHeap), Qwh 156 [Qww a cs c] h' (Value.slice a_2 n c_2) h'_3 (∃ (i : Nat × LX (Sh.T voteSh) × LX (Sh.T saySh) × AHeap), Qwp l (Value.slice a_2 n c_2) o cs (Qwz (↑n : Int) (Qwa cs)) (Qwz 0 (Qwf i)) (Qwx k f v q op a cs c) (Qwe i = h'_3) (Qwt i cs n0 l w k f v q op a1 c1 js1 (Qwu w v f i cs) (Qw6 l w k f v q op a1 c1 cs js1 (Qws w k f v q op a1 c1 cs js1 i) o (Qwe i))) ((∀ (j : LX (Sh.T voteSh) × LX (Sh.T saySh) × AHeap), Qwq n0 l j w k f v q op a1 c1 cs js1 (Qwd j w v f cs) (Qw6 l w k f v q op a1 c1 cs js1 (Qwb w k f v q op a1 c1 cs js1 j) o (Qw7 j)) → Q Qx0 (Qw7 j)) ∧ (∀ (v : Value) (h : AHeap), False → Q v h))))))))) = _) ?_; delta Qw6 Qw7 Qw8 Qw9 Qwa Qwb Qwc Qwd Qwe Qwf Qwh Qwi Qwk Qwl Qwm Qwn Qwo Qwp Qwq Qws Qwt Qwu Qwv Qww Qwx Qwz Qx0 Qx2)
  exact ⟨_, _, _, _, _, _, _, _, _, A1, rfl, _, e1, rfl, _, e2, _, e3, _, e4, _, _, _, _, A5, ((0 : Nat), w.votes, w.says, o.g), rfl, rfl, by rw [eo], by rw [eo], rfl, rfl, rfl, ⟨Nat.zero_le _, W5, rfl, .of_le (.refl _)⟩, fun ⟨V, S, g2⟩ ⟨W6, e6, M6⟩ => HQ _ _ ⟨rfl, _, W6, (M4.trans W.wf (.of_le (leM.trans B.le))).trans W.wf M6, by unfold entR Wk.rep; dsimp only; rw [← e6]⟩, fun _ _ h => h.elim⟩
theorem sEnter_spec {n0 l m : Nat} {g : AHeap} {w : Wk} (W : WkOk n0 l g w) (K : VSk m (w.votes.xs, w.says.xs)) (hm : m ≤ 900) (hid : InR 0 3 w.id) (k f v q : Int) (op : ByteArray) (cs : List changeSh.T) (a : Option Addr) (c : Nat) (hx : Stay l w g cs a c) (N : NSay (k, f, v, q, op, cs)) (n1 : cs.length ≤ 1000) (sm : (Sh.sl changeSh).small cs) (n2 : ∀ c ∈ (show List (Int × Int × List Prf) from cs), c.2.2.length ≤ 1000) :
    ∃ r g', ACall Tryz.prog 67 [.pointer (some ⟨l, 0, some 0⟩), .agg #[.int .i64 k, .int .i64 f, .int .i64 v, .int .i64 q, .string op, .slice a cs.length c]] g r g' ∧ r = .tuple #[] ∧ ∃ w', WkOk n0 l g' w' ∧ Mv l w w' g g' ∧ (w'.rep, w'.says.xs) = entR (w.rep, w.says.xs) (k, f, v, q, op, cs) := by
  obtain ⟨_, g1, A1, le1, w1, a1, c1, js1, rfl, S1, F1⟩ := l13CopySay_spec g W.wf k f v q op cs a c (hx g .refl) sm
  obtain ⟨ga, gb, gc, gd, e1, e2, e3, e4, W4, M4⟩ := W.opn le1 w1 k f v q op ⟨a1, c1, cs, js1⟩ S1 F1
  obtain ⟨_, _, A5, o, rfl, rfl, B, eo⟩ := l12Wanted_spec _ W4.wf cs a c (hx _ M4.kp) n1 n2 N.P
  have W5 := W4.grow B.le B.wf
  have l6 := wantM_len N.P
  have SB : ∀ g', Kp ((entW w k f v q op ⟨a1, c1, cs, js1⟩ 0 w.votes w.says).all l) o.g g' → Sl g' freshSh (wantM cs) (.slice o.a (wantM cs).length o.c) := fun g' kp => by
    have := (B.sn.kp kp (fun z hz hj => by
      obtain ⟨b, hb, hzb⟩ := List.mem_flatten.1 hj
      have h1 := W4.lt b hb z hzb
      have h2 := (B.fr.bd z hz).1
      omega)).so.sl
    rw [eo] at this
    exact this
  refine acall_q fun Q HQ => ?_
  refine acall_vc (fun _ => false) (fun r => match r with | 9 => [(0, 0, []), (1, 0, []), (3, 0, []), (4, 0, []), (5, 0, []), (6, 0, []), (8, 0, []), (9, 0, []), (10, 0, []), (11, 0, []), (13, 0, []), (2, 1, []), (7, 1, []), (12, 1, []), (14, 1, []), (15, 0, []), (16, 3, [])] | 10 => [(0, 0, []), (1, 0, []), (2, 0, []), (3, 0, []), (5, 0, []), (4, 1, []), (6, 1, []), (7, 0, [])] | 11 => [(0, 0, []), (1, 0, []), (3, 0, []), (4, 0, []), (5, 0, []), (6, 0, []), (8, 0, []), (9, 0, []), (10, 0, []), (11, 0, []), (2, 1, []), (7, 1, []), (12, 1, []), (13, 3, [])] | _ => []) (fun _ => seL n0 l o.g w k f v q op cs a c ⟨a1, c1, cs, js1⟩ o.a o.c false) mixed Tryz.func67 rfl rfl rfl (Nat.le_of_ble_eq_true rfl) ?_ ?_
  · (refine vc_mp (by kernel_rfl : (True ∧ True ∧ True ∧ True ∧ True ∧ True ∧ True ∧ (∀ (i : Nat × LX (Sh.T voteSh) × LX (Sh.T saySh) × AHeap), Qwt i cs n0 l w k f v q op a1 c1 js1 (Qwu w v f i cs) (Qw6 l w k f v q op a1 c1 cs js1 (Qws w k f v q op a1 c1 cs js1 i) o (Qwe i)) → bs (decide (Qwf i < Qwa cs)) (∃ (l_1 r : Nat), Qwg o l_1 r i cs (∃ (l_2 r_1 : Nat), Qwg o l_2 r_1 i cs (∃ (x : Int), Qwj (Qwe i) l_1 (Qx3 r i) x (∃ (x_1 : ByteArray), AHeap.ld (Qwe i) l_2 (Qx3 r_1 i) 1 1 = some [Value.string x_1] ∧ (∃ (x_2 : Bool) (h' : AHeap), Qwh 53 [Qwo l, Qx2 [Qx1, Qwi v, Qwi x, Value.string x_1, Qwi f]] (Qwe i) (Value.bool x_2) h' (∃ (x : Int), Qwj h' l 0 x (bs (not (decide (x = f))) (∃ (l_3 r : Nat), Qwg o l_3 r i cs (∃ (l_4 r_2 : Nat), Qwg o l_4 r_2 i cs (∃ (x : Int), Qwj h' l_3 (Qx3 r i) x (∃ (x_3 : ByteArray), AHeap.ld h' l_4 (Qx3 r_2 i) 1 1 = some [Value.string x_3] ∧ (∃ (h'_1 : AHeap), Qwh 63 [Qwo l, Qx1, Qwi v, Qwi x, Value.string x_3] h' Qx0 h'_1 (∃ (l_5 r : Nat), Qwg o l_5 r i cs (∃ (x : Int), Qwj h'_1 l_5 (Qx3 r i) x (∃ (h' : AHeap), Qwl h'_1 l x h' (∃ (j : Nat × LX (Sh.T voteSh) × LX (Sh.T saySh) × AHeap), Qwp l (Qwm o cs) o cs (Qwy (Qwf i + 1) j) (Qwx k f v q op a cs c) (Qwe j = h') (Qwt j cs n0 l w k f v q op a1 c1 js1 (Qwu w v f j cs) (Qw6 l w k f v q op a1 c1 cs js1 (Qws w k f v q op a1 c1 cs js1 j) o (Qwe j))) (Qwr cs j < Qwr cs i) ((∀ (k_1 : LX (Sh.T voteSh) × LX (Sh.T saySh) × AHeap), Qwq n0 l k_1 w k f v q op a1 c1 cs js1 (Qwd k_1 w v f cs) (Qw6 l w k f v q op a1 c1 cs js1 (Qwb w k f v q op a1 c1 cs js1 k_1) o (Qw7 k_1)) → Qwq n0 l k_1 w k f v q op a1 c1 cs js1 (Qwd k_1 w v f cs) (Qw6 l w k f v q op a1 c1 cs js1 (Qwb w k f v q op a1 c1 cs js1 k_1) o (Qw7 k_1))) ∧ (∀ (v : Value) (h : AHeap), False → False))))))))))) (∃ (l_3 r : Nat), Qwg o l_3 r i cs (∃ (x : Int), Qwj h' l_3 (Qx3 r i) x (∃ (h'_1 : AHeap), Qwl h' l x h'_1 (∃ (j : Nat × LX (Sh.T voteSh) × LX (Sh.T saySh) × AHeap), Qwp l (Qwm o cs) o cs (Qwy (Qwf i + 1) j) (Qwx k f v q op a cs c) (Qwe j = h'_1) (Qwt j cs n0 l w k f v q op a1 c1 js1 (Qwu w v f j cs) (Qw6 l w k f v q op a1 c1 cs js1 (Qws w k f v q op a1 c1 cs js1 j) o (Qwe j))) (Qwr cs j < Qwr cs i) ((∀ (k_1 : LX (Sh.T voteSh) × LX (Sh.T saySh) × AHeap), Qwq n0 l k_1 w k f v q op a1 c1 cs js1 (Qwd k_1 w v f cs) (Qw6 l w k f v q op a1 c1 cs js1 (Qwb w k f v q op a1 c1 cs js1 k_1) o (Qw7 k_1)) → Qwq n0 l k_1 w k f v q op a1 c1 cs js1 (Qwd k_1 w v f cs) (Qw6 l w k f v q op a1 c1 cs js1 (Qwb w k f v q op a1 c1 cs js1 k_1) o (Qw7 k_1))) ∧ (∀ (v : Value) (h : AHeap), False → False))))))))))))) (∃ (j : LX (Sh.T voteSh) × LX (Sh.T saySh) × AHeap), Qw7 j = Qwe i ∧ WkOk n0 l (Qw7 j) (Qwb w k f v q op a1 c1 cs js1 j) ∧ Qwd j w v f cs ∧ Qw6 l w k f v q op a1 c1 cs js1 (Qwb w k f v q op a1 c1 cs js1 j) o (Qw7 j))) ∧ Qw5 True ∧ Qw5 (Qw5 True) ∧ True) = _) ?_; delta Qw5 Qw6 Qw7 Qw8 Qw9 Qwa Qwb Qwc Qwd Qwe Qwf Qwg Qwh Qwi Qwj Qwk Qwl Qwm Qwn Qwo Qwp Qwq Qwr Qws Qwt Qwu Qwv Qww Qwx Qwy Qx0 Qx1 Qx2 Qx3)
    simp only [true_and, and_true]
    refine fun ⟨i, V, S, g2⟩ ⟨hi, Wi, ei, Mi⟩ => ?_
    dsimp only at *
    refine bs_d (fun hlt => ?_) (fun hge => ?_)
    · obtain ⟨⟨fq, fo⟩, hat⟩ : ∃ y : Int × ByteArray, (wantM cs)[i]? = some y := ⟨_, List.getElem?_eq_getElem (by omega)⟩
      obtain ⟨eq, hq, ho⟩ := wantM_at N.P hat
      obtain ⟨lf, rf, row, ha, _, hrd, hld⟩ := (SB g2 Mi.kp).elem hat
      obtain rfl := rd_fresh.1 hrd
      dsimp only at hld
      have Ki := K.ent hid N.v N.f N.P i hi
      rw [← ei] at Ki
      obtain ⟨_, g6, A6, V', rfl, eV, W6, M6⟩ := sAdd_spec Wi Ki.H.1 2 v fq f fo
      have Ka := Ki.add (k := 2) (v := v) (q := fq) (op := fo) (f := f) ⟨.inl rfl, N.v, hq, ho, N.f⟩
      dsimp only at Ka
      rw [← show V'.xs = (addM V.xs (2, v, fq, fo, f)).1 from eV] at Ka
      subst eq
      have W6 : WkOk n0 l g6 (entW w k f v q op ⟨a1, c1, cs, js1⟩ i V' S) := W6
      have M6 : Mv l (entW w k f v q op ⟨a1, c1, cs, js1⟩ i V S) (entW w k f v q op ⟨a1, c1, cs, js1⟩ i V' S) g2 g6 := M6
      have AT : ∀ g', Kp ((entW w k f v q op ⟨a1, c1, cs, js1⟩ 0 w.votes w.says).all l) o.g g' → g'.ld lf (rf + i) 0 2 = some [.int .i64 ((i : Int) + 1), .string fo] := fun g' kp => by
        obtain ⟨l3, r3, row3, ha3, _, hrd3, hld3⟩ := (SB g' kp).elem hat
        rw [ha] at ha3
        cases ha3
        obtain rfl := rd_fresh.1 hrd3
        exact hld3
      have AT6 := AT g6 (Mi.trans B.wf M6).kp
      refine ⟨lf, rf, ha, Int.natCast_nonneg _, hlt, lf, rf, ha, Int.natCast_nonneg _, hlt, _, ld_cells (k := 0) (m := 1) hld (by simp), _, ld_cells (k := 1) (m := 1) hld (by simp), _, _, A6, _, W6.ld (i := 0) (n := 1) rfl (by decide), bs_dn (fun hne => ?_) (fun heq => ?_)⟩
      · obtain ⟨_, g7, A7, V2, S2, rfl, e7, W7, M7⟩ := sVote_spec W6 Ka.H.1 (Nat.le_trans Ki.n (by omega)) 2 v ((i : Int) + 1) fo
        have W7 : WkOk n0 l g7 (entW w k f v q op ⟨a1, c1, cs, js1⟩ i V2 S2) := W7
        have M7 : Mv l (entW w k f v q op ⟨a1, c1, cs, js1⟩ i V' S) (entW w k f v q op ⟨a1, c1, cs, js1⟩ i V2 S2) g6 g7 := M7
        have W8 := W7.num v false ((i : Int) + 1)
        have AT7 := AT g7 ((Mi.trans B.wf M6).trans B.wf M7).kp
        refine ⟨lf, rf, ha, Int.natCast_nonneg _, hlt, lf, rf, ha, Int.natCast_nonneg _, hlt, _, ld_cells (k := 0) (m := 1) AT6 (by simp), _, ld_cells (k := 1) (m := 1) AT6 (by simp), _, A7, lf, rf, ha, Int.natCast_nonneg _, hlt, _, ld_cells (k := 0) (m := 1) AT7 (by simp), _, wk_wr W7.obj rfl (by simp), (i + 1, V2, S2, _), by rw [wrap_i64 (by omega)]; rfl, rfl, ⟨by dsimp only; omega, W8, ?_, ((Mi.trans B.wf M6).trans B.wf M7).trans B.wf (Mv.num (w := entW w k f v q op ⟨a1, c1, cs, js1⟩ i V2 S2) (w' := entW w k f v q op ⟨a1, c1, cs, js1⟩ ((i : Int) + 1) V2 S2) rfl _)⟩, by dsimp only; omega, fun _ h => h, fun _ _ h => h⟩
        rw [entM_take hat, ← ei]
        unfold ent1
        rw [if_neg hne]
        show (V2.xs, S2.xs) = voteM w.id ((addM V.xs (2, v, (i : Int) + 1, fo, f)).1, S.xs) 2 v ((i : Int) + 1) fo
        rw [← show V'.xs = (addM V.xs (2, v, (i : Int) + 1, fo, f)).1 from eV]; exact e7
      · have W8 := W6.num v false ((i : Int) + 1)
        refine ⟨lf, rf, ha, Int.natCast_nonneg _, hlt, _, ld_cells (k := 0) (m := 1) AT6 (by simp), _, wk_wr W6.obj rfl (by simp), (i + 1, V', S, _), by rw [wrap_i64 (by omega)]; rfl, rfl, ⟨by dsimp only; omega, W8, ?_, (Mi.trans B.wf M6).trans B.wf (Mv.num (w := entW w k f v q op ⟨a1, c1, cs, js1⟩ i V' S) (w' := entW w k f v q op ⟨a1, c1, cs, js1⟩ ((i : Int) + 1) V' S) rfl _)⟩, by dsimp only; omega, fun _ h => h, fun _ _ h => h⟩
        rw [entM_take hat, ← ei]
        unfold ent1
        rw [if_pos heq]
        show (V'.xs, S.xs) = ((addM V.xs (2, v, (i : Int) + 1, fo, f)).1, S.xs)
        rw [← show V'.xs = (addM V.xs (2, v, (i : Int) + 1, fo, f)).1 from eV]
    · obtain rfl : i = (wantM cs).length := by omega
      rw [List.take_length] at ei
      exact ⟨(V, S, g2), rfl, Wi, ei, Mi⟩
  (refine vc_mp (by kernel_rfl : (∃ (x x_1 x_2 x_3 : Int) (x_4 : ByteArray) (a_1 : Option Addr) (n c_1 : Nat) (h' : AHeap), Qwh 34 [Qx2 (Qwv k f v q op (Qww a cs c))] g (Qx2 (Qwv x x_1 x_2 x_3 x_4 (Value.slice a_1 n c_1))) h' (∃ (h'_1 : AHeap), Qwk h' l 6 (Qwv x x_1 x_2 x_3 x_4 (Value.slice a_1 n c_1)) = some h'_1 ∧ (∃ (h' : AHeap), Qwk h'_1 l 1 [Qwi v] = some h' ∧ (∃ (h'_2 : AHeap), Qwk h' l 2 [Value.bool false] = some h'_2 ∧ (∃ (h' : AHeap), Qwl h'_2 l 0 h' (∃ (a_2 : Option Addr) (n c_2 : Nat) (h'_3 : AHeap), Qwh 122 [Qww a cs c] h' (Value.slice a_2 n c_2) h'_3 (∃ (i : Nat × LX (Sh.T voteSh) × LX (Sh.T saySh) × AHeap), Qwp l (Value.slice a_2 n c_2) o cs (Qwz 0 (Qwf i)) (Qwx k f v q op a cs c) (Qwe i = h'_3) (Qwt i cs n0 l w k f v q op a1 c1 js1 (Qwu w v f i cs) (Qw6 l w k f v q op a1 c1 cs js1 (Qws w k f v q op a1 c1 cs js1 i) o (Qwe i))) (∀ (j : LX (Sh.T voteSh) × LX (Sh.T saySh) × AHeap), Qwq n0 l j w k f v q op a1 c1 cs js1 (Qwd j w v f cs) (Qw6 l w k f v q op a1 c1 cs js1 (Qwb w k f v q op a1 c1 cs js1 j) o (Qw7 j)) → Q Qx0 (Qw7 j)) (∀ (v : Value) (h : AHeap), False → Q v h)))))))) = _) ?_; delta Qw6 Qw7 Qw8 Qw9 Qwa Qwb Qwc Qwd Qwe Qwf Qwh Qwi Qwk Qwl Qwm Qwn Qwo Qwp Qwq Qws Qwt Qwu Qwv Qww Qwx Qwz Qx0 Qx2)
  exact ⟨_, _, _, _, _, _, _, _, _, A1, _, e1, _, e2, _, e3, _, e4, _, _, _, _, A5, ((0 : Nat), w.votes, w.says, o.g), rfl, rfl, by rw [eo], rfl, rfl, rfl, ⟨Nat.zero_le _, W5, rfl, .of_le (.refl _)⟩, fun ⟨V, S, g2⟩ ⟨W6, e6, M6⟩ => HQ _ _ ⟨rfl, _, W6, (M4.trans W.wf (.of_le B.le)).trans W.wf M6, by unfold entR Wk.rep; dsimp only; rw [← e6]⟩, fun _ _ h => h.elim⟩
end Go.Proofs.YtpgfjadjhliohaaGreat
