/- PE. -/
import Derived.Test.YtpgfjadjhliohaaGreatV18PB
import Derived.Test.YtpgfjadjhliohaaGreatV18PD
namespace Go.Dat
open Go.Abs
def Stay (l : Nat) (w : Wk) (g : AHeap) (cs : List changeSh.T) (a : Option Addr) (c : Nat) : Prop := ∀ g', Kp (w.all l) g g' → Sl g' changeSh cs (.slice a cs.length c)
theorem Stay.mv {l : Nat} {w w' : Wk} {g g' : AHeap} {cs : List changeSh.T} {a : Option Addr} {c : Nat} (H : Stay l w g cs a c) (wf : g.wf) (M : Mv l w w' g g') : Stay l w' g' cs a c := fun g2 k => H g2 (M.kp.drop wf k M.ids)
theorem Mv.setN {l : Nat} {w : Wk} {g g' : AHeap} (nk nf nv nq : Int) (nop : ByteArray) (N' : LX changeSh.T) (kp : Kp w.nch.ids g g') (hi : ∀ z ∈ N'.ids, g.n ≤ z ∨ z ∈ w.nch.ids) (o' : Option AObj) : Mv l w { w with nk := nk, nf := nf, nv := nv, nq := nq, nop := nop, nch := N' } g (g'.put l o') :=
  Mv.set (k := 3) (old := w.nch.ids) (new := N'.ids) rfl rfl kp hi o'
abbrev entW (w : Wk) (k f v q : Int) (op : ByteArray) (N : LX changeSh.T) (top : Int) (V : LX voteSh.T) (S : LX saySh.T) : Wk := { w with view := v, chg := false, top := top, nk := k, nf := f, nv := v, nq := q, nop := op, nch := N, votes := V, says := S }
theorem WkOk.opn {n0 l : Nat} {g g1 : AHeap} {w : Wk} (W : WkOk n0 l g w) (le1 : g.Le g1) (w1 : g1.wf) (k f v q : Int) (op : ByteArray) (N : LX changeSh.T) (S1 : Sn g1 changeSh N.xs (.slice N.a N.xs.length N.c) N.ids) (F1 : Fresh g.n g1.n N.ids) :
    ∃ ga gb gc gd, g1.wr l 0 6 [.int .i64 k, .int .i64 f, .int .i64 v, .int .i64 q, .string op, .slice N.a N.xs.length N.c] = some ga ∧ ga.wr l 0 1 [.int .i64 v] = some gb ∧ gb.wr l 0 2 [.bool false] = some gc ∧ gc.wr l 0 3 [.int .i64 0] = some gd ∧ WkOk n0 l gd (entW w k f v q op N 0 w.votes w.says) ∧ Mv l w (entW w k f v q op N 0 w.votes w.says) g gd := by
  have W1 := (W.grow le1 w1).setN k f v q op N S1 W.n F1 W.lt
  have M1 := Mv.setN (l := l) (w := w) k f v q op N (.of_le le1) (fun z hz => .inl (F1.bd z hz).1) (some ⟨[({ w with nk := k, nf := f, nv := v, nq := q, nop := op, nch := N } : Wk).row], 14, true⟩)
  have W2 := W1.num v w.chg w.top
  have W3 := W2.num v false w.top
  have W4 := W3.num v false 0
  refine ⟨_, _, _, _, wk_wr (W.grow le1 w1).obj rfl (by simp), wk_wr W1.obj rfl (by simp), wk_wr W2.obj rfl (by simp), wk_wr W3.obj rfl (by simp), W4, ?_⟩
  exact ((M1.trans W.wf (Mv.num (w := { w with nk := k, nf := f, nv := v, nq := q, nop := op, nch := N }) (w' := { w with view := v, nk := k, nf := f, nv := v, nq := q, nop := op, nch := N }) rfl _)).trans W.wf (Mv.num (w := { w with view := v, nk := k, nf := f, nv := v, nq := q, nop := op, nch := N }) (w' := { w with view := v, chg := false, nk := k, nf := f, nv := v, nq := q, nop := op, nch := N }) rfl _)).trans W.wf (Mv.num (w := { w with view := v, chg := false, nk := k, nf := f, nv := v, nq := q, nop := op, nch := N }) (w' := entW w k f v q op N 0 w.votes w.says) rfl _)
end Go.Dat
namespace Go.Proofs.YtpgfjadjhliohaaGreat
open Go.Abs Go.Dat
set_option maxRecDepth 100000
set_option maxHeartbeats 8000000
def seL (n0 l : Nat) (gL : AHeap) (w : Wk) (k f v q : Int) (op : ByteArray) (cs : List changeSh.T) (a : Option Addr) (c : Nat) (N : LX changeSh.T) (ao : Option Addr) (co : Nat) (b : Bool) : LSpec where
  ι := Nat × LX voteSh.T × LX saySh.T × AHeap
  κ := LX voteSh.T × LX saySh.T × AHeap
  I := fun i => i.1 ≤ (wantM cs).length ∧ WkOk n0 l i.2.2.2 (entW w k f v q op N i.1 i.2.1 i.2.2.1) ∧ (i.2.1.xs, i.2.2.1.xs) = entM w.id v f (w.votes.xs, w.says.xs) ((wantM cs).take i.1) ∧ Mv l (entW w k f v q op N 0 w.votes w.says) (entW w k f v q op N i.1 i.2.1 i.2.2.1) gL i.2.2.2
  μ := fun i => (wantM cs).length - i.1
  head := fun i => ⟨bif b then [(0, .pointer (some ⟨l, 0, some 0⟩)), (3, .complex .f32 0 0), (28, .slice ao (wantM cs).length co), (29, .int .i64 (wantM cs).length), (30, .int .i64 i.1)] else [(0, .pointer (some ⟨l, 0, some 0⟩)), (3, .complex .f32 0 0), (4, .slice ao (wantM cs).length co), (5, .int .i64 i.1)], [[.int .i64 k, .int .i64 f, .int .i64 v, .int .i64 q, .string op, .slice a cs.length c]], i.2.2.2⟩
  post := fun j => ⟨[], [], j.2.2⟩
  R := fun _ j => WkOk n0 l j.2.2 (entW w k f v q op N (wantM cs).length j.1 j.2.1) ∧ (j.1.xs, j.2.1.xs) = entM w.id v f (w.votes.xs, w.says.xs) (wantM cs) ∧ Mv l (entW w k f v q op N 0 w.votes w.says) (entW w k f v q op N (wantM cs).length j.1 j.2.1) gL j.2.2
  ret := fun _ _ _ => False
abbrev Qw0 := ByteArray
abbrev Qw1 := Option Addr
abbrev Qw2 := List (Sh.T changeSh)
abbrev Qw3 := OX (Sh.T freshSh)
abbrev Qw4 := LX (Sh.T voteSh) × LX (Sh.T saySh) × AHeap
abbrev Qw5 := Nat × LX (Sh.T voteSh) × LX (Sh.T saySh) × AHeap
def Qv1 (a : Prop) := True ∧ a ∧ True
def Qv2 (a : Nat) (b : Wk) (c d e f : Int) (g : Qw0) (h : Qw1) (i : Nat) (j : Qw2) (k : List Nat) (l : Wk) (m : Qw3) (n : AHeap) := Mv a (entW b c d e f g (LX.mk h i j k) 0 (Wk.votes b) (Wk.says b)) l (OX.g m) n
def Qv3 (a : Qw4) := Prod.snd (Prod.snd a)
def Qv4 (a : Qw4) := Prod.fst (Prod.snd a)
def Qv5 (a : Qw2) := List.length (wantM a)
def Qv6 (a : Qw2) := (↑(Qv5 a) : Int)
def Qv7 (a : Wk) (b c d e : Int) (f : Qw0) (g : Qw1) (h : Nat) (i : Qw2) (j : List Nat) (k : Qw4) := entW a b c d e f (LX.mk g h i j) (Qv6 i) (Prod.fst k) (Qv4 k)
def Qv8 (a : LX (Sh.T voteSh)) (b : LX (Sh.T saySh)) := Prod.mk (LX.xs a) (LX.xs b)
def Qv9 (a : Qw4) (b : Wk) (c d : Int) (e : Qw2) := Qv8 (Prod.fst a) (Qv4 a) = entM (Wk.id b) c d (Qv8 (Wk.votes b) (Wk.says b)) (wantM e)
def Qva (a : Qw5) := Qv3 (Prod.snd a)
def Qvb (a : Qw5) := (↑(Prod.fst a) : Int)
def Qvc (a : Qw3) (b c : Nat) (d : Qw5) (e : Qw2) (f : Prop) := OX.a a = some (Addr.mk b c (some 2)) ∧ 0 ≤ Qvb d ∧ Qvb d < Qv6 e ∧ f
def Qvd (a : FuncId) (b : List Value) (c : AHeap) (d : Value) (e : AHeap) (f : Prop) := ACall Tryz.prog a b c d e ∧ f
def Qve (a : Int) := Value.int IntKind.i64 a
def Qvf (a : AHeap) (b c : Nat) (d : Int) (e : Prop) := AHeap.ld a b c 0 1 = some [Qve d] ∧ e
def Qvg (a : AHeap) (b c : Nat) (d : List Value) := AHeap.wr a b 0 c d
def Qvh (a : AHeap) (b : Nat) (c : Int) (d : AHeap) (e : Prop) := Qvg a b 3 [Qve c] = some d ∧ e
def Qvi (a : Qw3) (b : Qw2) := Value.slice (OX.a a) (Qv5 b) (OX.c a)
def Qvj := Value.complex FloatKind.f32 0 0
def Qvk (a : Nat) := Value.pointer (some (Addr.mk a 0 (some 0)))
def Qvl (a : Nat) (b : Value) (c : Qw3) (d : Qw2) (e f g h i j : Prop) := Qvk a = Qvk a ∧ Qvj = Qvj ∧ b = Qvi c d ∧ e ∧ f ∧ g ∧ h ∧ i ∧ j
def Qvm (a b : Nat) (c : Qw4) (d : Wk) (e f g h : Int) (i : Qw0) (j : Qw1) (k : Nat) (l : Qw2) (m : List Nat) (n o : Prop) := WkOk a b (Qv3 c) (Qv7 d e f g h i j k l m c) ∧ n ∧ o
def Qvn (a : Qw2) (b : Qw5) := Qv5 a - Prod.fst b
def Qvo (a : Wk) (b c d e : Int) (f : Qw0) (g : Qw1) (h : Nat) (i : Qw2) (j : List Nat) (k : Qw5) := entW a b c d e f (LX.mk g h i j) (Qvb k) (Prod.fst (Prod.snd k)) (Qv4 (Prod.snd k))
def Qvp (a : Qw5) (b : Qw2) (c d : Nat) (e : Wk) (f g h i : Int) (j : Qw0) (k : Qw1) (l : Nat) (m : List Nat) (n : List (Sh.T voteSh) × List (Sh.T saySh)) (o : Prop) := Prod.fst a ≤ Qv5 b ∧ WkOk c d (Qva a) (Qvo e f g h i j k l b m a) ∧ Qv8 (Prod.fst (Prod.snd a)) (Qv4 (Prod.snd a)) = n ∧ o
noncomputable def Qvq (a : Wk) (b c : Int) (d : Qw5) (e : Qw2) := entM (Wk.id a) b c (Qv8 (Wk.votes a) (Wk.says a)) (List.take (Prod.fst d) (wantM e))
def Qvr (a b c d : Int) (e : Qw0) (f : Value) := [Qve a, Qve b, Qve c, Qve d, Value.string e, f]
def Qvs (a : Qw1) (b : Qw2) (c : Nat) := Value.slice a (List.length b) c
def Qvt (a b c d : Int) (e : Qw0) (f : Qw1) (g : Qw2) (h : Nat) := Qvr a b c d e (Qvs f g h) = Qvr a b c d e (Qvs f g h)
def Qvu (a : Int) (b : Qw5) := Qve (IntKind.wrap IntKind.i64 a) = Qve (Qvb b)
def Qvv (a b : Int) := Qve a = Qve b
def Qvw := Value.tuple (Array.mk List.nil)
def Qvx := Qve 2
def Qvy (a : List Value) := Value.agg (Array.mk a)
def Qvz (a : Nat) (b : Qw5) := a + Int.toNat (Qvb b)
theorem iEnter_spec {n0 l m : Nat} {g : AHeap} {w : Wk} (W : WkOk n0 l g w) (K : VSk m (w.votes.xs, w.says.xs)) (hm : m ≤ 900) (hid : InR 0 3 w.id) (k f v q : Int) (op : ByteArray) (cs : List changeSh.T) (a : Option Addr) (c : Nat) (hx : Stay l w g cs a c) (N : NSay (k, f, v, q, op, cs)) (n1 : cs.length ≤ 1000) (sm : (Sh.sl changeSh).small cs) (n2 : ∀ c ∈ (show List (Int × Int × List Prf) from cs), c.2.2.length ≤ 1000) :
    ∃ r g', ACall Tryz.prog 128 [.pointer (some ⟨l, 0, some 0⟩), .agg #[.int .i64 k, .int .i64 f, .int .i64 v, .int .i64 q, .string op, .slice a cs.length c]] g r g' ∧ r = .tuple #[] ∧ ∃ w', WkOk n0 l g' w' ∧ Mv l w w' g g' ∧ (w'.rep, w'.says.xs) = entR (w.rep, w.says.xs) (k, f, v, q, op, cs) := by
  obtain ⟨_, g1, A1, le1, w1, a1, c1, js1, rfl, S1, F1⟩ := cloneSay_spec g W.wf k f v q op cs a c (hx g .refl) sm
  obtain ⟨ga, gb, gc, gd, e1, e2, e3, e4, W4, M4⟩ := W.opn le1 w1 k f v q op ⟨a1, c1, cs, js1⟩ S1 F1
  obtain ⟨_, _, A5, gm, o, rfl, rfl, leM, B, eo⟩ := wanted_spec _ W4.wf cs a c (hx _ M4.kp) n1 n2 N.P
  have W5 := W4.grow (leM.trans B.le) B.wf
  have l6 := wantM_len N.P
  have SB : ∀ g', Kp ((entW w k f v q op ⟨a1, c1, cs, js1⟩ 0 w.votes w.says).all l) o.g g' → Sl g' freshSh (wantM cs) (.slice o.a (wantM cs).length o.c) := fun g' kp => by
    have := (B.sn.kp kp (fun z hz hj => by
      obtain ⟨b, hb, hzb⟩ := List.mem_flatten.1 hj
      have h1 := W4.lt b hb z hzb
      have h2 := (B.fr.bd z hz).1
      have h3 := leM.n
      omega)).so.sl
    rw [eo] at this
    exact this
  refine acall_q fun Q HQ => ?_
  refine acall_vc (fun _ => false) (fun r => match r with | 1 => [(0, 0, []), (1, 0, []), (2, 0, []), (3, 0, []), (6, 0, []), (4, 1, []), (7, 1, []), (5, 3, [7]), (8, 0, []), (9, 0, []), (10, 0, []), (11, 3, [7]), (12, 0, []), (13, 0, []), (14, 0, []), (15, 3, []), (16, 0, []), (17, 0, []), (18, 0, []), (19, 3, []), (20, 0, []), (21, 0, []), (22, 0, []), (23, 3, [])] | 6 => [(0, 0, []), (1, 0, []), (2, 0, []), (3, 0, []), (5, 0, []), (4, 1, []), (6, 1, []), (7, 0, [])] | _ => []) (fun _ => seL n0 l o.g w k f v q op cs a c ⟨a1, c1, cs, js1⟩ o.a o.c true) mixed Tryz.func128 rfl rfl rfl (Nat.le_of_ble_eq_true rfl) ?_ ?_
  · (refine vc_mp (by kernel_rfl : (True ∧ True ∧ True ∧ (∀ (i : Nat × LX (Sh.T voteSh) × LX (Sh.T saySh) × AHeap), Qvp i cs n0 l w k f v q op a1 c1 js1 (Qvq w v f i cs) (Qv2 l w k f v q op a1 c1 cs js1 (Qvo w k f v q op a1 c1 cs js1 i) o (Qva i)) → bs (decide (Qvb i < Qv6 cs)) (∃ (l_1 r : Nat), Qvc o l_1 r i cs (∃ (x : Int) (x_1 : ByteArray), AHeap.ld (Qva i) l_1 (Qvz r i) 0 2 = some [Qve x, Value.string x_1] ∧ (∃ (x_2 : Bool) (h' : AHeap), Qvd 112 [Qvk l, Qvy [Qvx, Qve v, Qve x, Value.string x_1, Qve f]] (Qva i) (Value.bool x_2) h' (∃ (x_3 : Int), Qvf h' l 0 x_3 (bs (not (decide (x_3 = f))) (∃ (h'_1 : AHeap), Qvd 126 [Qvk l, Qvx, Qve v, Qve x, Value.string x_1] h' Qvw h'_1 (∃ (h' : AHeap), Qvh h'_1 l x h' (∃ (j : Nat × LX (Sh.T voteSh) × LX (Sh.T saySh) × AHeap), Qvl l (Qvi o cs) o cs (Qvv (Qv6 cs) (Qv6 cs)) (Qvu (Qvb i + 1) j) (Qvt k f v q op a cs c) (Qva j = h') (Qvp j cs n0 l w k f v q op a1 c1 js1 (Qvq w v f j cs) (Qv2 l w k f v q op a1 c1 cs js1 (Qvo w k f v q op a1 c1 cs js1 j) o (Qva j))) (Qvn cs j < Qvn cs i ∧ (∀ (k_1 : LX (Sh.T voteSh) × LX (Sh.T saySh) × AHeap), Qvm n0 l k_1 w k f v q op a1 c1 cs js1 (Qv9 k_1 w v f cs) (Qv2 l w k f v q op a1 c1 cs js1 (Qv7 w k f v q op a1 c1 cs js1 k_1) o (Qv3 k_1)) → Qvm n0 l k_1 w k f v q op a1 c1 cs js1 (Qv9 k_1 w v f cs) (Qv2 l w k f v q op a1 c1 cs js1 (Qv7 w k f v q op a1 c1 cs js1 k_1) o (Qv3 k_1))) ∧ (∀ (v : Value) (h : AHeap), False → False))))) (∃ (h'_1 : AHeap), Qvh h' l x h'_1 (∃ (j : Nat × LX (Sh.T voteSh) × LX (Sh.T saySh) × AHeap), Qvl l (Qvi o cs) o cs (Qvv (Qv6 cs) (Qv6 cs)) (Qvu (Qvb i + 1) j) (Qvt k f v q op a cs c) (Qva j = h'_1) (Qvp j cs n0 l w k f v q op a1 c1 js1 (Qvq w v f j cs) (Qv2 l w k f v q op a1 c1 cs js1 (Qvo w k f v q op a1 c1 cs js1 j) o (Qva j))) (Qvn cs j < Qvn cs i ∧ (∀ (k_1 : LX (Sh.T voteSh) × LX (Sh.T saySh) × AHeap), Qvm n0 l k_1 w k f v q op a1 c1 cs js1 (Qv9 k_1 w v f cs) (Qv2 l w k f v q op a1 c1 cs js1 (Qv7 w k f v q op a1 c1 cs js1 k_1) o (Qv3 k_1)) → Qvm n0 l k_1 w k f v q op a1 c1 cs js1 (Qv9 k_1 w v f cs) (Qv2 l w k f v q op a1 c1 cs js1 (Qv7 w k f v q op a1 c1 cs js1 k_1) o (Qv3 k_1))) ∧ (∀ (v : Value) (h : AHeap), False → False))))))))) (∃ (j : LX (Sh.T voteSh) × LX (Sh.T saySh) × AHeap), Qv3 j = Qva i ∧ WkOk n0 l (Qv3 j) (Qv7 w k f v q op a1 c1 cs js1 j) ∧ Qv9 j w v f cs ∧ Qv2 l w k f v q op a1 c1 cs js1 (Qv7 w k f v q op a1 c1 cs js1 j) o (Qv3 j))) ∧ True ∧ (True ∧ True) ∧ (True ∧ True ∧ Qv1 True ∧ True) ∧ True) = _) ?_; delta Qv1 Qv2 Qv3 Qv4 Qv5 Qv6 Qv7 Qv8 Qv9 Qva Qvb Qvc Qvd Qve Qvf Qvg Qvh Qvi Qvj Qvk Qvl Qvm Qvn Qvo Qvp Qvq Qvr Qvs Qvt Qvu Qvv Qvw Qvx Qvy Qvz)
    simp only [true_and, and_true]
    refine fun ⟨i, V, S, g2⟩ ⟨hi, Wi, ei, Mi⟩ => ?_
    dsimp only at *
    refine bs_d (fun hlt => ?_) (fun hge => ?_)
    · obtain ⟨⟨fq, fo⟩, hat⟩ : ∃ y : Int × ByteArray, (wantM cs)[i]? = some y := ⟨_, List.getElem?_eq_getElem (by omega)⟩
      obtain ⟨eq, hq, ho⟩ := wantM_at N.P hat
      obtain ⟨lf, rf, row, ha, _, hrd, hld⟩ := (SB g2 Mi.kp).elem hat
      obtain rfl := rd_fresh.1 hrd
      dsimp only at hld
      have Ki := K.ent hid N.v N.f N.P i hi
      rw [← ei] at Ki
      obtain ⟨_, g6, A6, V', rfl, eV, W6, M6⟩ := iAdd_spec Wi Ki.H.1 2 v fq f fo
      have Ka := Ki.add (k := 2) (v := v) (q := fq) (op := fo) (f := f) ⟨.inl rfl, N.v, hq, ho, N.f⟩
      dsimp only at Ka
      rw [← show V'.xs = (addM V.xs (2, v, fq, fo, f)).1 from eV] at Ka
      subst eq
      have W6 : WkOk n0 l g6 (entW w k f v q op ⟨a1, c1, cs, js1⟩ i V' S) := W6
      have M6 : Mv l (entW w k f v q op ⟨a1, c1, cs, js1⟩ i V S) (entW w k f v q op ⟨a1, c1, cs, js1⟩ i V' S) g2 g6 := M6
      refine ⟨lf, rf, ha, Int.natCast_nonneg _, hlt, _, _, hld, _, _, A6, _, W6.ld (i := 0) (n := 1) rfl (by decide), bs_dn (fun hne => ?_) (fun heq => ?_)⟩
      · obtain ⟨_, g7, A7, V2, S2, rfl, e7, W7, M7⟩ := iVote_spec W6 Ka.H.1 (Nat.le_trans Ki.n (by omega)) 2 v ((i : Int) + 1) fo
        have W7 : WkOk n0 l g7 (entW w k f v q op ⟨a1, c1, cs, js1⟩ i V2 S2) := W7
        have M7 : Mv l (entW w k f v q op ⟨a1, c1, cs, js1⟩ i V' S) (entW w k f v q op ⟨a1, c1, cs, js1⟩ i V2 S2) g6 g7 := M7
        have W8 := W7.num v false ((i : Int) + 1)
        refine ⟨_, A7, _, wk_wr W7.obj rfl (by simp), (i + 1, V2, S2, _), by rw [wrap_i64 (by omega)]; rfl, rfl, ⟨by dsimp only; omega, W8, ?_, ((Mi.trans B.wf M6).trans B.wf M7).trans B.wf (Mv.num (w := entW w k f v q op ⟨a1, c1, cs, js1⟩ i V2 S2) (w' := entW w k f v q op ⟨a1, c1, cs, js1⟩ ((i : Int) + 1) V2 S2) rfl _)⟩, by dsimp only; omega, fun _ h => h, fun _ _ h => h⟩
        rw [entM_take hat, ← ei]
        unfold ent1
        rw [if_neg hne]
        show (V2.xs, S2.xs) = voteM w.id ((addM V.xs (2, v, (i : Int) + 1, fo, f)).1, S.xs) 2 v ((i : Int) + 1) fo
        rw [← show V'.xs = (addM V.xs (2, v, (i : Int) + 1, fo, f)).1 from eV]; exact e7
      · have W8 := W6.num v false ((i : Int) + 1)
        refine ⟨_, wk_wr W6.obj rfl (by simp), (i + 1, V', S, _), by rw [wrap_i64 (by omega)]; rfl, rfl, ⟨by dsimp only; omega, W8, ?_, (Mi.trans B.wf M6).trans B.wf (Mv.num (w := entW w k f v q op ⟨a1, c1, cs, js1⟩ i V' S) (w' := entW w k f v q op ⟨a1, c1, cs, js1⟩ ((i : Int) + 1) V' S) rfl _)⟩, by dsimp only; omega, fun _ h => h, fun _ _ h => h⟩
        rw [entM_take hat, ← ei]
        unfold ent1
        rw [if_pos heq]
        show (V'.xs, S.xs) = ((addM V.xs (2, v, (i : Int) + 1, fo, f)).1, S.xs)
        rw [← show V'.xs = (addM V.xs (2, v, (i : Int) + 1, fo, f)).1 from eV]
    · obtain rfl : i = (wantM cs).length := by omega
      rw [List.take_length] at ei
      exact ⟨(V, S, g2), rfl, Wi, ei, Mi⟩
  (refine vc_mp (by kernel_rfl : (∃ (x x_1 x_2 x_3 : Int) (x_4 : ByteArray) (a_1 : Option Addr) (n c_1 : Nat) (h' : AHeap), ACall Tryz.prog 97 [Qvy (Qvr k f v q op (Qvs a cs c))] g (Qvy (Qvr x x_1 x_2 x_3 x_4 (Value.slice a_1 n c_1))) h' ∧ Qvv v v ∧ (∃ (h'_1 : AHeap), Qvg h' l 6 (Qvr x x_1 x_2 x_3 x_4 (Value.slice a_1 n c_1)) = some h'_1 ∧ Qvv v v ∧ (∃ (h' : AHeap), Qvg h'_1 l 1 [Qve v] = some h' ∧ (∃ (h'_2 : AHeap), Qvg h' l 2 [Value.bool false] = some h'_2 ∧ (∃ (h' : AHeap), Qvh h'_2 l 0 h' (∃ (a_2 : Option Addr) (n c_2 : Nat) (h'_3 : AHeap), Qvd 156 [Qvs a cs c] h' (Value.slice a_2 n c_2) h'_3 (∃ (i : Nat × LX (Sh.T voteSh) × LX (Sh.T saySh) × AHeap), Qvl l (Value.slice a_2 n c_2) o cs (Qvv (↑n : Int) (Qv6 cs)) (Qvv 0 (Qvb i)) (Qvt k f v q op a cs c) (Qva i = h'_3) (Qvp i cs n0 l w k f v q op a1 c1 js1 (Qvq w v f i cs) (Qv2 l w k f v q op a1 c1 cs js1 (Qvo w k f v q op a1 c1 cs js1 i) o (Qva i))) ((∀ (j : LX (Sh.T voteSh) × LX (Sh.T saySh) × AHeap), Qvm n0 l j w k f v q op a1 c1 cs js1 (Qv9 j w v f cs) (Qv2 l w k f v q op a1 c1 cs js1 (Qv7 w k f v q op a1 c1 cs js1 j) o (Qv3 j)) → Q Qvw (Qv3 j)) ∧ (∀ (v : Value) (h : AHeap), False → Q v h))))))))) = _) ?_; delta Qv2 Qv3 Qv4 Qv5 Qv6 Qv7 Qv8 Qv9 Qva Qvb Qvd Qve Qvg Qvh Qvi Qvj Qvk Qvl Qvm Qvo Qvp Qvq Qvr Qvs Qvt Qvv Qvw Qvy)
  exact ⟨_, _, _, _, _, _, _, _, _, A1, rfl, _, e1, rfl, _, e2, _, e3, _, e4, _, _, _, _, A5, ((0 : Nat), w.votes, w.says, o.g), rfl, rfl, by rw [eo], by rw [eo], rfl, rfl, rfl, ⟨Nat.zero_le _, W5, rfl, .of_le (.refl _)⟩, fun ⟨V, S, g2⟩ ⟨W6, e6, M6⟩ => HQ _ _ ⟨rfl, _, W6, (M4.trans W.wf (.of_le (leM.trans B.le))).trans W.wf M6, by unfold entR Wk.rep; dsimp only; rw [← e6]⟩, fun _ _ h => h.elim⟩
theorem sEnter_spec {n0 l m : Nat} {g : AHeap} {w : Wk} (W : WkOk n0 l g w) (K : VSk m (w.votes.xs, w.says.xs)) (hm : m ≤ 900) (hid : InR 0 3 w.id) (k f v q : Int) (op : ByteArray) (cs : List changeSh.T) (a : Option Addr) (c : Nat) (hx : Stay l w g cs a c) (N : NSay (k, f, v, q, op, cs)) (n1 : cs.length ≤ 1000) (sm : (Sh.sl changeSh).small cs) (n2 : ∀ c ∈ (show List (Int × Int × List Prf) from cs), c.2.2.length ≤ 1000) :
    ∃ r g', ACall Tryz.prog 67 [.pointer (some ⟨l, 0, some 0⟩), .agg #[.int .i64 k, .int .i64 f, .int .i64 v, .int .i64 q, .string op, .slice a cs.length c]] g r g' ∧ r = .tuple #[] ∧ ∃ w', WkOk n0 l g' w' ∧ Mv l w w' g g' ∧ (w'.rep, w'.says.xs) = entR (w.rep, w.says.xs) (k, f, v, q, op, cs) := by
  obtain ⟨_, g1, A1, le1, w1, a1, c1, js1, rfl, S1, F1⟩ := l13CopySay_spec g W.wf k f v q op cs a c (hx g .refl) sm
  obtain ⟨ga, gb, gc, gd, e1, e2, e3, e4, W4, M4⟩ := W.opn le1 w1 k f v q op ⟨a1, c1, cs, js1⟩ S1 F1
  obtain ⟨_, _, A5, o, rfl, rfl, B, eo⟩ := l12Wanted_spec _ W4.wf cs a c (hx _ M4.kp) n1 n2 N.P
  have W5 := W4.grow B.le B.wf
  have l6 := wantM_len N.P
  have SB : ∀ g', Kp ((entW w k f v q op ⟨a1, c1, cs, js1⟩ 0 w.votes w.says).all l) o.g g' → Sl g' freshSh (wantM cs) (.slice o.a (wantM cs).length o.c) := fun g' kp => by
    have := (B.sn.kp kp (fun z hz hj => by
      obtain ⟨b, hb, hzb⟩ := List.mem_flatten.1 hj
      have h1 := W4.lt b hb z hzb
      have h2 := (B.fr.bd z hz).1
      omega)).so.sl
    rw [eo] at this
    exact this
  refine acall_q fun Q HQ => ?_
  refine acall_vc (fun _ => false) (fun r => match r with | 9 => [(0, 0, []), (1, 0, []), (3, 0, []), (4, 0, []), (5, 0, []), (6, 0, []), (8, 0, []), (9, 0, []), (10, 0, []), (11, 0, []), (13, 0, []), (2, 1, []), (7, 1, []), (12, 1, []), (14, 1, []), (15, 0, []), (16, 3, [])] | 10 => [(0, 0, []), (1, 0, []), (2, 0, []), (3, 0, []), (5, 0, []), (4, 1, []), (6, 1, []), (7, 0, [])] | 11 => [(0, 0, []), (1, 0, []), (3, 0, []), (4, 0, []), (5, 0, []), (6, 0, []), (8, 0, []), (9, 0, []), (10, 0, []), (11, 0, []), (2, 1, []), (7, 1, []), (12, 1, []), (13, 3, [])] | _ => []) (fun _ => seL n0 l o.g w k f v q op cs a c ⟨a1, c1, cs, js1⟩ o.a o.c false) mixed Tryz.func67 rfl rfl rfl (Nat.le_of_ble_eq_true rfl) ?_ ?_
  · (refine vc_mp (by kernel_rfl : (True ∧ True ∧ True ∧ True ∧ True ∧ True ∧ True ∧ (∀ (i : Nat × LX (Sh.T voteSh) × LX (Sh.T saySh) × AHeap), Qvp i cs n0 l w k f v q op a1 c1 js1 (Qvq w v f i cs) (Qv2 l w k f v q op a1 c1 cs js1 (Qvo w k f v q op a1 c1 cs js1 i) o (Qva i)) → bs (decide (Qvb i < Qv6 cs)) (∃ (l_1 r : Nat), Qvc o l_1 r i cs (∃ (l_2 r_1 : Nat), Qvc o l_2 r_1 i cs (∃ (x : Int), Qvf (Qva i) l_1 (Qvz r i) x (∃ (x_1 : ByteArray), AHeap.ld (Qva i) l_2 (Qvz r_1 i) 1 1 = some [Value.string x_1] ∧ (∃ (x_2 : Bool) (h' : AHeap), Qvd 53 [Qvk l, Qvy [Qvx, Qve v, Qve x, Value.string x_1, Qve f]] (Qva i) (Value.bool x_2) h' (∃ (x : Int), Qvf h' l 0 x (bs (not (decide (x = f))) (∃ (l_3 r : Nat), Qvc o l_3 r i cs (∃ (l_4 r_2 : Nat), Qvc o l_4 r_2 i cs (∃ (x : Int), Qvf h' l_3 (Qvz r i) x (∃ (x_3 : ByteArray), AHeap.ld h' l_4 (Qvz r_2 i) 1 1 = some [Value.string x_3] ∧ (∃ (h'_1 : AHeap), Qvd 63 [Qvk l, Qvx, Qve v, Qve x, Value.string x_3] h' Qvw h'_1 (∃ (l_5 r : Nat), Qvc o l_5 r i cs (∃ (x : Int), Qvf h'_1 l_5 (Qvz r i) x (∃ (h' : AHeap), Qvh h'_1 l x h' (∃ (j : Nat × LX (Sh.T voteSh) × LX (Sh.T saySh) × AHeap), Qvl l (Qvi o cs) o cs (Qvu (Qvb i + 1) j) (Qvt k f v q op a cs c) (Qva j = h') (Qvp j cs n0 l w k f v q op a1 c1 js1 (Qvq w v f j cs) (Qv2 l w k f v q op a1 c1 cs js1 (Qvo w k f v q op a1 c1 cs js1 j) o (Qva j))) (Qvn cs j < Qvn cs i) ((∀ (k_1 : LX (Sh.T voteSh) × LX (Sh.T saySh) × AHeap), Qvm n0 l k_1 w k f v q op a1 c1 cs js1 (Qv9 k_1 w v f cs) (Qv2 l w k f v q op a1 c1 cs js1 (Qv7 w k f v q op a1 c1 cs js1 k_1) o (Qv3 k_1)) → Qvm n0 l k_1 w k f v q op a1 c1 cs js1 (Qv9 k_1 w v f cs) (Qv2 l w k f v q op a1 c1 cs js1 (Qv7 w k f v q op a1 c1 cs js1 k_1) o (Qv3 k_1))) ∧ (∀ (v : Value) (h : AHeap), False → False))))))))))) (∃ (l_3 r : Nat), Qvc o l_3 r i cs (∃ (x : Int), Qvf h' l_3 (Qvz r i) x (∃ (h'_1 : AHeap), Qvh h' l x h'_1 (∃ (j : Nat × LX (Sh.T voteSh) × LX (Sh.T saySh) × AHeap), Qvl l (Qvi o cs) o cs (Qvu (Qvb i + 1) j) (Qvt k f v q op a cs c) (Qva j = h'_1) (Qvp j cs n0 l w k f v q op a1 c1 js1 (Qvq w v f j cs) (Qv2 l w k f v q op a1 c1 cs js1 (Qvo w k f v q op a1 c1 cs js1 j) o (Qva j))) (Qvn cs j < Qvn cs i) ((∀ (k_1 : LX (Sh.T voteSh) × LX (Sh.T saySh) × AHeap), Qvm n0 l k_1 w k f v q op a1 c1 cs js1 (Qv9 k_1 w v f cs) (Qv2 l w k f v q op a1 c1 cs js1 (Qv7 w k f v q op a1 c1 cs js1 k_1) o (Qv3 k_1)) → Qvm n0 l k_1 w k f v q op a1 c1 cs js1 (Qv9 k_1 w v f cs) (Qv2 l w k f v q op a1 c1 cs js1 (Qv7 w k f v q op a1 c1 cs js1 k_1) o (Qv3 k_1))) ∧ (∀ (v : Value) (h : AHeap), False → False))))))))))))) (∃ (j : LX (Sh.T voteSh) × LX (Sh.T saySh) × AHeap), Qv3 j = Qva i ∧ WkOk n0 l (Qv3 j) (Qv7 w k f v q op a1 c1 cs js1 j) ∧ Qv9 j w v f cs ∧ Qv2 l w k f v q op a1 c1 cs js1 (Qv7 w k f v q op a1 c1 cs js1 j) o (Qv3 j))) ∧ Qv1 True ∧ Qv1 (Qv1 True) ∧ True) = _) ?_; delta Qv1 Qv2 Qv3 Qv4 Qv5 Qv6 Qv7 Qv8 Qv9 Qva Qvb Qvc Qvd Qve Qvf Qvg Qvh Qvi Qvj Qvk Qvl Qvm Qvn Qvo Qvp Qvq Qvr Qvs Qvt Qvu Qvw Qvx Qvy Qvz)
    simp only [true_and, and_true]
    refine fun ⟨i, V, S, g2⟩ ⟨hi, Wi, ei, Mi⟩ => ?_
    dsimp only at *
    refine bs_d (fun hlt => ?_) (fun hge => ?_)
    · obtain ⟨⟨fq, fo⟩, hat⟩ : ∃ y : Int × ByteArray, (wantM cs)[i]? = some y := ⟨_, List.getElem?_eq_getElem (by omega)⟩
      obtain ⟨eq, hq, ho⟩ := wantM_at N.P hat
      obtain ⟨lf, rf, row, ha, _, hrd, hld⟩ := (SB g2 Mi.kp).elem hat
      obtain rfl := rd_fresh.1 hrd
      dsimp only at hld
      have Ki := K.ent hid N.v N.f N.P i hi
      rw [← ei] at Ki
      obtain ⟨_, g6, A6, V', rfl, eV, W6, M6⟩ := sAdd_spec Wi Ki.H.1 2 v fq f fo
      have Ka := Ki.add (k := 2) (v := v) (q := fq) (op := fo) (f := f) ⟨.inl rfl, N.v, hq, ho, N.f⟩
      dsimp only at Ka
      rw [← show V'.xs = (addM V.xs (2, v, fq, fo, f)).1 from eV] at Ka
      subst eq
      have W6 : WkOk n0 l g6 (entW w k f v q op ⟨a1, c1, cs, js1⟩ i V' S) := W6
      have M6 : Mv l (entW w k f v q op ⟨a1, c1, cs, js1⟩ i V S) (entW w k f v q op ⟨a1, c1, cs, js1⟩ i V' S) g2 g6 := M6
      have AT : ∀ g', Kp ((entW w k f v q op ⟨a1, c1, cs, js1⟩ 0 w.votes w.says).all l) o.g g' → g'.ld lf (rf + i) 0 2 = some [.int .i64 ((i : Int) + 1), .string fo] := fun g' kp => by
        obtain ⟨l3, r3, row3, ha3, _, hrd3, hld3⟩ := (SB g' kp).elem hat
        rw [ha] at ha3
        cases ha3
        obtain rfl := rd_fresh.1 hrd3
        exact hld3
      have AT6 := AT g6 (Mi.trans B.wf M6).kp
      refine ⟨lf, rf, ha, Int.natCast_nonneg _, hlt, lf, rf, ha, Int.natCast_nonneg _, hlt, _, ld_cells (k := 0) (m := 1) hld (by simp), _, ld_cells (k := 1) (m := 1) hld (by simp), _, _, A6, _, W6.ld (i := 0) (n := 1) rfl (by decide), bs_dn (fun hne => ?_) (fun heq => ?_)⟩
      · obtain ⟨_, g7, A7, V2, S2, rfl, e7, W7, M7⟩ := sVote_spec W6 Ka.H.1 (Nat.le_trans Ki.n (by omega)) 2 v ((i : Int) + 1) fo
        have W7 : WkOk n0 l g7 (entW w k f v q op ⟨a1, c1, cs, js1⟩ i V2 S2) := W7
        have M7 : Mv l (entW w k f v q op ⟨a1, c1, cs, js1⟩ i V' S) (entW w k f v q op ⟨a1, c1, cs, js1⟩ i V2 S2) g6 g7 := M7
        have W8 := W7.num v false ((i : Int) + 1)
        have AT7 := AT g7 ((Mi.trans B.wf M6).trans B.wf M7).kp
        refine ⟨lf, rf, ha, Int.natCast_nonneg _, hlt, lf, rf, ha, Int.natCast_nonneg _, hlt, _, ld_cells (k := 0) (m := 1) AT6 (by simp), _, ld_cells (k := 1) (m := 1) AT6 (by simp), _, A7, lf, rf, ha, Int.natCast_nonneg _, hlt, _, ld_cells (k := 0) (m := 1) AT7 (by simp), _, wk_wr W7.obj rfl (by simp), (i + 1, V2, S2, _), by rw [wrap_i64 (by omega)]; rfl, rfl, ⟨by dsimp only; omega, W8, ?_, ((Mi.trans B.wf M6).trans B.wf M7).trans B.wf (Mv.num (w := entW w k f v q op ⟨a1, c1, cs, js1⟩ i V2 S2) (w' := entW w k f v q op ⟨a1, c1, cs, js1⟩ ((i : Int) + 1) V2 S2) rfl _)⟩, by dsimp only; omega, fun _ h => h, fun _ _ h => h⟩
        rw [entM_take hat, ← ei]
        unfold ent1
        rw [if_neg hne]
        show (V2.xs, S2.xs) = voteM w.id ((addM V.xs (2, v, (i : Int) + 1, fo, f)).1, S.xs) 2 v ((i : Int) + 1) fo
        rw [← show V'.xs = (addM V.xs (2, v, (i : Int) + 1, fo, f)).1 from eV]; exact e7
      · have W8 := W6.num v false ((i : Int) + 1)
        refine ⟨lf, rf, ha, Int.natCast_nonneg _, hlt, _, ld_cells (k := 0) (m := 1) AT6 (by simp), _, wk_wr W6.obj rfl (by simp), (i + 1, V', S, _), by rw [wrap_i64 (by omega)]; rfl, rfl, ⟨by dsimp only; omega, W8, ?_, (Mi.trans B.wf M6).trans B.wf (Mv.num (w := entW w k f v q op ⟨a1, c1, cs, js1⟩ i V' S) (w' := entW w k f v q op ⟨a1, c1, cs, js1⟩ ((i : Int) + 1) V' S) rfl _)⟩, by dsimp only; omega, fun _ h => h, fun _ _ h => h⟩
        rw [entM_take hat, ← ei]
        unfold ent1
        rw [if_pos heq]
        show (V'.xs, S.xs) = ((addM V.xs (2, v, (i : Int) + 1, fo, f)).1, S.xs)
        rw [← show V'.xs = (addM V.xs (2, v, (i : Int) + 1, fo, f)).1 from eV]
    · obtain rfl : i = (wantM cs).length := by omega
      rw [List.take_length] at ei
      exact ⟨(V, S, g2), rfl, Wi, ei, Mi⟩
  (refine vc_mp (by kernel_rfl : (∃ (x x_1 x_2 x_3 : Int) (x_4 : ByteArray) (a_1 : Option Addr) (n c_1 : Nat) (h' : AHeap), Qvd 34 [Qvy (Qvr k f v q op (Qvs a cs c))] g (Qvy (Qvr x x_1 x_2 x_3 x_4 (Value.slice a_1 n c_1))) h' (∃ (h'_1 : AHeap), Qvg h' l 6 (Qvr x x_1 x_2 x_3 x_4 (Value.slice a_1 n c_1)) = some h'_1 ∧ (∃ (h' : AHeap), Qvg h'_1 l 1 [Qve v] = some h' ∧ (∃ (h'_2 : AHeap), Qvg h' l 2 [Value.bool false] = some h'_2 ∧ (∃ (h' : AHeap), Qvh h'_2 l 0 h' (∃ (a_2 : Option Addr) (n c_2 : Nat) (h'_3 : AHeap), Qvd 122 [Qvs a cs c] h' (Value.slice a_2 n c_2) h'_3 (∃ (i : Nat × LX (Sh.T voteSh) × LX (Sh.T saySh) × AHeap), Qvl l (Value.slice a_2 n c_2) o cs (Qvv 0 (Qvb i)) (Qvt k f v q op a cs c) (Qva i = h'_3) (Qvp i cs n0 l w k f v q op a1 c1 js1 (Qvq w v f i cs) (Qv2 l w k f v q op a1 c1 cs js1 (Qvo w k f v q op a1 c1 cs js1 i) o (Qva i))) (∀ (j : LX (Sh.T voteSh) × LX (Sh.T saySh) × AHeap), Qvm n0 l j w k f v q op a1 c1 cs js1 (Qv9 j w v f cs) (Qv2 l w k f v q op a1 c1 cs js1 (Qv7 w k f v q op a1 c1 cs js1 j) o (Qv3 j)) → Q Qvw (Qv3 j)) (∀ (v : Value) (h : AHeap), False → Q v h)))))))) = _) ?_; delta Qv2 Qv3 Qv4 Qv5 Qv6 Qv7 Qv8 Qv9 Qva Qvb Qvd Qve Qvg Qvh Qvi Qvj Qvk Qvl Qvm Qvo Qvp Qvq Qvr Qvs Qvt Qvv Qvw Qvy)
  exact ⟨_, _, _, _, _, _, _, _, _, A1, _, e1, _, e2, _, e3, _, e4, _, _, _, _, A5, ((0 : Nat), w.votes, w.says, o.g), rfl, rfl, by rw [eo], rfl, rfl, rfl, ⟨Nat.zero_le _, W5, rfl, .of_le (.refl _)⟩, fun ⟨V, S, g2⟩ ⟨W6, e6, M6⟩ => HQ _ _ ⟨rfl, _, W6, (M4.trans W.wf (.of_le B.le)).trans W.wf M6, by unfold entR Wk.rep; dsimp only; rw [← e6]⟩, fun _ _ h => h.elim⟩
end Go.Proofs.YtpgfjadjhliohaaGreat
