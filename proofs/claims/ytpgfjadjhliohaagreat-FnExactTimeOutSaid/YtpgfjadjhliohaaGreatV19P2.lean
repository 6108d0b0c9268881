/- P2. -/
import Derived.Test.YtpgfjadjhliohaaGreatV19P1
namespace Go.Dat
open Go.Abs
noncomputable def voteM (id : Int) (st : List voteSh.T × List saySh.T) (k v q : Int) (op : ByteArray) : List voteSh.T × List saySh.T :=
  ((addM st.1 (k, v, q, op, id)).1, bif (addM st.1 (k, v, q, op, id)).2 then st.2 ++ [(k, id, v, q, op, [])] else st.2)
theorem WkOk.n {n0 l : Nat} {g : AHeap} {w : Wk} (W : WkOk n0 l g w) : n0 ≤ g.n := W.V.le.n
def Wk.all (w : Wk) (l : Nat) : List Nat := (w.lists l).flatten
structure Mv (l : Nat) (w w' : Wk) (g g' : AHeap) : Prop where
  kp : Kp (w.all l) g g'
  ids : ∀ z ∈ w'.all l, z ∈ w.all l ∨ g.n ≤ z
theorem Mv.of_le {l : Nat} {w : Wk} {g g' : AHeap} (le : g.Le g') : Mv l w w g g' := ⟨.of_le le, fun z h => .inl h⟩
theorem Mv.trans {l : Nat} {w w' w2 : Wk} {g g' g2 : AHeap} (wf : g.wf) (x : Mv l w w' g g') (y : Mv l w' w2 g' g2) : Mv l w w2 g g2 :=
  ⟨x.kp.drop wf y.kp x.ids, fun z hz => (y.ids z hz).elim (x.ids z) fun h => .inr (Nat.le_trans x.kp.n h)⟩
theorem Mv.set {l : Nat} {w w' : Wk} {g g' : AHeap} {k : Nat} {old new : List Nat} (hk : (w.lists l)[k]? = some old) (e : w'.lists l = (w.lists l).set k new) (kp : Kp old g g') (hi : ∀ z ∈ new, g.n ≤ z ∨ z ∈ old) (o' : Option AObj) : Mv l w w' g (g'.put l o') := by
  have sub : ∀ z ∈ old, z ∈ w.all l := fun z hz => List.mem_flatten.2 ⟨old, List.mem_of_getElem? hk, hz⟩
  refine ⟨(kp.widen sub).trans ((kp_put o').widen fun z hz => ?_), fun z hz => ?_⟩
  · rw [List.mem_singleton.1 hz]
    exact List.mem_flatten.2 ⟨[l], List.mem_cons_self, List.mem_singleton.2 rfl⟩
  · unfold Wk.all at hz
    rw [e] at hz
    obtain ⟨a, ha, hza⟩ := List.mem_flatten.1 hz
    rcases List.mem_or_eq_of_mem_set ha with h | rfl
    · exact .inl (List.mem_flatten.2 ⟨a, h, hza⟩)
    · exact (hi z hza).symm.imp (sub z) (fun h => h)
theorem Mv.setV {l : Nat} {w : Wk} {g g' : AHeap} (V' : LX voteSh.T) (kp : Kp w.votes.ids g g') (hi : ∀ z ∈ V'.ids, g.n ≤ z ∨ z ∈ w.votes.ids) (o' : Option AObj) : Mv l w { w with votes := V' } g (g'.put l o') :=
  Mv.set (k := 1) (old := w.votes.ids) (new := V'.ids) rfl rfl kp hi o'
theorem Mv.setL {l : Nat} {w : Wk} {g g' : AHeap} (L' : LX Sh.str.T) (kp : Kp w.log.ids g g') (hi : ∀ z ∈ L'.ids, g.n ≤ z ∨ z ∈ w.log.ids) (o' : Option AObj) : Mv l w { w with log := L' } g (g'.put l o') :=
  Mv.set (k := 4) (old := w.log.ids) (new := L'.ids) rfl rfl kp hi o'
theorem Mv.setS {l : Nat} {w : Wk} {g g' : AHeap} (S' : LX saySh.T) (kp : Kp w.says.ids g g') (hi : ∀ z ∈ S'.ids, g.n ≤ z ∨ z ∈ w.says.ids) (o' : Option AObj) : Mv l w { w with says := S' } g (g'.put l o') :=
  Mv.set (k := 5) (old := w.says.ids) (new := S'.ids) rfl rfl kp hi o'
theorem Mv.setC {l : Nat} {w : Wk} {g g' : AHeap} (C' : LX changeSh.T) (kp : Kp w.changes.ids g g') (hi : ∀ z ∈ C'.ids, g.n ≤ z ∨ z ∈ w.changes.ids) (o' : Option AObj) : Mv l w { w with changes := C' } g (g'.put l o') :=
  Mv.set (k := 2) (old := w.changes.ids) (new := C'.ids) rfl rfl kp hi o'
theorem Mv.num {l : Nat} {w w' : Wk} {g : AHeap} (e : w'.lists l = w.lists l) (o' : Option AObj) : Mv l w w' g (g.put l o') := by
  refine ⟨(kp_put o').widen fun z hz => ?_, fun z hz => .inl (by unfold Wk.all at *; rw [e] at hz; exact hz)⟩
  rw [List.mem_singleton.1 hz]
  exact List.mem_flatten.2 ⟨[l], List.mem_cons_self, List.mem_singleton.2 rfl⟩
theorem WkOk.say {n0 l : Nat} {g0 g : AHeap} {w : Wk} (W : WkOk n0 l g0 w) (le : g0.Le g) (wg : g.wf) {k f v q : Int} {op : ByteArray} {cs : List changeSh.T} {a : Option Addr} {c : Nat} {js : List Nat} (sn : Sn g changeSh cs (.slice a cs.length c) js) (fj : Fresh g0.n g.n js) :
    ∃ (S' : LX saySh.T) (g2 : AHeap), S'.xs = w.says.xs ++ [(k, f, v, q, op, cs)] ∧
      (g.push ⟨[[.int .i64 k, .int .i64 f, .int .i64 v, .int .i64 q, .string op, .slice a cs.length c]], 6, true⟩).app (.slice w.says.a w.says.xs.length w.says.c) [[.int .i64 k, .int .i64 f, .int .i64 v, .int .i64 q, .string op, .slice a cs.length c]] 6 = some (.slice S'.a S'.xs.length S'.c, g2) ∧
      g2.wr l 0 13 [.slice S'.a S'.xs.length S'.c] = some (g2.put l (some ⟨[({ w with says := S' } : Wk).row], 14, true⟩)) ∧ WkOk n0 l (g2.put l (some ⟨[({ w with says := S' } : Wk).row], 14, true⟩)) { w with says := S' } ∧ Mv l w { w with says := S' } g0 (g2.put l (some ⟨[({ w with says := S' } : Wk).row], 14, true⟩)) := by
  have lp := AHeap.Le.push wg ⟨[[.int .i64 k, .int .i64 f, .int .i64 v, .int .i64 q, .string op, .slice a cs.length c]], 6, true⟩
  have wp := wg.push ⟨[[.int .i64 k, .int .i64 f, .int .i64 v, .int .i64 q, .string op, .slice a cs.length c]], 6, true⟩
  have W3 := W.grow (le.trans lp) wp
  obtain ⟨l2, g2, ids2, e6, B2, k2, w2, hi⟩ := SoB.app' (x := (k, f, v, q, op, cs)) W3.S (rnSay (sn.kp (J := []) (.of_le lp) (by simp))) (fj.widen W.n lp.n) (fun z hz hj => by have h1 := (W.S.fr.bd z hz).2; have h2 := (fj.bd z hj).1; omega)
  have el : ((show List saySh.T from w.says.xs) ++ [(k, f, v, q, op, cs)]).length = w.says.xs.length + 1 := by simp
  rw [← el] at e6 B2
  have kp : Kp w.says.ids g0 g2 := (Kp.of_le (le.trans lp)).trans k2
  have hi' : ∀ z ∈ ids2, g0.n ≤ z ∨ z ∈ w.says.ids := fun z hz => by
    rcases hi z hz with h | h | h
    · left; rw [h]; exact (le.trans lp).n
    · exact .inr h
    · exact .inl (fj.bd z h).1
  have WS := W.setS ⟨some ⟨l2, 0, some 6⟩, 0, (show List saySh.T from w.says.xs) ++ [(k, f, v, q, op, cs)], ids2⟩ B2 kp hi'
  exact ⟨⟨some ⟨l2, 0, some 6⟩, 0, (show List saySh.T from w.says.xs) ++ [(k, f, v, q, op, cs)], ids2⟩, g2, rfl, e6, wk_wr (W.get (k := 5) rfl (by decide) kp) rfl (by simp), WS, Mv.setS ⟨some ⟨l2, 0, some 6⟩, 0, (show List saySh.T from w.says.xs) ++ [(k, f, v, q, op, cs)], ids2⟩ kp hi' _⟩
end Go.Dat
namespace Go.Proofs.YtpgfjadjhliohaaGreat
open Go.Abs Go.Dat
set_option maxRecDepth 100000
set_option maxHeartbeats 8000000
abbrev Qr2 := List (List Value)
def Qqm (a : Prop) := True ∧ True ∧ a
def Qqn := (0 : Nat)
def Qqo (a : AHeap) (b c : Nat) (d : List Value) (e : Prop) := AHeap.ld a b Qqn c 1 = some d ∧ e
def Qqp (a : Option Addr) (b c : Nat) := [Value.slice a b c]
def Qqq (a : Int) := Value.int IntKind.i64 a
def Qqr (a : AHeap) (b : Qr2) := AHeap.push a (AObj.mk b 3 true)
def Qqs := [Value.slice none Qqn Qqn, Value.bool false, Qqq (Int.ofNat Qqn)]
def Qqt (a : List Value) := Value.agg (Array.mk a)
def Qqu (a b c : Int) (d : ByteArray) (e : Int) := Qqt [Qqq a, Qqq b, Qqq c, Value.string d, Qqq e]
theorem sAdd_spec {n0 l : Nat} {g : AHeap} {w : Wk} (W : WkOk n0 l g w) (hv : w.votes.xs.length ≤ 400) (k v q f : Int) (op : ByteArray) :
    ∃ r g', ACall Tryz.prog 53 [.pointer (some ⟨l, 0, some 0⟩), .agg #[.int .i64 k, .int .i64 v, .int .i64 q, .string op, .int .i64 f]] g r g' ∧ ∃ V' : LX voteSh.T, r = .bool (addM w.votes.xs (k, v, q, op, f)).2 ∧ V'.xs = (addM w.votes.xs (k, v, q, op, f)).1 ∧ WkOk n0 l g' { w with votes := V' } ∧ Mv l w { w with votes := V' } g g' := by
  refine acall_q fun Q HQ => ?_
  refine acall_vc (fun t => t == 5) (fun r => match r with | 1 => [(7, 2, []), (0, 0, []), (1, 0, []), (2, 0, []), (3, 0, []), (4, 1, []), (5, 1, []), (6, 3, [7]), (8, 3, [])] | _ => []) (fun _ => .none) mixed Tryz.func53 rfl rfl rfl (Nat.le_of_ble_eq_true rfl) (by (refine vc_mp (by kernel_rfl : (Qqm (Qqm True ∧ True ∧ True)) = _) ?_; delta Qqm); simp only [and_self]) ?_
  (refine vc_mp (by kernel_rfl : (∃ (a : Option Addr) (n c : Nat), Qqo (Qqr g [Qqs]) l 4 (Qqp a n c) (∃ (a_1 : Option Addr) (n_1 c_1 : Nat) (x : Bool) (x_1 : Int) (h' : AHeap), ACall Tryz.prog 104 [Value.slice a n c, Qqu k v q op f] (Qqr g [Qqs]) (Qqt [Value.slice a_1 n_1 c_1, Value.bool x, Qqq x_1]) h' ∧ (AHeap.get h' (AHeap.n g) = AHeap.get (Qqr g [Qqs]) (AHeap.n g) ∧ AHeap.n (Qqr g [Qqs]) ≤ AHeap.n h') ∧ (∃ (h'_1 : AHeap), AHeap.wr h' (AHeap.n g) Qqn Qqn [Value.slice a_1 n_1 c_1, Value.bool x, Qqq x_1] = some h'_1 ∧ (∃ (x : Int), Qqo h'_1 (AHeap.n g) 2 [Qqq x] (bs (decide (x = 0)) (∃ (a : Option Addr) (n c : Nat), Qqo h'_1 (AHeap.n g) Qqn (Qqp a n c) (∃ (h' : AHeap), AHeap.wr h'_1 l Qqn 4 (Qqp a n c) = some h' ∧ (∃ (x : Bool), Qqo h' (AHeap.n g) 1 [Value.bool x] (Q (Value.bool x) h')))) (∃ (x : Bool), Qqo h'_1 (AHeap.n g) 1 [Value.bool x] (Q (Value.bool x) h'_1))))))) = _) ?_; delta Qqn Qqo Qqp Qqq Qqr Qqs Qqt Qqu)
  have lp := AHeap.Le.push W.wf ⟨[[.slice none 0 0, .bool false, .int .i64 (Int.ofNat 0)]], 3, true⟩
  have wp := W.wf.push ⟨[[.slice none 0 0, .bool false, .int .i64 (Int.ofNat 0)]], 3, true⟩
  have W1 := W.grow lp wp
  have ll := W.wf.lt W.obj
  obtain ⟨_, g1, A, le, w1, hc⟩ := l11Add_spec _ wp w.votes.xs w.votes.a w.votes.c W1.V.sn.so.sl k v q f op hv
  have hg := le.get _ _ (AHeap.get_push_eq (h := g) (o := ⟨[[.slice none 0 0, .bool false, .int .i64 (Int.ofNat 0)]], 3, true⟩))
  have hlt : g.n < g1.n := w1.lt hg
  have fin : ∀ row : List Value, g.Le (g1.put g.n (some ⟨[row], 3, true⟩)) ∧ (g1.put g.n (some ⟨[row], 3, true⟩)).wf := fun row => ⟨(lp.trans le).put (W.wf g.n (Nat.le_refl _)) _, w1.put hlt _⟩
  rcases hc with ⟨o, rfl, rfl, B, hx⟩ | ⟨rfl, hx⟩
  · obtain ⟨leA, wA⟩ := fin [.slice o.a o.xs.length o.c, .bool (addM w.votes.xs (k, v, q, op, f)).2, .int .i64 0]
    have B' : LXB voteSh n0 _ ⟨o.a, o.c, o.xs, o.ids⟩ := SoB.kp (B.base (Nat.le_trans W.n lp.n)) (kp_put (y := g.n) _) wA (fun z hz h => by
      have h1 := (B.fr.bd z hz).1
      have h2 : z = g.n := by simpa using h
      have h3 : g.n + 1 ≤ z := h1
      omega)
    have hi' : ∀ z ∈ o.ids, g.n ≤ z ∨ z ∈ w.votes.ids := fun z hz => .inl (by have h1 : g.n + 1 ≤ z := (B.fr.bd z hz).1; omega)
    have WS := W.setV ⟨o.a, o.c, o.xs, o.ids⟩ B' (.of_le leA) hi'
    refine ⟨_, _, _, W1.ld rfl (by decide), _, _, _, _, _, _, A, ⟨hg.trans AHeap.get_push_eq.symm, le.n⟩, _, wr_field hg rfl (by simp), _, by rw [AHeap.ld, AHeap.get_put_eq]; rfl, bs_d (fun _ => ?_) (fun e => absurd rfl e)⟩
    refine ⟨_, _, _, by rw [AHeap.ld, AHeap.get_put_eq]; rfl, _, wk_wr (leA.get _ _ W.obj) rfl (by simp), _, ?_, HQ _ _ ⟨⟨o.a, o.c, o.xs, o.ids⟩, rfl, hx, WS, Mv.setV ⟨o.a, o.c, o.xs, o.ids⟩ (.of_le leA) hi' _⟩⟩
    rw [AHeap.ld, AHeap.get_put_ne (by omega), AHeap.get_put_eq]; rfl
  · obtain ⟨leA, wA⟩ := fin [.slice none 0 0, .bool false, .int .i64 9]
    refine ⟨_, _, _, W1.ld rfl (by decide), _, _, _, _, _, _, A, ⟨hg.trans AHeap.get_push_eq.symm, le.n⟩, _, wr_field hg rfl (by simp), _, by rw [AHeap.ld, AHeap.get_put_eq]; rfl, bs_d (fun e => absurd e (by decide)) (fun _ => ?_)⟩
    refine ⟨_, by rw [AHeap.ld, AHeap.get_put_eq]; rfl, HQ _ _ ⟨w.votes, by rw [hx], by rw [hx], W.grow leA wA, .of_le leA⟩⟩
theorem iAdd_spec {n0 l : Nat} {g : AHeap} {w : Wk} (W : WkOk n0 l g w) (hv : w.votes.xs.length ≤ 400) (k v q f : Int) (op : ByteArray) :
    ∃ r g', ACall Tryz.prog 112 [.pointer (some ⟨l, 0, some 0⟩), .agg #[.int .i64 k, .int .i64 v, .int .i64 q, .string op, .int .i64 f]] g r g' ∧ ∃ V' : LX voteSh.T, r = .bool (addM w.votes.xs (k, v, q, op, f)).2 ∧ V'.xs = (addM w.votes.xs (k, v, q, op, f)).1 ∧ WkOk n0 l g' { w with votes := V' } ∧ Mv l w { w with votes := V' } g g' := by
  refine acall_q fun Q HQ => ?_
  refine acall_vc (fun _ => false) (fun r => match r with | 1 => [(0, 0, []), (1, 0, []), (2, 0, []), (3, 0, []), (4, 1, []), (5, 1, []), (6, 3, []), (7, 0, []), (8, 0, []), (9, 0, []), (10, 0, []), (11, 0, []), (12, 0, []), (13, 0, [])] | _ => []) (fun _ => .none) mixed Tryz.func112 rfl rfl rfl (Nat.le_of_ble_eq_true rfl) (by (refine vc_mp (by kernel_rfl : (Qqm (Qqm True)) = _) ?_; delta Qqm); simp only [and_self]) ?_
  (refine vc_mp (by kernel_rfl : (∃ (a : Option Addr) (n c : Nat), Qqo g l 4 (Qqp a n c) (∃ (a_1 : Option Addr) (n_1 c_1 : Nat) (x : Bool) (x_1 : Int) (h' : AHeap), ACall Tryz.prog 152 [Value.slice a n c, Qqu k v q op f] g (Value.tuple (Array.mk [Value.slice a_1 n_1 c_1, Value.bool x, Qqq x_1])) h' ∧ (∃ (h'_1 : AHeap), AHeap.wr h' l Qqn 4 (Qqp a_1 n_1 c_1) = some h'_1 ∧ Q (Value.bool x) h'_1))) = _) ?_; delta Qqn Qqo Qqp Qqq Qqt Qqu)
  obtain ⟨_, _, A, o, cd, rfl, B, hx, rfl, hn, hk, hid⟩ := voteAdd_spec (E0 n0) ⟨w.votes.a, w.votes.c, w.votes.xs, w.votes.ids, g⟩ W.V k v q f op hv
  have kp : Kp w.votes.ids g o.g := ⟨hn, hk⟩
  exact ⟨_, _, _, W.ld rfl (by decide), _, _, _, _, _, _, A, _, wk_wr (W.get (k := 1) rfl (by decide) kp) rfl (by simp), HQ _ _ ⟨⟨o.a, o.c, o.xs, o.ids⟩, rfl, hx, W.setV ⟨o.a, o.c, o.xs, o.ids⟩ B kp hid, Mv.setV ⟨o.a, o.c, o.xs, o.ids⟩ kp hid _⟩⟩
def Qqv := Value.tuple (Array.mk List.nil)
def Qqw (a : AHeap) (b : Qr2) := AHeap.push a (AObj.mk b 6 true)
def Qqx (a b c d : Int) (e : ByteArray) (f : Option Addr) (g h : Nat) := [Qqq a, Qqq b, Qqq c, Qqq d, Value.string e, Value.slice f g h]
def Qqy (a : Qr2) := List.all a (fun (row : List Value) =>
  decide (List.length row = (6 : Nat)) &&
    List.all row fun (v : Value) =>
      match v with
      | Value.agg cells => false
      | Value.tuple cells => false
      | Value.complex k re im => false
      | Value.chan r => false
      | x => true)
def Qqz (a : AHeap) (b : Option Nat) := Value.slice (some (Addr.mk (AHeap.n a) Qqn b)) 1 2
theorem iSend_spec {n0 l : Nat} {g : AHeap} {w : Wk} (W : WkOk n0 l g w) (hs : w.says.xs.length ≤ 1000) (k f v q : Int) (op : ByteArray) (cs : List changeSh.T) (a : Option Addr) (c : Nat) (hx : Sl g changeSh cs (.slice a cs.length c)) (sm : (Sh.sl changeSh).small cs) :
    ∃ r g', ACall Tryz.prog 113 [.pointer (some ⟨l, 0, some 0⟩), .agg #[.int .i64 k, .int .i64 f, .int .i64 v, .int .i64 q, .string op, .slice a cs.length c]] g r g' ∧ ∃ S' : LX saySh.T, r = .tuple #[] ∧ S'.xs = w.says.xs ++ [(k, f, v, q, op, cs)] ∧ WkOk n0 l g' { w with says := S' } ∧ Mv l w { w with says := S' } g g' := by
  refine acall_q fun Q HQ => ?_
  refine acall_vc (fun _ => false) (fun r => match r with | 1 => [(0, 0, []), (1, 0, []), (2, 0, []), (3, 0, []), (4, 1, []), (5, 1, []), (6, 3, [4]), (7, 3, [4]), (8, 3, []), (9, 0, []), (10, 0, []), (11, 3, [])] | _ => []) (fun _ => .none) mixed Tryz.func113 rfl rfl rfl (Nat.le_of_ble_eq_true rfl) (by refine vc_mp (by kernel_rfl : (True ∧ True) = _) ?_; simp only [and_self]) ?_
  (refine vc_mp (by kernel_rfl : (∃ (a_1 : Option Addr) (n c_1 : Nat), Qqo g l 13 (Qqp a_1 n c_1) (∃ (x x_1 x_2 x_3 : Int) (x_4 : ByteArray) (a_2 : Option Addr) (n_1 c_2 : Nat) (h' : AHeap), ACall Tryz.prog 97 [Qqt (Qqx k f v q op a (List.length cs) c)] g (Qqt (Qqx x x_1 x_2 x_3 x_4 a_2 n_1 c_2)) h' ∧ (∃ (a : Option Addr) (n_2 c : Nat), Qqo h' l 13 (Qqp a n_2 c) (Value.slice a n_2 c = Value.slice a_1 n c_1)) ∧ (∃ (a : Option Addr) (n_2 c : Nat), Qqo (Qqw h' [Qqx x x_1 x_2 x_3 x_4 a_2 n_1 c_2]) l 13 (Qqp a n_2 c) (Value.slice a n_2 c = Value.slice a_1 n c_1)) ∧ (∃ (xs : List (List Value)), rowsV (Qqw h' [Qqx x x_1 x_2 x_3 x_4 a_2 n_1 c_2]) (Qqz h' (some 6)) = some xs ∧ Qqy xs = true ∧ (n + List.length xs) * 72 ≤ 140737488355328 ∧ (∃ (a : Option Addr) (n_2 c : Nat) (h'_1 : AHeap), AHeap.app (Qqw h' [Qqx x x_1 x_2 x_3 x_4 a_2 n_1 c_2]) (Value.slice a_1 n c_1) xs 6 = some (Prod.mk (Value.slice a n_2 c) h'_1) ∧ (∃ (h' : AHeap), AHeap.wr h'_1 l Qqn 13 (Qqp a n_2 c) = some h' ∧ Q Qqv h'))))) = _) ?_; delta Qqn Qqo Qqp Qqq Qqt Qqv Qqw Qqx Qqy Qqz)
  obtain ⟨_, g1, A, le, w1, a', c', js, rfl, sn, fr⟩ := cloneSay_spec g W.wf k f v q op cs a c hx sm
  have lp := AHeap.Le.push w1 ⟨[[.int .i64 k, .int .i64 f, .int .i64 v, .int .i64 q, .string op, .slice a' cs.length c']], 6, true⟩
  have wp := w1.push ⟨[[.int .i64 k, .int .i64 f, .int .i64 v, .int .i64 q, .string op, .slice a' cs.length c']], 6, true⟩
  obtain ⟨S', g2, eS, e6, e7, WS, M⟩ := W.say le w1 (k := k) (f := f) (v := v) (q := q) (op := op) sn fr
  exact ⟨_, _, _, W.ld rfl (by decide), _, _, _, _, _, _, _, _, _, A, ⟨_, _, _, (W.grow le w1).ld rfl (by decide), rfl⟩, ⟨_, _, _, (W.grow (le.trans lp) wp).ld rfl (by decide), rfl⟩, _, rowsV_push, rfl, by simp only [List.length_cons, List.length_nil]; omega, _, _, _, g2, e6, _, e7, HQ _ _ ⟨S', rfl, eS, WS, M⟩⟩
def Qr0 (a b c d : Int) (e : ByteArray) := [Qqq a, Qqq b, Qqq c, Qqq d, Value.string e, Value.slice none Qqn Qqn]
def Qr1 (a : Nat) := Value.pointer (some (Addr.mk a Qqn (some Qqn)))
theorem sVote_spec {n0 l : Nat} {g : AHeap} {w : Wk} (W : WkOk n0 l g w) (hv : w.votes.xs.length ≤ 400) (hs : w.says.xs.length ≤ 1000) (k v q : Int) (op : ByteArray) :
    ∃ r g', ACall Tryz.prog 63 [.pointer (some ⟨l, 0, some 0⟩), .int .i64 k, .int .i64 v, .int .i64 q, .string op] g r g' ∧ ∃ (V' : LX voteSh.T) (S' : LX saySh.T), r = .tuple #[] ∧ (V'.xs, S'.xs) = voteM w.id (w.votes.xs, w.says.xs) k v q op ∧ WkOk n0 l g' { w with votes := V', says := S' } ∧ Mv l w { w with votes := V', says := S' } g g' := by
  refine acall_q fun Q HQ => ?_
  refine acall_vc (fun _ => false) (fun r => match r with | 1 => [(0, 0, []), (1, 0, []), (2, 0, []), (3, 0, []), (5, 0, []), (6, 0, []), (7, 0, []), (8, 0, []), (9, 0, []), (11, 0, []), (12, 0, []), (13, 0, []), (4, 1, []), (10, 1, []), (14, 0, []), (15, 3, [4]), (16, 3, []), (17, 0, []), (18, 0, []), (19, 3, [])] | _ => []) (fun _ => .none) mixed Tryz.func63 rfl rfl rfl (Nat.le_of_ble_eq_true rfl) (by (refine vc_mp (by kernel_rfl : (Qqm True) = _) ?_; delta Qqm); simp only [and_self]) ?_
  (refine vc_mp (by kernel_rfl : (∃ (x : Int), Qqo g l Qqn [Qqq x] (∃ (x_1 : Bool) (h' : AHeap), ACall Tryz.prog 53 [Qr1 l, Qqu k v q op x] g (Value.bool x_1) h' ∧ bs x_1 (∃ (a : Option Addr) (n c : Nat), Qqo h' l 13 (Qqp a n c) (∃ (x : Int), Qqo h' l Qqn [Qqq x] ((∃ (a_1 : Option Addr) (n_1 c_1 : Nat), Qqo (Qqw h' [Qr0 k x v q op]) l 13 (Qqp a_1 n_1 c_1) (Value.slice a_1 n_1 c_1 = Value.slice a n c)) ∧ (∃ (xs : List (List Value)), rowsV (Qqw h' [Qr0 k x v q op]) (Qqz h' (some 6)) = some xs ∧ Qqy xs = true ∧ (n + List.length xs) * 72 ≤ 140737488355328 ∧ (∃ (a_1 : Option Addr) (n_1 c_1 : Nat) (h'_1 : AHeap), AHeap.app (Qqw h' [Qr0 k x v q op]) (Value.slice a n c) xs 6 = some (Prod.mk (Value.slice a_1 n_1 c_1) h'_1) ∧ (∃ (h' : AHeap), AHeap.wr h'_1 l Qqn 13 (Qqp a_1 n_1 c_1) = some h' ∧ Q Qqv h')))))) (Q Qqv h'))) = _) ?_; delta Qqn Qqo Qqp Qqq Qqt Qqu Qqv Qqw Qqy Qqz Qr0 Qr1)
  obtain ⟨_, g1, A, V', rfl, eV, W1, M1⟩ := sAdd_spec W hv k v q w.id op
  have lp := AHeap.Le.push W1.wf ⟨[[.int .i64 k, .int .i64 w.id, .int .i64 v, .int .i64 q, .string op, .slice none 0 0]], 6, true⟩
  have wp := W1.wf.push ⟨[[.int .i64 k, .int .i64 w.id, .int .i64 v, .int .i64 q, .string op, .slice none 0 0]], 6, true⟩
  refine ⟨_, W.ld rfl (by decide), _, _, A, bs_b (fun e => ?_) (fun e => HQ _ _ ⟨V', w.says, rfl, by unfold voteM; rw [eV]; dsimp only; rw [e]; rfl, W1, M1⟩)⟩
  obtain ⟨S', g2, eS, e6, e7, WS, M2⟩ := W1.say (.refl _) W1.wf (k := k) (f := w.id) (v := v) (q := q) (op := op) (Sn.nil (s := changeSh)) .nil
  exact ⟨_, _, _, W1.ld rfl (by decide), _, W1.ld rfl (by decide), ⟨_, _, _, (W1.grow lp wp).ld rfl (by decide), rfl⟩, _, rowsV_push, rfl, by simp only [List.length_cons, List.length_nil]; omega, _, _, _, g2, e6, _, e7, HQ _ _ ⟨V', S', rfl, by unfold voteM; rw [eV, eS]; dsimp only; rw [e]; rfl, WS, M1.trans W.wf M2⟩⟩
theorem iVote_spec {n0 l : Nat} {g : AHeap} {w : Wk} (W : WkOk n0 l g w) (hv : w.votes.xs.length ≤ 400) (hs : w.says.xs.length ≤ 1000) (k v q : Int) (op : ByteArray) :
    ∃ r g', ACall Tryz.prog 126 [.pointer (some ⟨l, 0, some 0⟩), .int .i64 k, .int .i64 v, .int .i64 q, .string op] g r g' ∧ ∃ (V' : LX voteSh.T) (S' : LX saySh.T), r = .tuple #[] ∧ (V'.xs, S'.xs) = voteM w.id (w.votes.xs, w.says.xs) k v q op ∧ WkOk n0 l g' { w with votes := V', says := S' } ∧ Mv l w { w with votes := V', says := S' } g g' := by
  refine acall_q fun Q HQ => ?_
  refine acall_vc (fun _ => false) (fun _ => []) (fun _ => .none) mixed Tryz.func126 rfl rfl rfl (Nat.le_of_ble_eq_true rfl) (by (refine vc_mp (by kernel_rfl : (Qqm True) = _) ?_; delta Qqm); simp only [and_self]) ?_
  (refine vc_mp (by kernel_rfl : (∃ (x : Int), Qqo g l Qqn [Qqq x] (∃ (x_1 : Bool) (h' : AHeap), ACall Tryz.prog 112 [Qr1 l, Qqu k v q op x] g (Value.bool x_1) h' ∧ bs x_1 (∃ (x : Int), Qqo h' l Qqn [Qqq x] (∃ (h'_1 : AHeap), ACall Tryz.prog 113 [Qr1 l, Qqt (Qr0 k x v q op)] h' Qqv h'_1 ∧ Q Qqv h'_1)) (Q Qqv h'))) = _) ?_; delta Qqn Qqo Qqq Qqt Qqu Qqv Qr0 Qr1)
  obtain ⟨_, g1, A, V', rfl, eV, W1, M1⟩ := iAdd_spec W hv k v q w.id op
  refine ⟨_, W.ld rfl (by decide), _, _, A, bs_b (fun e => ?_) (fun e => HQ _ _ ⟨V', w.says, rfl, by unfold voteM; rw [eV]; dsimp only; rw [e]; rfl, W1, M1⟩)⟩
  obtain ⟨_, g2, A2, S', rfl, eS, W2, M2⟩ := iSend_spec W1 hs k w.id v q op [] none 0 (Sn.nil (s := changeSh)).so.sl ⟨Nat.zero_le _, fun _ h => by cases h⟩
  exact ⟨_, W1.ld rfl (by decide), _, A2, HQ _ _ ⟨V', S', rfl, by unfold voteM; rw [eV, eS]; dsimp only; rw [e]; rfl, W2, M1.trans W.wf M2⟩⟩
end Go.Proofs.YtpgfjadjhliohaaGreat
