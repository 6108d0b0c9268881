/- PH. -/
import Derived.Test.YtpgfjadjhliohaaGreatV18PB
import Derived.Test.YtpgfjadjhliohaaGreatV18P7
namespace Go.Proofs.YtpgfjadjhliohaaGreat
open Go.Abs Go.Dat
set_option maxRecDepth 100000
set_option maxHeartbeats 8000000
theorem hear1 {r : replicaSh.T} {f v q : Int} {op : ByteArray} {cs : List changeSh.T} : hearR r 1 f v q op cs = if ¬ v = r.2.1 ∨ (show Bool from r.2.2.1) = true then .inl 10 else .inr (preR r v q f op) := if_pos rfl
theorem hear23 {r : replicaSh.T} {k f v q : Int} {op : ByteArray} {cs : List changeSh.T} (h : k = 2 ∨ k = 3) : hearR r k f v q op cs = .inr (castR r k v q f op) := by
  unfold hearR
  rw [if_neg (by omega), if_pos h]
theorem hear45 {r : replicaSh.T} {k f v q : Int} {op : ByteArray} {cs : List changeSh.T} (h1 : ¬ k = 1) (h : ¬ (k = 2 ∨ k = 3)) : hearR r k f v q op cs = if v < r.2.1 ∨ (v = r.2.1 ∧ (show Bool from r.2.2.1) = false) then .inl 10 else if k = 4 then (match cs[0]? with
    | some c => chgR (r, []) c
    | none => .inl 10)
  else .inr (entR (r, []) (k, f, v, q, op, cs)) := by
  unfold hearR
  rw [if_neg h1, if_neg h]
  rfl
theorem preR_vote {w : Wk} {v q f : Int} {op : ByteArray} {V V3 : LX voteSh.T} {S3 : LX saySh.T} (eV : V.xs = (addM w.votes.xs (2, v, q, op, f)).1) (hb : (addM w.votes.xs (2, v, q, op, f)).2 = true) (hn : ∀ j, j < V.xs.length → ¬ VoteAt V.xs (2, v, q, ⟨#[]⟩, w.id) j) (e3 : (V3.xs, S3.xs) = voteM w.id (V.xs, []) 2 v q op) :
    preR w.rep v q f op = (({ w with top := (if w.top < q then q else w.top), votes := V3, says := S3 } : Wk).rep, S3.xs) := by
  rw [eV] at hn e3
  have h2 : preS w.rep v q f op = (V3.xs, S3.xs) := (if_pos ⟨hb, hn⟩).trans e3.symm
  unfold preR
  rw [h2]
  rfl
theorem preR_no {w : Wk} {v q f : Int} {op : ByteArray} {V : LX voteSh.T} (es : w.says.xs = []) (eV : V.xs = (addM w.votes.xs (2, v, q, op, f)).1) (hn : ¬ ((addM w.votes.xs (2, v, q, op, f)).2 = true ∧ ∀ j, j < V.xs.length → ¬ VoteAt V.xs (2, v, q, ⟨#[]⟩, w.id) j)) :
    preR w.rep v q f op = (({ w with top := (if w.top < q then q else w.top), votes := V } : Wk).rep, w.says.xs) := by
  rw [eV] at hn
  have h2 : preS w.rep v q f op = (V.xs, w.says.xs) := (if_neg hn).trans (by rw [eV, es]; rfl)
  unfold preR
  rw [h2]
  rfl
theorem chgR_err {x : RS} {c : changeSh.T} {e : Int} (h : chgR x c = .inl e) : e = 9 := by
  unfold chgR at h
  split at h
  · cases h; rfl
  · split at h <;> cases h
theorem _root_.Go.Dat.WkOk.keep {h g g' : AHeap} {l : Nat} {w : Wk} (W : WkOk h.n l g w) (hw : h.wf) (le : h.Le g) (kp : Kp (w.all l) g g') : h.Le g' :=
  ⟨Nat.le_trans le.n kp.n, fun z o ho => kp.get z o (fun hz => by have h1 := W.ge z hz; have h2 := hw.lt ho; omega) (le.get z o ho)⟩
def Qyr (a : Prop) := True ∧ a
def Qys (a : Prop) := Qyr a ∧ True
def Qyt := (0 : Nat)
def Qyu (a : AHeap) (b c : Nat) (d : List Value) (e : Prop) := AHeap.ld a b Qyt c 1 = some d ∧ e
def Qyv (a : Int) := Value.int IntKind.i64 a
def Qyw (a : AHeap) (b : Nat) (c : Int) (d : Bool) (e f : Prop) := Qyu a b 1 [Qyv c] (bs d e f)
def Qyx := (0 : Int)
def Qyy := Qyv Qyx
def Qyz (a : FuncId) (b : List Value) (c : AHeap) (d : Value) (e : AHeap) := ACall Tryz.prog a b c d e
def Qz0 (a : FuncId) (b : List Value) (c d : AHeap) := Qyz a b c (Value.tuple (Array.mk List.nil)) d
def Qz1 (a : List Value) := Value.agg (Array.mk a)
def Qz2 (a : Nat) := Value.pointer (some (Addr.mk a Qyt (some Qyt)))
def Qz3 (a : Nat) (b : Value) (c d : Int) (e : ByteArray) (f : Int) (g : AHeap) (h : Bool) (i : AHeap) (j : Prop) := Qyz 112 [Qz2 a, Qz1 [b, Qyv c, Qyv d, Value.string e, Qyv f]] g (Value.bool h) i ∧ j
def Qz4 (a : AHeap) (b : Nat) (c : Int) (d : Prop) := Qyu a b Qyt [Qyv c] d
def Qz5 (a : Int) (b : Prop) := Qyv a = Qyv a ∧ b
def Qz6 (a : AHeap) (b : Nat) (c : Int) (d : Prop) := Qyu a b 3 [Qyv c] d
def Qz7 (a : AHeap) (b : Nat) (c : Int) (d : AHeap) (e : Prop) := AHeap.wr a b Qyt 3 [Qyv c] = some d ∧ e
def Qz8 := Qyv 2
def Qz9 (a : Nat) (b c : Int) (d : ByteArray) (e f : AHeap) := Qz0 126 [Qz2 a, Qz8, Qyv b, Qyv c, Value.string d] e f
def Qza (a b c : Int) := Qz1 [Qz8, Qyv a, Qyv b, Value.string (ByteArray.mk (Array.mk List.nil)), Qyv c]
def Qzb := Qyv 10
theorem iHear_spec {h g : AHeap} {l : Nat} {w : Wk} (hw : h.wf) (W : WkOk h.n l g w) (le : h.Le g) (R : ROk 1000 0 (w.rep, w.says.xs)) (k f v q : Int) (op : ByteArray) (cs : List changeSh.T) (a : Option Addr) (c : Nat) (hx : Sl h changeSh cs (.slice a cs.length c)) (H : SayOk k f v q op cs) (ok : saySh.ok (k, f, v, q, op, cs)) (sm : (Sh.sl changeSh).small cs) :
    ∃ r g', ACall Tryz.prog 70 [.pointer (some ⟨l, 0, some 0⟩), .agg #[.int .i64 k, .int .i64 f, .int .i64 v, .int .i64 q, .string op, .slice a cs.length c]] g r g' ∧ ∃ w', WkOk h.n l g' w' ∧ Mv l w w' g g' ∧ ((∃ e, hearR w.rep k f v q op cs = .inl e ∧ r = .int .i64 e ∧ ¬ e = 0) ∨ (hearR w.rep k f v q op cs = .inr (w'.rep, w'.says.xs) ∧ r = .int .i64 0)) := by
  have es : w.says.xs = [] := List.eq_nil_of_length_eq_zero (Nat.le_zero.1 R.vs.n)
  have nv : w.votes.xs.length ≤ 400 := R.vs.H.1
  have hid : InR 0 3 w.id := R.id
  refine acall_q fun Q HQ => ?_
  refine acall_vc (fun _ => false) (fun r => match r with | 1 => [(0, 0, []), (2, 0, []), (3, 0, []), (4, 0, []), (5, 0, []), (1, 1, []), (6, 1, []), (7, 0, []), (8, 0, []), (9, 0, []), (11, 0, []), (12, 0, []), (13, 0, []), (14, 0, []), (10, 1, []), (15, 1, []), (16, 0, []), (17, 0, []), (18, 0, []), (19, 0, []), (20, 0, []), (21, 0, []), (22, 1, []), (23, 0, []), (24, 0, []), (25, 0, []), (26, 0, [])] | 7 => [(0, 0, []), (2, 0, []), (3, 0, []), (4, 0, []), (5, 0, []), (1, 1, []), (6, 1, []), (7, 0, []), (8, 0, []), (9, 0, []), (10, 0, []), (11, 0, []), (12, 0, []), (13, 1, []), (14, 0, [])] | 9 => [(0, 0, []), (2, 0, []), (4, 0, []), (5, 0, []), (6, 0, []), (7, 0, []), (1, 1, []), (3, 1, []), (8, 1, []), (9, 0, []), (10, 3, [1, 3, 8]), (11, 3, [])] | 10 => [(0, 0, []), (1, 0, []), (3, 0, []), (5, 0, []), (7, 0, []), (2, 1, []), (4, 1, []), (6, 1, []), (8, 1, []), (9, 0, []), (10, 3, []), (11, 0, []), (12, 0, []), (13, 0, []), (14, 0, []), (15, 0, []), (16, 1, []), (17, 1, []), (18, 3, []), (19, 0, []), (20, 0, [])] | 12 => [(0, 0, []), (1, 0, []), (2, 0, []), (3, 0, []), (4, 0, []), (6, 0, []), (5, 1, []), (7, 1, []), (8, 0, []), (9, 0, []), (10, 0, []), (11, 0, []), (12, 3, [])] | _ => []) (fun _ => .none) mixed Tryz.func70 rfl rfl rfl (Nat.le_of_ble_eq_true rfl) (by (refine vc_mp (by kernel_rfl : (Qyr (Qyr (Qyr (Qyr ((Qyr (Qys True) ∧ Qyr (Qys (Qyr True))) ∧ Qyr (Qyr True) ∧ Qyr (Qyr ((Qyr (Qys True) ∧ Qyr True) ∧ Qys (Qys True))))) ∧ Qyr True))) = _) ?_; delta Qyr Qys); simp only [and_self]) ?_
  (refine vc_mp (by kernel_rfl : (∃ (x : Int), Qyw g l x (decide (v < x)) (bs (decide (k = 1)) (∃ (x : Int), Qyw g l x (not (decide (v = x))) (Q Qzb g) (∃ (x : Bool), Qyu g l 2 [Value.bool x] (bs x (Q Qzb g) (∃ (x : Int), Qz4 g l x ((∃ (x_1 : Int), Qz4 g l x_1 (Qyv x_1 = Qyv x)) ∧ Qz5 q (Qz5 v (∃ (x_1 : Bool) (h' : AHeap), Qz3 l Qz8 v q op f g x_1 h' (bs x_1 (∃ (a : Option Addr) (n c : Nat), Qyu h' l 4 [Value.slice a n c] (∃ (x_2 : Int) (h'_1 : AHeap), Qyz 125 [Value.slice a n c, Qza v q x] h' (Qyv x_2) h'_1 ∧ bs (decide (x_2 < Qyx)) (∃ (h' : AHeap), Qz9 l v q op h'_1 h' ∧ (∃ (x : Int), Qz6 h' l x (∃ (h'_2 : AHeap), Qz7 h' l (ite (q > x) q x) h'_2 (Q Qyy h'_2)))) (∃ (x : Int), Qz6 h'_1 l x (∃ (h' : AHeap), Qz7 h'_1 l (ite (q > x) q x) h' (Q Qyy h'))))) (∃ (x : Int), Qz6 h' l x (∃ (h'_1 : AHeap), Qz7 h' l (ite (q > x) q x) h'_1 (Q Qyy h'_1))))))))))) (bs (decide (k = 2)) (∃ (x : Bool) (h' : AHeap), Qz3 l (Qyv k) v q op f g x h' (Q Qyy h')) (bs (decide (k = 3)) (∃ (x : Bool) (h' : AHeap), Qz3 l (Qyv k) v q op f g x h' (Q Qyy h')) (bs (decide (k = 4)) (Q Qzb g) (Q Qzb g))))) (∃ (x : Int), Qyw g l x (decide (v = x)) (∃ (x : Bool), Qyu g l 2 [Value.bool x] (bs (decide (k = 1)) (∃ (x : Int), Qyw g l x (not (decide (v = x))) (Q Qzb g) (∃ (x : Bool), Qyu g l 2 [Value.bool x] (bs x (Q Qzb g) (∃ (x : Int), Qz4 g l x ((∃ (x_1 : Int), Qz4 g l x_1 (Qyv x_1 = Qyv x)) ∧ Qz5 q (Qz5 v (∃ (x_1 : Bool) (h' : AHeap), Qz3 l Qz8 v q op f g x_1 h' (bs x_1 (∃ (a : Option Addr) (n c : Nat), Qyu h' l 4 [Value.slice a n c] (∃ (x_2 : Int) (h'_1 : AHeap), Qyz 125 [Value.slice a n c, Qza v q x] h' (Qyv x_2) h'_1 ∧ bs (decide (x_2 < Qyx)) (∃ (h' : AHeap), Qz9 l v q op h'_1 h' ∧ (∃ (x : Int), Qz6 h' l x (∃ (h'_2 : AHeap), Qz7 h' l (ite (q > x) q x) h'_2 (Q Qyy h'_2)))) (∃ (x : Int), Qz6 h'_1 l x (∃ (h' : AHeap), Qz7 h'_1 l (ite (q > x) q x) h' (Q Qyy h'))))) (∃ (x : Int), Qz6 h' l x (∃ (h'_1 : AHeap), Qz7 h' l (ite (q > x) q x) h'_1 (Q Qyy h'_1))))))))))) (bs (decide (k = 2)) (∃ (x : Bool) (h' : AHeap), Qz3 l (Qyv k) v q op f g x h' (Q Qyy h')) (bs (decide (k = 3)) (∃ (x : Bool) (h' : AHeap), Qz3 l (Qyv k) v q op f g x h' (Q Qyy h')) (bs (decide (k = 4)) (bs (not x) (Q Qzb g) (∃ (l_1 r : Nat), a = some (Addr.mk l_1 r (some 3)) ∧ Qyx ≤ Qyx ∧ Qyx < (↑(List.length cs) : Int) ∧ (∃ (x x_1 : Int) (a : Option Addr) (n c : Nat), AHeap.ld g l_1 (r + Int.toNat Qyx) Qyt 3 = some [Qyv x, Qyv x_1, Value.slice a n c] ∧ (∃ (x_2 : Int) (h' : AHeap), Qyz 127 [Qz2 l, Qz1 [Qyv x, Qyv x_1, Value.slice a n c]] g (Qyv x_2) h' ∧ Q (Qyv x_2) h')))) (bs (not x) (Q Qzb g) (∃ (h' : AHeap), Qz0 128 [Qz2 l, Qz1 [Qyv k, Qyv f, Qyv v, Qyv q, Value.string op, Value.slice a (List.length cs) c]] g h' ∧ Q Qyy h'))))))) (bs (decide (k = 1)) (∃ (x : Int), Qyw g l x (not (decide (v = x))) (Q Qzb g) (∃ (x : Bool), Qyu g l 2 [Value.bool x] (bs x (Q Qzb g) (∃ (x : Int), Qz4 g l x ((∃ (x_1 : Int), Qz4 g l x_1 (Qyv x_1 = Qyv x)) ∧ Qz5 q (Qz5 v (∃ (x_1 : Bool) (h' : AHeap), Qz3 l Qz8 v q op f g x_1 h' (bs x_1 (∃ (a : Option Addr) (n c : Nat), Qyu h' l 4 [Value.slice a n c] (∃ (x_2 : Int) (h'_1 : AHeap), Qyz 125 [Value.slice a n c, Qza v q x] h' (Qyv x_2) h'_1 ∧ bs (decide (x_2 < Qyx)) (∃ (h' : AHeap), Qz9 l v q op h'_1 h' ∧ (∃ (x : Int), Qz6 h' l x (∃ (h'_2 : AHeap), Qz7 h' l (ite (q > x) q x) h'_2 (Q Qyy h'_2)))) (∃ (x : Int), Qz6 h'_1 l x (∃ (h' : AHeap), Qz7 h'_1 l (ite (q > x) q x) h' (Q Qyy h'))))) (∃ (x : Int), Qz6 h' l x (∃ (h'_1 : AHeap), Qz7 h' l (ite (q > x) q x) h'_1 (Q Qyy h'_1))))))))))) (bs (decide (k = 2)) (∃ (x : Bool) (h' : AHeap), Qz3 l (Qyv k) v q op f g x h' (Q Qyy h')) (bs (decide (k = 3)) (∃ (x : Bool) (h' : AHeap), Qz3 l (Qyv k) v q op f g x h' (Q Qyy h')) (bs (decide (k = 4)) (∃ (l_1 r : Nat), a = some (Addr.mk l_1 r (some 3)) ∧ Qyx ≤ Qyx ∧ Qyx < (↑(List.length cs) : Int) ∧ (∃ (x x_1 : Int) (a : Option Addr) (n c : Nat), AHeap.ld g l_1 (r + Int.toNat Qyx) Qyt 3 = some [Qyv x, Qyv x_1, Value.slice a n c] ∧ (∃ (x_2 : Int) (h' : AHeap), Qyz 127 [Qz2 l, Qz1 [Qyv x, Qyv x_1, Value.slice a n c]] g (Qyv x_2) h' ∧ Q (Qyv x_2) h'))) (∃ (h' : AHeap), Qz0 128 [Qz2 l, Qz1 [Qyv k, Qyv f, Qyv v, Qyv q, Value.string op, Value.slice a (List.length cs) c]] g h' ∧ Q Qyy h'))))))) = _) ?_; delta Qyt Qyu Qyv Qyw Qyx Qyy Qyz Qz0 Qz1 Qz2 Qz3 Qz4 Qz5 Qz6 Qz7 Qz8 Qz9 Qza Qzb)
  have fin : ∀ {e : Int}, hearR w.rep k f v q op cs = .inl e → ¬ e = 0 → Q (.int .i64 e) g := fun he hne => HQ _ _ ⟨w, W, .of_le (.refl _), .inl ⟨_, he, rfl, hne⟩⟩
  by_cases hk : k = 1
  · subst hk
    have h1 := hear1 (r := w.rep) (f := f) (v := v) (q := q) (op := op) (cs := cs)
    obtain ⟨_, hq, ho, _, _⟩ : InR 1 3 1 ∧ InR 1 6 q ∧ op.size ≤ 120 ∧ cs.length = 0 ∧ ((1 : Int) = 1 → f = v % 4) := by
      rcases H.2.2.2 with h | h | h
      · exact h
      · omega
      · omega
    obtain ⟨_, g1, A1, V1, rfl, eV1, W1, M1⟩ := iAdd_spec W nv 2 v q f op
    have HV : VotsOk V1.xs := by rw [eV1]; exact addM_ok R.vs.H ⟨.inl rfl, H.2.1, hq, ho, H.1⟩
    have l1 := HV.1
    obtain ⟨_, g3, A3, le3, w3, ix, rfl, hix⟩ := voteIndex_spec g1 W1.wf V1.a V1.c V1.xs 2 v q w.id ⟨#[]⟩ W1.V.sn.so.sl (by omega)
    have W3 := W1.grow le3 w3
    obtain ⟨_, g4, A4, V4, S4, rfl, e4, W4, M4⟩ := iVote_spec W3 l1 (by rw [es]; exact Nat.zero_le _) 2 v q op
    have W4 : WkOk h.n l g4 { w with votes := V4, says := S4 } := W4
    have W3 : WkOk h.n l g3 { w with votes := V1 } := W3
    have W1 : WkOk h.n l g1 { w with votes := V1 } := W1
    have T4 := W4.num w.view w.chg (if w.top < q then q else w.top)
    have T3 := W3.num w.view w.chg (if w.top < q then q else w.top)
    have T1 := W1.num w.view w.chg (if w.top < q then q else w.top)
    have M3 := M1.trans W.wf (.of_le le3)
    have ok1 : ∀ {gg : AHeap} {ww : Wk}, WkOk h.n l gg ww → Mv l w ww g gg → v = w.view → w.chg = false → preR w.rep v q f op = (ww.rep, ww.says.xs) → Q (.int .i64 0) gg := fun hW hM e1 e2 e3 => HQ _ _ ⟨_, hW, hM, .inr ⟨h1.trans ((if_neg (fun hc => hc.elim (fun h => h e1) fun h => by rw [show w.chg = true from h] at e2; cases e2)).trans (congrArg Sum.inr e3)), rfl⟩⟩
    refine ⟨_, W.ld (i := 1) (n := 1) rfl (by decide), bs_d (fun _ => bs_d (fun _ => ?_) (fun h => absurd rfl h)) (fun _ => ⟨_, W.ld (i := 1) (n := 1) rfl (by decide), bs_d (fun _ => ⟨_, W.ld (i := 2) (n := 1) rfl (by decide), bs_d (fun _ => ?_) (fun h => absurd rfl h)⟩) (fun _ => bs_d (fun _ => ?_) (fun h => absurd rfl h))⟩)⟩
    all_goals
      refine ⟨_, W.ld (i := 1) (n := 1) rfl (by decide), bs_dn (fun hv => fin (h1.trans (if_pos (.inl hv))) (by decide)) (fun hv => ⟨_, W.ld (i := 2) (n := 1) rfl (by decide), bs_b (fun hc => fin (h1.trans (if_pos (.inr hc))) (by decide)) (fun hc => ?_)⟩)⟩
      refine ⟨_, W.ld (i := 0) (n := 1) rfl (by decide), ⟨_, W.ld (i := 0) (n := 1) rfl (by decide), rfl⟩, rfl, rfl, _, _, A1, bs_b (fun hb => ⟨_, _, _, W1.ld (i := 4) (n := 1) rfl (by decide), _, _, A3, bs_d (fun hi => ?_) (fun hi => ?_)⟩) (fun hb => ?_)⟩
      · exact ⟨_, A4, _, W4.ld (i := 3) (n := 1) rfl (by decide), _, wk_wr W4.obj rfl (by simp), ok1 (ww := { w with top := (if w.top < q then q else w.top), votes := V4, says := S4 }) T4 ((M3.trans W.wf M4).trans W.wf (Mv.num (w := { w with votes := V4, says := S4 }) (w' := { w with top := (if w.top < q then q else w.top), votes := V4, says := S4 }) rfl _)) hv hc (preR_vote eV1 hb (hix.none.1 hi) (by rw [e4]; show voteM w.id (V1.xs, w.says.xs) 2 v q op = _; rw [es]))⟩
      · exact ⟨_, W3.ld (i := 3) (n := 1) rfl (by decide), _, wk_wr W3.obj rfl (by simp), ok1 (ww := { w with top := (if w.top < q then q else w.top), votes := V1 }) T3 (M3.trans W.wf (Mv.num (w := { w with votes := V1 }) (w' := { w with top := (if w.top < q then q else w.top), votes := V1 }) rfl _)) hv hc (preR_no es eV1 fun h => hi (hix.none.2 h.2))⟩
      · exact ⟨_, W1.ld (i := 3) (n := 1) rfl (by decide), _, wk_wr W1.obj rfl (by simp), ok1 (ww := { w with top := (if w.top < q then q else w.top), votes := V1 }) T1 (M1.trans W.wf (Mv.num (w := { w with votes := V1 }) (w' := { w with top := (if w.top < q then q else w.top), votes := V1 }) rfl _)) hv hc (preR_no es eV1 fun h => by rw [h.1] at hb; cases hb)⟩
  by_cases hk23 : k = 2 ∨ k = 3
  · obtain ⟨_, g1, A1, V1, rfl, eV1, W1, M1⟩ := iAdd_spec W nv k v q f op
    have q1 : Q (.int .i64 0) g1 := HQ _ _ ⟨_, W1, M1, .inr ⟨(hear23 hk23).trans (congrArg Sum.inr (by unfold castR; show ((w.id, w.view, w.chg, w.top, (addM w.votes.xs (k, v, q, op, f)).1, _), _) = (_, w.says.xs); rw [← show V1.xs = (addM w.votes.xs (k, v, q, op, f)).1 from eV1, es]; rfl)), rfl⟩⟩
    refine ⟨_, W.ld (i := 1) (n := 1) rfl (by decide), bs_d (fun _ => bs_d (fun h => absurd h hk) (fun _ => ?_)) (fun _ => ⟨_, W.ld (i := 1) (n := 1) rfl (by decide), bs_d (fun _ => ⟨_, W.ld (i := 2) (n := 1) rfl (by decide), bs_d (fun h => absurd h hk) (fun _ => ?_)⟩) (fun _ => bs_d (fun h => absurd h hk) (fun _ => ?_))⟩)⟩
    all_goals exact bs_d (fun _ => ⟨_, _, A1, q1⟩) (fun h2 => bs_d (fun _ => ⟨_, _, A1, q1⟩) (fun h3 => absurd hk23 fun h => h.elim h2 h3))
  have n2 : ¬ k = 2 := fun h => hk23 (.inl h)
  have n3 : ¬ k = 3 := fun h => hk23 (.inr h)
  have h45 := hear45 (r := w.rep) (f := f) (v := v) (q := q) (op := op) (cs := cs) hk hk23
  by_cases hl : v < w.view ∨ (v = w.view ∧ w.chg = false)
  · have q10 := fin (h45.trans (if_pos hl)) (by decide)
    refine ⟨_, W.ld (i := 1) (n := 1) rfl (by decide), bs_d (fun _ => bs_d (fun h => absurd h hk) (fun _ => bs_d (fun h => absurd h n2) (fun _ => bs_d (fun h => absurd h n3) (fun _ => bs_d (fun _ => q10) (fun _ => q10))))) (fun e1 => ⟨_, W.ld (i := 1) (n := 1) rfl (by decide), bs_d (fun e2 => ⟨_, W.ld (i := 2) (n := 1) rfl (by decide), bs_d (fun h => absurd h hk) (fun _ => bs_d (fun h => absurd h n2) (fun _ => bs_d (fun h => absurd h n3) (fun _ => ?_)))⟩) (fun e2 => absurd hl fun h => h.elim e1 fun h => e2 h.1)⟩)⟩
    have hc : w.chg = false := hl.elim (fun h => absurd h e1) (fun h => h.2)
    rw [hc]
    exact bs_d (fun _ => q10) (fun _ => q10)
  replace h45 := h45.trans (if_neg hl)
  have CH : k = 4 → ∃ (lo r : Nat) (x x1 : Int) (a3 : Option Addr) (n3 c3 : Nat), a = some ⟨lo, r, some 3⟩ ∧ (0 : Int) < cs.length ∧ g.ld lo (r + Int.toNat 0) 0 3 = some [.int .i64 x, .int .i64 x1, .slice a3 n3 c3] ∧ ∃ (x2 : Int) (h' : AHeap), ACall Tryz.prog 127 [.pointer (some ⟨l, 0, some 0⟩), .agg #[.int .i64 x, .int .i64 x1, .slice a3 n3 c3]] g (.int .i64 x2) h' ∧ Q (.int .i64 x2) h' := fun hk4 => by
    have hl1 : cs.length = 1 := by
      rcases H.2.2.2 with h | h | h
      · exact absurd h.1 (by unfold InR; omega)
      · exact h.2.2.2.2.1
      · omega
    obtain ⟨⟨cf, cv, ps⟩, hat⟩ : ∃ y : Int × Int × List proofSh.T, cs[0]? = some y := ⟨_, List.getElem?_eq_getElem (by omega)⟩
    obtain ⟨lo, r, row, ha, _, hrd, hld⟩ := hx.elem hat
    obtain ⟨v1, rfl, s1⟩ := rd_change.1 hrd
    obtain ⟨a3, c3, rfl⟩ := s1.isSlice
    dsimp only at hld s1
    have hcg := (Asc.mem H.2.2.1 (List.mem_of_getElem? hat)).1
    obtain ⟨_, g5, A5, w', W5, M5, hr⟩ := iChange_spec W R (by decide) cf cv ps a3 c3 (chgOk_cgw hcg) ⟨Int.le_trans (by decide) hcg.2.1.1, hcg.2.1.2⟩ (fun g' kp => s1.mono (W.keep hw le kp))
    rw [if_pos hk4, hat] at h45
    rw [es] at hr
    rcases hr with ⟨e, he, rfl, hne⟩ | ⟨he, rfl⟩
    · exact ⟨lo, r, cf, cv, a3, _, c3, ha, by omega, le.ld hld, _, _, A5, HQ _ _ ⟨w', W5, M5, .inl ⟨e, h45.trans he, rfl, hne⟩⟩⟩
    · exact ⟨lo, r, cf, cv, a3, _, c3, ha, by omega, le.ld hld, _, _, A5, HQ _ _ ⟨w', W5, M5, .inr ⟨h45.trans he, rfl⟩⟩⟩
  have EN : ¬ k = 4 → ∃ h', ACall Tryz.prog 128 [.pointer (some ⟨l, 0, some 0⟩), .agg #[.int .i64 k, .int .i64 f, .int .i64 v, .int .i64 q, .string op, .slice a cs.length c]] g (.tuple #[]) h' ∧ Q (.int .i64 0) h' := fun hk4 => by
    obtain ⟨_, g5, A5, rfl, w', W5, M5, e5⟩ := iEnter_spec W R.vs (by decide) hid k f v q op cs a c (fun g' kp => hx.mono (W.keep hw le kp)) (sayOk_nsay H ok) (Nat.le_trans H.2.2.1.len (by decide)) sm (fun c hc => Nat.le_trans (ChgOk.len (Asc.mem H.2.2.1 hc).1) (by decide))
    rw [if_neg hk4] at h45
    exact ⟨g5, A5, HQ _ _ ⟨w', W5, M5, .inr ⟨h45.trans (congrArg Sum.inr (by rw [e5, es])), rfl⟩⟩⟩
  refine ⟨_, W.ld (i := 1) (n := 1) rfl (by decide), bs_d (fun e1 => absurd (.inl e1) hl) (fun e1 => ⟨_, W.ld (i := 1) (n := 1) rfl (by decide), bs_d (fun e2 => ⟨_, W.ld (i := 2) (n := 1) rfl (by decide), bs_d (fun h => absurd h hk) (fun _ => bs_d (fun h => absurd h n2) (fun _ => bs_d (fun h => absurd h n3) (fun _ => ?_)))⟩) (fun e2 => bs_d (fun h => absurd h hk) (fun _ => bs_d (fun h => absurd h n2) (fun _ => bs_d (fun h => absurd h n3) (fun _ => ?_))))⟩)⟩
  · refine bs_d (fun hk4 => bs_nb (fun hc => absurd (.inr ⟨e2, hc⟩) hl) (fun _ => ?_)) (fun hk4 => bs_nb (fun hc => absurd (.inr ⟨e2, hc⟩) hl) (fun _ => EN hk4))
    obtain ⟨lo, r, x, x1, a3, m3, c3, ha, hlt, hld, x2, h', A, q⟩ := CH hk4
    exact ⟨lo, r, ha, Int.le_refl _, hlt, _, _, _, _, _, hld, _, _, A, q⟩
  · refine bs_d (fun hk4 => ?_) (fun hk4 => EN hk4)
    obtain ⟨lo, r, x, x1, a3, m3, c3, ha, hlt, hld, x2, h', A, q⟩ := CH hk4
    exact ⟨lo, r, ha, Int.le_refl _, hlt, _, _, _, _, _, hld, _, _, A, q⟩
end Go.Proofs.YtpgfjadjhliohaaGreat
