/- P7. -/
import Derived.Test.YtpgfjadjhliohaaGreatV17P6
import Derived.Test.YtpgfjadjhliohaaGreatV17P4
namespace Go.Proofs.YtpgfjadjhliohaaGreat
open Go.Abs Go.Dat
set_option maxRecDepth 100000
set_option maxHeartbeats 8000000
noncomputable def askR (r : replicaSh.T) (op : ByteArray) : replicaSh.T := (r.1, r.2.1, r.2.2.1, (show Int from r.2.2.2.1) + 1, (addM r.2.2.2.2.1 (2, r.2.1, (show Int from r.2.2.2.1) + 1, op, r.1)).1, r.2.2.2.2.2)
open Classical in
noncomputable def askM (r : replicaSh.T) (op : ByteArray) : replicaOutSh.T :=
  if 20000 < op.size then illM 2 else if ¬ (RepOk r ∧ op.size ≤ 120 ∧ ¬ op = ⟨#[]⟩) then illM 1
  else if ¬ askCode r.1 r.2.1 r.2.2.2.1 r.2.2.1 r.2.2.2.2.1 r.2.2.2.2.2.2.2 op = 0 then illM (askCode r.1 r.2.1 r.2.2.2.1 r.2.2.1 r.2.2.2.2.1 r.2.2.2.2.2.2.2 op)
  else goM (askR r op) [(1, r.1, r.2.1, (show Int from r.2.2.2.1) + 1, op, [])]
theorem CopyOk.wk {h g : AHeap} {vs : List voteSh.T} {cg cs : List changeSh.T} {log : List Sh.str.T} {V : LX voteSh.T} {C N : LX changeSh.T} {L : LX Sh.str.T} (X : CopyOk h g vs cg cs log V C N L) (id view top k f v q : Int) (chg : Bool) (op : ByteArray) :
    WkOk h.n g.n (g.push ⟨[(⟨id, view, chg, top, V, C, k, f, v, q, op, N, L, ⟨none, 0, [], []⟩⟩ : Wk).row], 14, true⟩) ⟨id, view, chg, top, V, C, k, f, v, q, op, N, L, ⟨none, 0, [], []⟩⟩ := by
  obtain ⟨le, wf, _, _, _, _, bV, bC, bN, bL, dj⟩ := X
  have lp := AHeap.Le.push wf ⟨[(⟨id, view, chg, top, V, C, k, f, v, q, op, N, L, ⟨none, 0, [], []⟩⟩ : Wk).row], 14, true⟩
  have wp := wf.push ⟨[(⟨id, view, chg, top, V, C, k, f, v, q, op, N, L, ⟨none, 0, [], []⟩⟩ : Wk).row], 14, true⟩
  exact ⟨wp, AHeap.get_push_eq, le.n, bV.kp (J := []) (.of_le lp) wp (by simp), bC.kp (J := []) (.of_le lp) wp (by simp), bN.kp (J := []) (.of_le lp) (by simp), bL.kp (J := []) (.of_le lp) wp (by simp), SoB.new wp (Nat.le_trans le.n lp.n), dj g.n (.inr (Nat.le_refl _))⟩
theorem askCode_top {id view top : Int} {chg : Bool} {vs : List voteSh.T} {log : List Sh.str.T} {op : ByteArray} (h : askCode id view top chg vs log op = 0) : ¬ top = 6 := fun e => by
  unfold askCode at h
  split at h
  · cases h
  split at h
  · cases h
  exact absurd h (by decide)
theorem askM_size {r : replicaSh.T} {op : ByteArray} (h : 20000 < op.size) : askM r op = illM 2 := if_pos h
theorem askM_form {r : replicaSh.T} {op : ByteArray} (h : ¬ 20000 < op.size) (h2 : ¬ (RepOk r ∧ op.size ≤ 120 ∧ ¬ op = ⟨#[]⟩)) : askM r op = illM 1 := by unfold askM; rw [if_neg h, if_pos h2]
theorem askM_at {r : replicaSh.T} {op : ByteArray} (h : ¬ 20000 < op.size) (h2 : RepOk r ∧ op.size ≤ 120 ∧ ¬ op = ⟨#[]⟩) : askM r op = if ¬ askCode r.1 r.2.1 r.2.2.2.1 r.2.2.1 r.2.2.2.2.1 r.2.2.2.2.2.2.2 op = 0 then illM (askCode r.1 r.2.1 r.2.2.2.1 r.2.2.1 r.2.2.2.2.1 r.2.2.2.2.2.2.2 op) else goM (askR r op) [(1, r.1, r.2.1, (show Int from r.2.2.2.1) + 1, op, [])] := by unfold askM; rw [if_neg h, if_neg (fun h => h h2)]
def Qoq := True ∧ True ∧ True
def Qor (a : List Value) := Value.agg (Array.mk a)
def Qos (a : Int) := Value.int IntKind.i64 a
def Qot := (0 : Nat)
def Qou := Value.slice none Qot Qot
def Qov := ByteArray.mk (Array.mk List.nil)
def Qow := Qos 0
def Qox := Qos (Int.ofNat Qot)
def Qoy (a : Value) := Qor [Qox, Qox, Value.bool false, Qox, Qou, Qou, Qox, Qox, Qox, Qox, Value.string Qov, Qou, Qou, Qou, a]
theorem l13Ill_spec (h : AHeap) (c : Int) : ACall Tryz.prog 49 [.int .i64 c] h (.agg #[.int .i64 0, .int .i64 0, .bool false, .int .i64 0, .slice none 0 0, .slice none 0 0, .int .i64 0, .int .i64 0, .int .i64 0, .int .i64 0, .string ⟨#[]⟩, .slice none 0 0, .slice none 0 0, .slice none 0 0, .int .i64 c]) h := by
  refine acall_out (acall_vc (fun _ => false) (fun _ => []) (fun _ => .none) mixed Tryz.func49 rfl rfl rfl (Nat.le_of_ble_eq_true rfl) (by (refine vc_mp (by kernel_rfl : (Qoq) = _) ?_; delta Qoq); simp only [and_self]) ?_)
  (refine vc_mp (by kernel_rfl : (Qoy (Qos c) = Qor [Qow, Qow, Value.bool false, Qow, Qou, Qou, Qow, Qow, Qow, Qow, Value.string Qov, Qou, Qou, Qou, Qos c] ∧ h = h) = _) ?_; delta Qor Qos Qot Qou Qov Qow Qox Qoy)
  exact ⟨rfl, rfl⟩
def Qoz (a : Option (List Value)) (b : List Value) (c : Prop) := a = some b ∧ c
def Qp0 (a b : Int) (c : Bool) (d : Int) (e : Option Addr) (f g : Nat) (h : Option Addr) (i j : Nat) (k l m n : Int) (o : ByteArray) (p : Option Addr) (q r : Nat) (s : Option Addr) (t u : Nat) (v w : Value) := Qor [Qos a, Qos b, Value.bool c, Qos d, Value.slice e f g, Value.slice h i j, Qos k, Qos l, Qos m, Qos n, Value.string o, Value.slice p q r, Value.slice s t u, v, w]
def Qp1 (a : AHeap) (b c : Nat) := AHeap.ld a b Qot c 1
def Qp2 (a b : Int) (c : Bool) (d : Int) (e : Option Addr) (f g : Nat) (h : Option Addr) (i j : Nat) (k l m n : Int) (o : ByteArray) (p : Option Addr) (q r : Nat) (s : Option Addr) (t u : Nat) := [Qos a, Qos b, Value.bool c, Qos d, Value.slice e f g, Value.slice h i j, Qos k, Qos l, Qos m, Qos n, Value.string o, Value.slice p q r, Value.slice s t u]
theorem out_spec {n0 l : Nat} {g : AHeap} {w : Wk} (W : WkOk n0 l g w) : ACall Tryz.prog 55 [.pointer (some ⟨l, 0, some 0⟩)] g (.agg #[.int .i64 w.id, .int .i64 w.view, .bool w.chg, .int .i64 w.top, .slice w.votes.a w.votes.xs.length w.votes.c, .slice w.changes.a w.changes.xs.length w.changes.c, .int .i64 w.nk, .int .i64 w.nf, .int .i64 w.nv, .int .i64 w.nq, .string w.nop, .slice w.nch.a w.nch.xs.length w.nch.c, .slice w.log.a w.log.xs.length w.log.c, .slice w.says.a w.says.xs.length w.says.c, .int .i64 0]) g := by
  refine acall_out (acall_vc (fun _ => false) (fun r => match r with | 1 => [(0, 0, []), (1, 0, []), (2, 0, []), (4, 0, []), (5, 0, []), (6, 0, []), (3, 1, []), (7, 1, []), (8, 0, []), (9, 3, [])] | _ => []) (fun _ => .none) mixed Tryz.func55 rfl rfl rfl (Nat.le_of_ble_eq_true rfl) (by (refine vc_mp (by kernel_rfl : (Qoq) = _) ?_; delta Qoq); simp only [and_self]) ?_)
  (refine vc_mp (by kernel_rfl : (∃ (x x_1 : Int) (x_2 : Bool) (x_3 : Int) (a : Option Addr) (n c : Nat) (a_1 : Option Addr) (n_1 c_1 : Nat) (x_4 x_5 x_6 x_7 : Int) (x_8 : ByteArray) (a_2 : Option Addr) (n_2 c_2 : Nat) (a_3 : Option Addr) (n_3 c_3 : Nat), Qoz (AHeap.ld g l Qot Qot 13) (Qp2 x x_1 x_2 x_3 a n c a_1 n_1 c_1 x_4 x_5 x_6 x_7 x_8 a_2 n_2 c_2 a_3 n_3 c_3) (∃ (a_4 : Option Addr) (n_4 c_4 : Nat), Qoz (Qp1 g l 13) [Value.slice a_4 n_4 c_4] (Qp0 x x_1 x_2 x_3 a n c a_1 n_1 c_1 x_4 x_5 x_6 x_7 x_8 a_2 n_2 c_2 a_3 n_3 c_3 (Value.slice a_4 n_4 c_4) Qox = Qp0 (Wk.id w) (Wk.view w) (Wk.chg w) (Wk.top w) (LX.a (Wk.votes w)) (List.length (LX.xs (Wk.votes w))) (LX.c (Wk.votes w)) (LX.a (Wk.changes w)) (List.length (LX.xs (Wk.changes w))) (LX.c (Wk.changes w)) (Wk.nk w) (Wk.nf w) (Wk.nv w) (Wk.nq w) (Wk.nop w) (LX.a (Wk.nch w)) (List.length (LX.xs (Wk.nch w))) (LX.c (Wk.nch w)) (LX.a (Wk.log w)) (List.length (LX.xs (Wk.log w))) (LX.c (Wk.log w)) (Value.slice (LX.a (Wk.says w)) (List.length (LX.xs (Wk.says w))) (LX.c (Wk.says w))) (Qos 0) ∧ g = g))) = _) ?_; delta Qor Qos Qot Qox Qoz Qp0 Qp1 Qp2)
  exact ⟨_, _, _, _, _, _, _, _, _, _, _, _, _, _, _, _, _, _, _, _, _, W.ld (i := 0) (n := 13) rfl (by decide), _, _, _, W.ld (i := 13) (n := 1) rfl (by decide), rfl, rfl⟩
theorem _root_.Go.Dat.WkOk.ge {n0 l : Nat} {g : AHeap} {w : Wk} (W : WkOk n0 l g w) : ∀ z ∈ w.all l, n0 ≤ z := by
  intro z hz
  obtain ⟨a, ha, hz⟩ := List.mem_flatten.1 hz
  simp only [Wk.lists, List.mem_cons, List.not_mem_nil, or_false] at ha
  rcases ha with rfl | rfl | rfl | rfl | rfl | rfl
  · simp only [List.mem_cons, List.not_mem_nil, or_false] at hz
    subst hz; exact W.lo
  · exact (W.V.fr.bd z hz).1
  · exact (W.C.fr.bd z hz).1
  · exact (W.N.2.bd z hz).1
  · exact (W.L.fr.bd z hz).1
  · exact (W.S.fr.bd z hz).1
theorem _root_.Go.Dat.Mv.le {h g g' : AHeap} {l : Nat} {w w' : Wk} (M : Mv l w w' g g') (W : WkOk h.n l g w) (hw : h.wf) (le : h.Le g) : h.Le g' :=
  ⟨Nat.le_trans le.n M.kp.n, fun z o ho => M.kp.get z o (fun hz => by have h1 := W.ge z hz; have h2 := hw.lt ho; omega) (le.get z o ho)⟩
def Qp3 (a : Prop) := True ∧ (True ∧ True) ∧ a
def Qp4 (a : FuncId) (b : List Value) (c : AHeap) (d : Value) (e : AHeap) (f : Prop) := ACall Tryz.prog a b c d e ∧ f
def Qp5 (a : AHeap) := Value.pointer (some (Addr.mk (AHeap.n a) Qot (some Qot)))
def Qp6 (a : AHeap) (b : List (List Value)) (c : Nat) := AHeap.push a (AObj.mk b c true)
def Qp7 := Qos 1
def Qp8 (a b c : Int) (d : ByteArray) := [Qp7, Qos a, Qos b, Qos c, Value.string d, Qou]
def Qp9 (a b : Int) (c : Bool) (d : Int) (e : Option Addr) (f : List (Sh.T voteSh)) (g : Nat) (h : Option Addr) (i : List (Sh.T changeSh)) (j : Nat) (k l m n : Int) (o : ByteArray) (p : Option Addr) (q : List (Sh.T changeSh)) (r : Nat) (s : Option Addr) (t : List (Sh.T Sh.str)) (u : Nat) := Qor [Qos a, Qos b, Value.bool c, Qos d, Value.slice e (List.length f) g, Value.slice h (List.length i) j, Qos k, Qos l, Qos m, Qos n, Value.string o, Value.slice p (List.length q) r, Value.slice s (List.length t) u]
def Qpa (a : List Value) (b : AHeap) (c : Value) (d : AHeap) (e : Prop) := Qp4 49 a b c d e
def Qpb (a : ByteArray) := [Value.string a]
theorem specAsk (h : AHeap) (hw : h.wf) (id view top k f v q : Int) (chg : Bool) (vs : List voteSh.T) (cg : List changeSh.T) (op : ByteArray) (cs : List changeSh.T) (log : List Sh.str.T) (a1 : Option Addr) (c1 : Nat) (a2 : Option Addr) (c2 : Nat) (a3 : Option Addr) (c3 : Nat) (a4 : Option Addr) (c4 : Nat)
    (h1 : Sl h voteSh vs (.slice a1 vs.length c1)) (h2 : Sl h changeSh cg (.slice a2 cg.length c2)) (h3 : Sl h changeSh cs (.slice a3 cs.length c3)) (h4 : Sl h Sh.str log (.slice a4 log.length c4))
    (ok : replicaSh.ok (id, view, chg, top, vs, cg, (k, f, v, q, op, cs), log)) (sm : replicaSh.small (id, view, chg, top, vs, cg, (k, f, v, q, op, cs), log)) (t : ByteArray) :
    ∃ r h', ACall Tryz.prog 16 [.agg #[.int .i64 id, .int .i64 view, .bool chg, .int .i64 top, .slice a1 vs.length c1, .slice a2 cg.length c2, .int .i64 k, .int .i64 f, .int .i64 v, .int .i64 q, .string op, .slice a3 cs.length c3, .slice a4 log.length c4], .string t] h r h' ∧ h.Le h' ∧ h'.wf ∧ OutOf h h' r (askM (id, view, chg, top, vs, cg, (k, f, v, q, op, cs), log) t) := by
  refine acall_q fun Q HQ => ?_
  refine acall_vc (fun t => t == 49) (fun r => match r with | 5 => [(0, 0, []), (1, 1, []), (2, 0, []), (3, 0, []), (6, 0, []), (4, 1, []), (7, 1, []), (5, 3, [7]), (8, 0, []), (9, 0, []), (10, 0, [])] | 13 => [(0, 0, []), (1, 0, []), (3, 0, []), (4, 0, []), (5, 0, []), (6, 0, []), (8, 0, []), (9, 0, []), (2, 1, []), (7, 1, []), (10, 1, []), (11, 0, []), (12, 3, [])] | 14 => [(0, 0, []), (1, 0, []), (2, 0, []), (3, 0, []), (5, 0, []), (7, 0, []), (9, 0, []), (10, 0, []), (11, 0, []), (12, 0, []), (14, 0, []), (4, 1, []), (6, 1, []), (8, 1, []), (13, 1, []), (15, 0, []), (16, 3, [4]), (17, 3, []), (18, 0, []), (19, 0, []), (20, 3, [])] | _ => []) (fun _ => .none) mixed Tryz.func16 rfl rfl rfl (Nat.le_of_ble_eq_true rfl) (by (refine vc_mp (by kernel_rfl : (True ∧ Qp3 True ∧ Qp3 (Qp3 (Qp3 (Qp3 True))) ∧ True ∧ True ∧ True ∧ True ∧ Qoq) = _) ?_; delta Qoq Qp3); simp only [and_self]) ?_
  (refine vc_mp (by kernel_rfl : (bs (decide ((↑(ByteArray.size t) : Int) > 20000)) (∃ (x x_1 : Int) (x_2 : Bool) (x_3 : Int) (a : Option Addr) (n c : Nat) (a_1 : Option Addr) (n_1 c_1 : Nat) (x_4 x_5 x_6 x_7 : Int) (x_8 : ByteArray) (a_2 : Option Addr) (n_2 c_2 : Nat) (a_3 : Option Addr) (n_3 c_3 : Nat) (a_4 : Option Addr) (n_4 c_4 : Nat) (x_9 : Int) (h' : AHeap), Qpa [Qos 2] h (Qp0 x x_1 x_2 x_3 a n c a_1 n_1 c_1 x_4 x_5 x_6 x_7 x_8 a_2 n_2 c_2 a_3 n_3 c_3 (Value.slice a_4 n_4 c_4) (Qos x_9)) h' (Q (Qp0 x x_1 x_2 x_3 a n c a_1 n_1 c_1 x_4 x_5 x_6 x_7 x_8 a_2 n_2 c_2 a_3 n_3 c_3 (Value.slice a_4 n_4 c_4) (Qos x_9)) h')) (∃ (x : Bool) (h' : AHeap), Qp4 32 [Qp9 id view chg top a1 vs c1 a2 cg c2 k f v q op a3 cs c3 a4 log c4] h (Value.bool x) h' (bs (not x) (∃ (x x_1 : Int) (x_2 : Bool) (x_3 : Int) (a : Option Addr) (n c : Nat) (a_1 : Option Addr) (n_1 c_1 : Nat) (x_4 x_5 x_6 x_7 : Int) (x_8 : ByteArray) (a_2 : Option Addr) (n_2 c_2 : Nat) (a_3 : Option Addr) (n_3 c_3 : Nat) (a_4 : Option Addr) (n_4 c_4 : Nat) (x_9 : Int) (h'_1 : AHeap), Qpa [Qp7] h' (Qp0 x x_1 x_2 x_3 a n c a_1 n_1 c_1 x_4 x_5 x_6 x_7 x_8 a_2 n_2 c_2 a_3 n_3 c_3 (Value.slice a_4 n_4 c_4) (Qos x_9)) h'_1 (Q (Qp0 x x_1 x_2 x_3 a n c a_1 n_1 c_1 x_4 x_5 x_6 x_7 x_8 a_2 n_2 c_2 a_3 n_3 c_3 (Value.slice a_4 n_4 c_4) (Qos x_9)) h'_1)) (∃ (x : Bool) (h'_1 : AHeap), Qp4 50 (Qpb t) h' (Value.bool x) h'_1 (bs (not x) (∃ (x x_1 : Int) (x_2 : Bool) (x_3 : Int) (a : Option Addr) (n c : Nat) (a_1 : Option Addr) (n_1 c_1 : Nat) (x_4 x_5 x_6 x_7 : Int) (x_8 : ByteArray) (a_2 : Option Addr) (n_2 c_2 : Nat) (a_3 : Option Addr) (n_3 c_3 : Nat) (a_4 : Option Addr) (n_4 c_4 : Nat) (x_9 : Int) (h' : AHeap), Qpa [Qp7] h'_1 (Qp0 x x_1 x_2 x_3 a n c a_1 n_1 c_1 x_4 x_5 x_6 x_7 x_8 a_2 n_2 c_2 a_3 n_3 c_3 (Value.slice a_4 n_4 c_4) (Qos x_9)) h' (Q (Qp0 x x_1 x_2 x_3 a n c a_1 n_1 c_1 x_4 x_5 x_6 x_7 x_8 a_2 n_2 c_2 a_3 n_3 c_3 (Value.slice a_4 n_4 c_4) (Qos x_9)) h')) (bs (decide (t = Qov)) (∃ (x x_1 : Int) (x_2 : Bool) (x_3 : Int) (a : Option Addr) (n c : Nat) (a_1 : Option Addr) (n_1 c_1 : Nat) (x_4 x_5 x_6 x_7 : Int) (x_8 : ByteArray) (a_2 : Option Addr) (n_2 c_2 : Nat) (a_3 : Option Addr) (n_3 c_3 : Nat) (a_4 : Option Addr) (n_4 c_4 : Nat) (x_9 : Int) (h' : AHeap), Qpa [Qp7] h'_1 (Qp0 x x_1 x_2 x_3 a n c a_1 n_1 c_1 x_4 x_5 x_6 x_7 x_8 a_2 n_2 c_2 a_3 n_3 c_3 (Value.slice a_4 n_4 c_4) (Qos x_9)) h' (Q (Qp0 x x_1 x_2 x_3 a n c a_1 n_1 c_1 x_4 x_5 x_6 x_7 x_8 a_2 n_2 c_2 a_3 n_3 c_3 (Value.slice a_4 n_4 c_4) (Qos x_9)) h')) (bs chg (∃ (x x_1 : Int) (x_2 : Bool) (x_3 : Int) (a : Option Addr) (n c : Nat) (a_1 : Option Addr) (n_1 c_1 : Nat) (x_4 x_5 x_6 x_7 : Int) (x_8 : ByteArray) (a_2 : Option Addr) (n_2 c_2 : Nat) (a_3 : Option Addr) (n_3 c_3 : Nat) (a_4 : Option Addr) (n_4 c_4 : Nat) (x_9 : Int) (h' : AHeap), Qpa [Qos 10] h'_1 (Qp0 x x_1 x_2 x_3 a n c a_1 n_1 c_1 x_4 x_5 x_6 x_7 x_8 a_2 n_2 c_2 a_3 n_3 c_3 (Value.slice a_4 n_4 c_4) (Qos x_9)) h' (Q (Qp0 x x_1 x_2 x_3 a n c a_1 n_1 c_1 x_4 x_5 x_6 x_7 x_8 a_2 n_2 c_2 a_3 n_3 c_3 (Value.slice a_4 n_4 c_4) (Qos x_9)) h')) (∃ (x : Int) (h' : AHeap), Qp4 33 [Qos view] h'_1 (Qos x) h' (Qos id = Qos id ∧ bs (not (decide (x = id))) (∃ (x x_1 : Int) (x_2 : Bool) (x_3 : Int) (a : Option Addr) (n c : Nat) (a_1 : Option Addr) (n_1 c_1 : Nat) (x_4 x_5 x_6 x_7 : Int) (x_8 : ByteArray) (a_2 : Option Addr) (n_2 c_2 : Nat) (a_3 : Option Addr) (n_3 c_3 : Nat) (a_4 : Option Addr) (n_4 c_4 : Nat) (x_9 : Int) (h'_2 : AHeap), Qpa [Qos 10] h' (Qp0 x x_1 x_2 x_3 a n c a_1 n_1 c_1 x_4 x_5 x_6 x_7 x_8 a_2 n_2 c_2 a_3 n_3 c_3 (Value.slice a_4 n_4 c_4) (Qos x_9)) h'_2 (Q (Qp0 x x_1 x_2 x_3 a n c a_1 n_1 c_1 x_4 x_5 x_6 x_7 x_8 a_2 n_2 c_2 a_3 n_3 c_3 (Value.slice a_4 n_4 c_4) (Qos x_9)) h'_2)) (∃ (x : Bool) (h'_2 : AHeap), Qp4 51 [Qp9 id view chg top a1 vs c1 a2 cg c2 k f v q op a3 cs c3 a4 log c4, Value.string t] h' (Value.bool x) h'_2 (bs x (∃ (x x_1 : Int) (x_2 : Bool) (x_3 : Int) (a : Option Addr) (n c : Nat) (a_1 : Option Addr) (n_1 c_1 : Nat) (x_4 x_5 x_6 x_7 : Int) (x_8 : ByteArray) (a_2 : Option Addr) (n_2 c_2 : Nat) (a_3 : Option Addr) (n_3 c_3 : Nat) (a_4 : Option Addr) (n_4 c_4 : Nat) (x_9 : Int) (h' : AHeap), Qpa [Qos 7] h'_2 (Qp0 x x_1 x_2 x_3 a n c a_1 n_1 c_1 x_4 x_5 x_6 x_7 x_8 a_2 n_2 c_2 a_3 n_3 c_3 (Value.slice a_4 n_4 c_4) (Qos x_9)) h' (Q (Qp0 x x_1 x_2 x_3 a n c a_1 n_1 c_1 x_4 x_5 x_6 x_7 x_8 a_2 n_2 c_2 a_3 n_3 c_3 (Value.slice a_4 n_4 c_4) (Qos x_9)) h')) (bs (decide (top ≥ 6)) (∃ (x x_1 : Int) (x_2 : Bool) (x_3 : Int) (a : Option Addr) (n c : Nat) (a_1 : Option Addr) (n_1 c_1 : Nat) (x_4 x_5 x_6 x_7 : Int) (x_8 : ByteArray) (a_2 : Option Addr) (n_2 c_2 : Nat) (a_3 : Option Addr) (n_3 c_3 : Nat) (a_4 : Option Addr) (n_4 c_4 : Nat) (x_9 : Int) (h' : AHeap), Qpa [Qos 9] h'_2 (Qp0 x x_1 x_2 x_3 a n c a_1 n_1 c_1 x_4 x_5 x_6 x_7 x_8 a_2 n_2 c_2 a_3 n_3 c_3 (Value.slice a_4 n_4 c_4) (Qos x_9)) h' (Q (Qp0 x x_1 x_2 x_3 a n c a_1 n_1 c_1 x_4 x_5 x_6 x_7 x_8 a_2 n_2 c_2 a_3 n_3 c_3 (Value.slice a_4 n_4 c_4) (Qos x_9)) h')) (∃ (x x_1 : Int) (x_2 : Bool) (x_3 : Int) (a : Option Addr) (n c : Nat) (a_1 : Option Addr) (n_1 c_1 : Nat) (x_4 x_5 x_6 x_7 : Int) (x_8 : ByteArray) (a_2 : Option Addr) (n_2 c_2 : Nat) (a_3 : Option Addr) (n_3 c_3 : Nat) (h' : AHeap), Qp4 52 [Qp9 id view chg top a1 vs c1 a2 cg c2 k f v q op a3 cs c3 a4 log c4] h'_2 (Qor (Qp2 x x_1 x_2 x_3 a n c a_1 n_1 c_1 x_4 x_5 x_6 x_7 x_8 a_2 n_2 c_2 a_3 n_3 c_3)) h' (∃ (h'_3 : AHeap), AHeap.wr (Qp6 h' [[Qos x, Qos x_1, Value.bool x_2, Qos x_3, Value.slice a n c, Value.slice a_1 n_1 c_1, Qos x_4, Qos x_5, Qos x_6, Qos x_7, Value.string x_8, Value.slice a_2 n_2 c_2, Value.slice a_3 n_3 c_3, Qou]] 14) (AHeap.n h') Qot 3 [Qos (IntKind.wrap IntKind.i64 (top + 1))] = some h'_3 ∧ (∃ (x : Int), Qoz (Qp1 h'_3 (AHeap.n h') 3) [Qos x] (∃ (x_9 : Bool) (h'_4 : AHeap), Qp4 53 [Qp5 h', Qor [Qos 2, Qos view, Qos x, Value.string t, Qos id]] h'_3 (Value.bool x_9) h'_4 (∃ (a : Option Addr) (n c : Nat), Qoz (Qp1 h'_4 (AHeap.n h') 13) [Value.slice a n c] (∃ (x : Int), Qoz (Qp1 h'_4 (AHeap.n h') 3) [Qos x] ((∃ (a_4 : Option Addr) (n_4 c_4 : Nat), Qoz (Qp1 (Qp6 h'_4 [Qp8 id view x t] 6) (AHeap.n h') 13) [Value.slice a_4 n_4 c_4] (Value.slice a_4 n_4 c_4 = Value.slice a n c)) ∧ (∃ (xs : List (List Value)), rowsV (Qp6 h'_4 [Qp8 id view x t] 6) (Value.slice (some (Addr.mk (AHeap.n h'_4) Qot (some 6))) 1 2) = some xs ∧ List.all xs (fun (row : List Value) =>
  decide (List.length row = (6 : Nat)) &&
    List.all row fun (v : Value) =>
      match v with
      | Value.agg cells => false
      | Value.tuple cells => false
      | Value.complex k re im => false
      | Value.chan r => false
      | x => true) = true ∧ (n + List.length xs) * 72 ≤ 140737488355328 ∧ (∃ (a_4 : Option Addr) (n_4 c_4 : Nat) (h'_5 : AHeap), AHeap.app (Qp6 h'_4 [Qp8 id view x t] 6) (Value.slice a n c) xs 6 = some (Prod.mk (Value.slice a_4 n_4 c_4) h'_5) ∧ (∃ (h'_6 : AHeap), AHeap.wr h'_5 (AHeap.n h') Qot 13 [Value.slice a_4 n_4 c_4] = some h'_6 ∧ (∃ (h'_7 : AHeap), Qp4 54 [Qp5 h'] h'_6 (Value.tuple (Array.mk List.nil)) h'_7 (∃ (x x_10 : Int) (x_11 : Bool) (x_12 : Int) (a : Option Addr) (n c : Nat) (a_5 : Option Addr) (n_5 c_5 : Nat) (x_13 x_14 x_15 x_16 : Int) (x_17 : ByteArray) (a_6 : Option Addr) (n_6 c_6 : Nat) (a_7 : Option Addr) (n_7 c_7 : Nat) (a_8 : Option Addr) (n_8 c_8 : Nat) (x_18 : Int) (h'_8 : AHeap), Qp4 55 [Qp5 h'] h'_7 (Qp0 x x_10 x_11 x_12 a n c a_5 n_5 c_5 x_13 x_14 x_15 x_16 x_17 a_6 n_6 c_6 a_7 n_7 c_7 (Value.slice a_8 n_8 c_8) (Qos x_18)) h'_8 (Q (Qp0 x x_10 x_11 x_12 a n c a_5 n_5 c_5 x_13 x_14 x_15 x_16 x_17 a_6 n_6 c_6 a_7 n_7 c_7 (Value.slice a_8 n_8 c_8) (Qos x_18)) h'_8))))))))))))))))))))))))) = _) ?_; delta Qor Qos Qot Qou Qov Qoz Qp0 Qp1 Qp2 Qp4 Qp5 Qp6 Qp7 Qp8 Qp9 Qpa Qpb)
  have ill : ∀ (u : AHeap) (c : Int), h.Le u → u.wf → askM (id, view, chg, top, vs, cg, (k, f, v, q, op, cs), log) t = illM c → Q (.agg #[.int .i64 0, .int .i64 0, .bool false, .int .i64 0, .slice none 0 0, .slice none 0 0, .int .i64 0, .int .i64 0, .int .i64 0, .int .i64 0, .string ⟨#[]⟩, .slice none 0 0, .slice none 0 0, .slice none 0 0, .int .i64 c]) u := fun u c le w e => HQ _ _ ⟨le, w, by rw [e]; exact outOf_ill _ _ c⟩
  have R := replicaRight_spec h id view top k f v q chg vs cg op cs log a1 c1 a2 c2 a3 c3 a4 c4 h1 h2 h3 h4 ok
  refine bs_d (fun e1 => ⟨_, _, _, _, _, _, _, _, _, _, _, _, _, _, _, _, _, _, _, _, _, _, _, _, _, _, l13Ill_spec _ _, ill _ 2 (.refl _) hw (askM_size (by omega))⟩) (fun e1 => ?_)
  have e1' : ¬ 20000 < t.size := by omega
  refine ⟨_, _, R, bs_nb (fun e2 => ⟨_, _, _, _, _, _, _, _, _, _, _, _, _, _, _, _, _, _, _, _, _, _, _, _, _, _, l13Ill_spec _ _, ill _ 1 (.refl _) hw (askM_form e1' fun H => of_trn e2 H.1)⟩) (fun e2 => ?_)⟩
  refine ⟨_, _, opRight_spec _ _, bs_nb (fun e3' => ⟨_, _, _, _, _, _, _, _, _, _, _, _, _, _, _, _, _, _, _, _, _, _, _, _, _, _, l13Ill_spec _ _, ill _ 1 (.refl _) hw (askM_form e1' fun H => of_trn e3' H.2.1)⟩) (fun e3' => ?_)⟩
  refine bs_d (fun e4 => ⟨_, _, _, _, _, _, _, _, _, _, _, _, _, _, _, _, _, _, _, _, _, _, _, _, _, _, l13Ill_spec _ _, ill _ 1 (.refl _) hw (askM_form e1' fun H => H.2.2 e4)⟩) (fun e4 => ?_)
  have HR := of_tr e2
  have e0 := askM_at (r := (id, view, chg, top, vs, cg, (k, f, v, q, op, cs), log)) e1' ⟨HR, of_tr e3', e4⟩
  dsimp only at e0
  obtain ⟨hid, hvw, _, htop, HV, _, _, hlog, hlz⟩ := HR
  dsimp only at hid hvw htop HV hlog hlz
  refine bs_b (fun ec => ⟨_, _, _, _, _, _, _, _, _, _, _, _, _, _, _, _, _, _, _, _, _, _, _, _, _, _, l13Ill_spec _ _, ill _ 10 (.refl _) hw (by rw [e0, askCode10 (.inl ec)]; rfl)⟩) (fun ec => ?_)
  refine ⟨_, _, specLeader _ _ hvw.1, rfl, bs_dn (fun e5 => ⟨_, _, _, _, _, _, _, _, _, _, _, _, _, _, _, _, _, _, _, _, _, _, _, _, _, _, l13Ill_spec _ _, ill _ 10 (.refl _) hw (by rw [e0, askCode10 (.inr e5)]; rfl)⟩) (fun e5 => ?_)⟩
  have h0 : ¬ (chg = true ∨ ¬ view % 4 = id) := fun h => h.elim (fun h => by rw [ec] at h; cases h) (fun h => h e5)
  have nv : vs.length ≤ 400 := HV.1
  refine ⟨_, _, l13Asked_spec h id view top k f v q chg vs cg op cs log a1 c1 a2 c2 a3 c3 a4 c4 t h1 h4 nv (by omega), bs_b (fun e6 => ⟨_, _, _, _, _, _, _, _, _, _, _, _, _, _, _, _, _, _, _, _, _, _, _, _, _, _, l13Ill_spec _ _, ill _ 7 (.refl _) hw (by rw [e0, askCode7 h0 (of_tr e6)]; rfl)⟩) (fun e6 => ?_)⟩
  refine bs_d (fun e7 => ⟨_, _, _, _, _, _, _, _, _, _, _, _, _, _, _, _, _, _, _, _, _, _, _, _, _, _, l13Ill_spec _ _, ill _ 9 (.refl _) hw (by rw [e0, askCode9 h0 (of_trn e6) (by have := htop.2; omega)]; rfl)⟩) (fun e7 => ?_)
  have e8 := askCode0 h0 (of_trn e6) (show ¬ top = 6 by omega)
  rw [e8] at e0
  replace e0 := e0.trans (if_neg (fun h => h rfl))
  obtain ⟨_, g1, A1, V, C, N, L, X, rfl⟩ := l13Copy_spec h hw id view top k f v q chg vs cg op cs log a1 c1 a2 c2 a3 c3 a4 c4 h1 h2 h3 h4 (Nat.le_trans nv (by decide)) sm.2.2.2.2.2.1 sm.2.2.2.2.2.2.1.2.2.2.2.2 (Nat.le_trans hlog (by decide))
  have W0 := X.wk id view top k f v q chg op
  obtain ⟨le1, wf1, eV0, eC, eN, eL, _⟩ := X
  have W1 := W0.num view chg (top + 1)
  have M1 := Mv.num (l := g1.n) (g := g1.push ⟨[(⟨id, view, chg, top, V, C, k, f, v, q, op, N, L, ⟨none, 0, [], []⟩⟩ : Wk).row], 14, true⟩) (w := ⟨id, view, chg, top, V, C, k, f, v, q, op, N, L, ⟨none, 0, [], []⟩⟩) (w' := ⟨id, view, chg, top + 1, V, C, k, f, v, q, op, N, L, ⟨none, 0, [], []⟩⟩) rfl (some ⟨[(⟨id, view, chg, top + 1, V, C, k, f, v, q, op, N, L, ⟨none, 0, [], []⟩⟩ : Wk).row], 14, true⟩)
  have e3 := wk_wr (i := 3) (vs := [.int .i64 (IntKind.i64.wrap (top + 1))]) (row := (⟨id, view, chg, top + 1, V, C, k, f, v, q, op, N, L, ⟨none, 0, [], []⟩⟩ : Wk).row) W0.obj (by rw [wrap_i64 (by unfold InR at htop; omega)]; rfl) (by simp)
  dsimp only at W1
  obtain ⟨_, g2, A2, V', rfl, eV, W2, M2⟩ := sAdd_spec W1 (by dsimp only; rw [eV0]; exact nv) 2 view (top + 1) id t
  dsimp only at eV W2 M2
  have lp := AHeap.Le.push W2.wf ⟨[[.int .i64 1, .int .i64 id, .int .i64 view, .int .i64 (top + 1), .string t, .slice none 0 0]], 6, true⟩
  have wp := W2.wf.push ⟨[[.int .i64 1, .int .i64 id, .int .i64 view, .int .i64 (top + 1), .string t, .slice none 0 0]], 6, true⟩
  obtain ⟨S', g3, eS, e6, e7, W3, M3⟩ := W2.say (.refl _) W2.wf (k := 1) (f := id) (v := view) (q := top + 1) (op := t) (Sn.nil (s := changeSh)) .nil
  dsimp only at eS e6 e7 W3 M3
  have HV' : VotsOk V'.xs := by rw [eV]; exact addM_ok (by rw [eV0]; exact HV) ⟨.inl rfl, hvw, ⟨by unfold InR at htop; omega, by unfold InR at htop; omega⟩, of_tr e3', hid⟩
  obtain ⟨_, g5, A5, V2, S2, L2, rfl, est, eL2, W5, M5⟩ := follow_spec W3 HV' hid hvw (by rw [eS]; simp) (by dsimp only; rw [eL]; exact hlog)
  dsimp only at est eL2 W5 M5
  have M := (((M1.trans W0.wf M2).trans W0.wf M3).trans W0.wf M5)
  have er : goM (askR (id, view, chg, top, vs, cg, (k, f, v, q, op, cs), log) t) [(1, id, view, top + 1, t, [])] = goM (⟨id, view, chg, top + 1, V', C, k, f, v, q, op, N, L, S'⟩ : Wk).rep S'.xs := by
    unfold Wk.rep askR
    dsimp only
    rw [eV, eC, eN, eL, eV0, eS]
    rfl
  refine ⟨_, _, _, _, _, _, _, _, _, _, _, _, _, _, _, _, _, _, _, _, _, _, A1, _, e3, _, W1.ld rfl (by decide), _, _, A2, _, _, _, W2.ld rfl (by decide), _, W2.ld rfl (by decide), ⟨_, _, _, (W2.grow lp wp).ld rfl (by decide), rfl⟩, _, rowsV_push, rfl, by simp, _, _, _, g3, e6, _, e7, _, A5, _, _, _, _, _, _, _, _, _, _, _, _, _, _, _, _, _, _, _, _, _, _, _, _, _, _, out_spec W5, HQ _ _ ⟨M.le W0 hw (le1.trans (.push wf1 _)), W5.wf, ?_⟩⟩
  rw [e0, er]
  exact outOf_wk W5 est eL2
theorem ask1c_spec {n0 l : Nat} {g : AHeap} {w : Wk} (W : WkOk n0 l g w) (H : VotsOk w.votes.xs) (hv : InR 0 7 w.view) (ht : InR 0 6 w.top) (hl : w.log.xs.length ≤ 6) (hs : w.says.xs.length ≤ 500) (op : ByteArray) (lo : Nat) (ho : g.ld lo 0 0 1 = some [.string op]) :
    ∃ r g', ACall Tryz.prog 58 [.pointer (some ⟨l, 0, some 0⟩), .pointer (some ⟨lo, 0, some 0⟩)] g r g' ∧ r = .int .i64 (askCode w.id w.view w.top w.chg w.votes.xs w.log.xs op) ∧
      ((¬ askCode w.id w.view w.top w.chg w.votes.xs w.log.xs op = 0 ∧ g.Le g' ∧ g'.wf) ∨ (askCode w.id w.view w.top w.chg w.votes.xs w.log.xs op = 0 ∧ ∃ (V' : LX voteSh.T) (S' : LX saySh.T), WkOk n0 l g' { w with top := w.top + 1, votes := V', says := S' } ∧ V'.xs = (addM w.votes.xs (2, w.view, w.top + 1, op, w.id)).1 ∧ S'.xs = w.says.xs ++ [(1, w.id, w.view, w.top + 1, op, [])] ∧ Mv l w { w with top := w.top + 1, votes := V', says := S' } g g')) := by
  obtain ⟨_, g', A, rfl, hr⟩ := ask_spec W H hv ht hl hs op
  refine acall_q fun Q HQ => ?_
  refine acall_vc (fun _ => false) (fun _ => []) (fun _ => .none) mixed Tryz.func58 rfl rfl rfl (Nat.le_of_ble_eq_true rfl) (by (refine vc_mp (by kernel_rfl : (Qoq) = _) ?_; delta Qoq); simp only [and_self]) ?_
  (refine vc_mp (by kernel_rfl : (∃ (x : ByteArray), Qoz (Qp1 g lo Qot) (Qpb x) (∃ (x_1 : Int) (h' : AHeap), Qp4 59 [Value.pointer (some (Addr.mk l Qot (some Qot))), Value.string x] g (Qos x_1) h' (Q (Qos x_1) h'))) = _) ?_; delta Qos Qot Qoz Qp1 Qp4 Qpb)
  exact ⟨_, ho, _, _, A, HQ _ _ ⟨rfl, hr⟩⟩
theorem repliedAsk (h : AHeap) (hw : h.wf) (id view top k f v q : Int) (chg : Bool) (vs : List voteSh.T) (cg : List changeSh.T) (op : ByteArray) (cs : List changeSh.T) (log : List Sh.str.T) (a1 : Option Addr) (c1 : Nat) (a2 : Option Addr) (c2 : Nat) (a3 : Option Addr) (c3 : Nat) (a4 : Option Addr) (c4 : Nat)
    (h1 : Sl h voteSh vs (.slice a1 vs.length c1)) (h2 : Sl h changeSh cg (.slice a2 cg.length c2)) (h3 : Sl h changeSh cs (.slice a3 cs.length c3)) (h4 : Sl h Sh.str log (.slice a4 log.length c4))
    (ok : replicaSh.ok (id, view, chg, top, vs, cg, (k, f, v, q, op, cs), log)) (sm : replicaSh.small (id, view, chg, top, vs, cg, (k, f, v, q, op, cs), log)) (H : RepOk (id, view, chg, top, vs, cg, (k, f, v, q, op, cs), log)) (t : ByteArray) (hsz : t.size ≤ 120) (lo : Nat) (ho : h.get lo = some ⟨[[.string t]], 1, true⟩) :
    ∃ r h', ACall Tryz.prog 57 [.agg #[.int .i64 id, .int .i64 view, .bool chg, .int .i64 top, .slice a1 vs.length c1, .slice a2 cg.length c2, .int .i64 k, .int .i64 f, .int .i64 v, .int .i64 q, .string op, .slice a3 cs.length c3, .slice a4 log.length c4], .func (.func 58) #[] #[.pointer (some ⟨lo, 0, some 0⟩)]] h r h' ∧ h.Le h' ∧ h'.wf ∧
      OutOf h h' r (if ¬ askCode id view top chg vs log t = 0 then illM (askCode id view top chg vs log t) else goM (askR (id, view, chg, top, vs, cg, (k, f, v, q, op, cs), log) t) [(1, id, view, top + 1, t, [])]) := by
  refine acall_q fun Q HQ => ?_
  refine acall_vc (fun t => t == 10) (fun r => match r with | 6 => [(0, 0, []), (1, 0, []), (2, 0, []), (4, 0, []), (5, 0, []), (6, 0, []), (3, 1, []), (7, 1, []), (8, 0, []), (9, 3, [])] | _ => []) (fun _ => .none) mixed Tryz.func57 rfl rfl rfl (Nat.le_of_ble_eq_true rfl) (by (refine vc_mp (by kernel_rfl : (True ∧ True ∧ (True ∧ Qp3 True) ∧ Qoq) = _) ?_; delta Qoq Qp3); simp only [and_self]) ?_
  (refine vc_mp (by kernel_rfl : (∃ (x x_1 : Int) (x_2 : Bool) (x_3 : Int) (a : Option Addr) (n c : Nat) (a_1 : Option Addr) (n_1 c_1 : Nat) (x_4 x_5 x_6 x_7 : Int) (x_8 : ByteArray) (a_2 : Option Addr) (n_2 c_2 : Nat) (a_3 : Option Addr) (n_3 c_3 : Nat) (h' : AHeap), Qp4 107 [Qp9 id view chg top a1 vs c1 a2 cg c2 k f v q op a3 cs c3 a4 log c4] h (Qor (Qp2 x x_1 x_2 x_3 a n c a_1 n_1 c_1 x_4 x_5 x_6 x_7 x_8 a_2 n_2 c_2 a_3 n_3 c_3)) h' (∃ (x_9 : Int) (h'_1 : AHeap), Qp4 58 [Qp5 h', Value.pointer (some (Addr.mk lo Qot (some Qot)))] (Qp6 h' [[Qos x, Qos x_1, Value.bool x_2, Qos x_3, Value.slice a n c, Value.slice a_1 n_1 c_1, Qos x_4, Qos x_5, Qos x_6, Qos x_7, Value.string x_8, Value.slice a_2 n_2 c_2, Value.slice a_3 n_3 c_3, Qou]] 14) (Qos x_9) h'_1 (bs (not (decide (x_9 = 0))) (Q (Qoy (Qos x_9)) h'_1) (∃ (h'_2 : AHeap), Qp4 108 [Qp5 h'] h'_1 (Value.tuple (Array.mk List.nil)) h'_2 (∃ (x x_10 : Int) (x_11 : Bool) (x_12 : Int) (a : Option Addr) (n c : Nat) (a_4 : Option Addr) (n_4 c_4 : Nat) (x_13 x_14 x_15 x_16 : Int) (x_17 : ByteArray) (a_5 : Option Addr) (n_5 c_5 : Nat) (a_6 : Option Addr) (n_6 c_6 : Nat), Qoz (AHeap.ld h'_2 (AHeap.n h') Qot Qot 13) (Qp2 x x_10 x_11 x_12 a n c a_4 n_4 c_4 x_13 x_14 x_15 x_16 x_17 a_5 n_5 c_5 a_6 n_6 c_6) (∃ (a_7 : Option Addr) (n_7 c_7 : Nat), Qoz (Qp1 h'_2 (AHeap.n h') 13) [Value.slice a_7 n_7 c_7] (Q (Qp0 x x_10 x_11 x_12 a n c a_4 n_4 c_4 x_13 x_14 x_15 x_16 x_17 a_5 n_5 c_5 a_6 n_6 c_6 (Value.slice a_7 n_7 c_7) Qox) h'_2))))))) = _) ?_; delta Qor Qos Qot Qou Qov Qox Qoy Qoz Qp0 Qp1 Qp2 Qp4 Qp5 Qp6 Qp9)
  obtain ⟨hid, hvw, _, htop, HV, _, _, hlog, hlz⟩ := H
  dsimp only at hid hvw htop HV hlog hlz
  have nv : vs.length ≤ 400 := HV.1
  obtain ⟨_, g1, A1, V, C, N, L, X, rfl⟩ := cloneReplica_spec h hw id view top k f v q chg vs cg op cs log a1 c1 a2 c2 a3 c3 a4 c4 h1 h2 h3 h4 (Nat.le_trans nv (by decide)) sm.2.2.2.2.2.1 sm.2.2.2.2.2.2.1.2.2.2.2.2 (Nat.le_trans hlog (by decide))
  have W0 := X.wk id view top k f v q chg op
  obtain ⟨le1, wf1, eV0, eC, eN, eL, _⟩ := X
  have lp := le1.trans (AHeap.Le.push wf1 ⟨[(⟨id, view, chg, top, V, C, k, f, v, q, op, N, L, ⟨none, 0, [], []⟩⟩ : Wk).row], 14, true⟩)
  obtain ⟨_, g2, A2, rfl, hr⟩ := ask1c_spec W0 (by dsimp only; rw [eV0]; exact HV) hvw htop (by dsimp only; rw [eL]; exact hlog) (Nat.zero_le _) t lo (ld_one (lp.get _ _ ho))
  dsimp only at A2 hr
  rw [eV0, eL] at A2 hr
  refine ⟨_, _, _, _, _, _, _, _, _, _, _, _, _, _, _, _, _, _, _, _, _, _, A1, _, _, A2, bs_dn (fun e => ?_) (fun e => ?_)⟩
  · rcases hr with ⟨_, le2, w2⟩ | ⟨e', _⟩
    · exact HQ _ _ ⟨lp.trans le2, w2, by rw [if_pos e]; exact outOf_ill _ _ _⟩
    · exact absurd e' e
  · rcases hr with ⟨e', _⟩ | ⟨_, V', S', W2, eV, eS, M2⟩
    · exact absurd e e'
    · have HV' : VotsOk V'.xs := by rw [eV]; exact addM_ok HV ⟨.inl rfl, hvw, ⟨by unfold InR at htop; omega, by have := askCode_top e; unfold InR at htop; omega⟩, hsz, hid⟩
      obtain ⟨_, g5, A5, V2, S2, L2, rfl, est, eL2, W5, M5⟩ := goOn_spec W2 HV' hid hvw (by dsimp only; rw [eS]; simp) (by dsimp only; rw [eL]; exact hlog)
      dsimp only at est eL2 W5 M5
      have M := M2.trans W0.wf M5
      have er : goM (askR (id, view, chg, top, vs, cg, (k, f, v, q, op, cs), log) t) [(1, id, view, top + 1, t, [])] = goM (⟨id, view, chg, top + 1, V', C, k, f, v, q, op, N, L, S'⟩ : Wk).rep S'.xs := by
        unfold Wk.rep askR
        dsimp only
        rw [eV, eC, eN, eL, eS]
        rfl
      refine ⟨_, A5, _, _, _, _, _, _, _, _, _, _, _, _, _, _, _, _, _, _, _, _, _, W5.ld (i := 0) (n := 13) rfl (by decide), _, _, _, W5.ld (i := 13) (n := 1) rfl (by decide), HQ _ _ ⟨M.le W0 hw lp, W5.wf, ?_⟩⟩
      rw [if_neg (fun h => h e), er]
      exact outOf_wk W5 est eL2
def Qpc (a b : AHeap) (c : ByteArray) (d : Prop) := Qoz (Qp1 a (AHeap.n b) Qot) (Qpb c) d
theorem implAsk (h : AHeap) (hw : h.wf) (id view top k f v q : Int) (chg : Bool) (vs : List voteSh.T) (cg : List changeSh.T) (op : ByteArray) (cs : List changeSh.T) (log : List Sh.str.T) (a1 : Option Addr) (c1 : Nat) (a2 : Option Addr) (c2 : Nat) (a3 : Option Addr) (c3 : Nat) (a4 : Option Addr) (c4 : Nat)
    (h1 : Sl h voteSh vs (.slice a1 vs.length c1)) (h2 : Sl h changeSh cg (.slice a2 cg.length c2)) (h3 : Sl h changeSh cs (.slice a3 cs.length c3)) (h4 : Sl h Sh.str log (.slice a4 log.length c4))
    (ok : replicaSh.ok (id, view, chg, top, vs, cg, (k, f, v, q, op, cs), log)) (sm : replicaSh.small (id, view, chg, top, vs, cg, (k, f, v, q, op, cs), log)) (t : ByteArray) :
    ∃ r h', ACall Tryz.prog 17 [.agg #[.int .i64 id, .int .i64 view, .bool chg, .int .i64 top, .slice a1 vs.length c1, .slice a2 cg.length c2, .int .i64 k, .int .i64 f, .int .i64 v, .int .i64 q, .string op, .slice a3 cs.length c3, .slice a4 log.length c4], .string t] h r h' ∧ h.Le h' ∧ h'.wf ∧ OutOf h h' r (askM (id, view, chg, top, vs, cg, (k, f, v, q, op, cs), log) t) := by
  refine acall_q fun Q HQ => ?_
  refine acall_vc (fun t => t == 3) (fun _ => []) (fun _ => .none) mixed Tryz.func17 rfl rfl rfl (Nat.le_of_ble_eq_true rfl) (by (refine vc_mp (by kernel_rfl : (True ∧ Qp3 (Qp3 True) ∧ True ∧ True) = _) ?_; delta Qp3); simp only [and_self]) ?_
  (refine vc_mp (by kernel_rfl : (∃ (x : ByteArray), Qpc (Qp6 h [Qpb t] 1) h x (bs (decide ((↑(ByteArray.size x) : Int) > 20000)) (Q (Qoy (Qos 2)) (Qp6 h [Qpb t] 1)) (∃ (x : Bool) (h' : AHeap), Qp4 39 [Qp9 id view chg top a1 vs c1 a2 cg c2 k f v q op a3 cs c3 a4 log c4] (Qp6 h [Qpb t] 1) (Value.bool x) h' (bs (not x) (Q (Qoy Qp7) h') (∃ (x : ByteArray), Qpc h' h x (bs (decide (x = Qov)) (Q (Qoy Qp7) h') (∃ (x : ByteArray), Qpc h' h x (∃ (x_1 : Bool) (h'_1 : AHeap), Qp4 56 (Qpb x) h' (Value.bool x_1) h'_1 (bs (not x_1) (Q (Qoy Qp7) h'_1) (∃ (x x_2 : Int) (x_3 : Bool) (x_4 : Int) (a : Option Addr) (n c : Nat) (a_1 : Option Addr) (n_1 c_1 : Nat) (x_5 x_6 x_7 x_8 : Int) (x_9 : ByteArray) (a_2 : Option Addr) (n_2 c_2 : Nat) (a_3 : Option Addr) (n_3 c_3 : Nat) (a_4 : Option Addr) (n_4 c_4 : Nat) (x_10 : Int) (h' : AHeap), Qp4 57 [Qp9 id view chg top a1 vs c1 a2 cg c2 k f v q op a3 cs c3 a4 log c4, Value.func (Fn.func 58) (Array.mk List.nil) (Array.mk [Qp5 h])] h'_1 (Qp0 x x_2 x_3 x_4 a n c a_1 n_1 c_1 x_5 x_6 x_7 x_8 x_9 a_2 n_2 c_2 a_3 n_3 c_3 (Value.slice a_4 n_4 c_4) (Qos x_10)) h' (Q (Qp0 x x_2 x_3 x_4 a n c a_1 n_1 c_1 x_5 x_6 x_7 x_8 x_9 a_2 n_2 c_2 a_3 n_3 c_3 (Value.slice a_4 n_4 c_4) (Qos x_10)) h'))))))))))) = _) ?_; delta Qor Qos Qot Qou Qov Qox Qoy Qoz Qp0 Qp1 Qp4 Qp5 Qp6 Qp7 Qp9 Qpb Qpc)
  have lp := AHeap.Le.push hw ⟨[[.string t]], 1, true⟩
  have wp := hw.push ⟨[[.string t]], 1, true⟩
  have ill : ∀ (u : AHeap) (c : Int), h.Le u → u.wf → askM (id, view, chg, top, vs, cg, (k, f, v, q, op, cs), log) t = illM c → Q (.agg #[.int .i64 0, .int .i64 0, .bool false, .int .i64 0, .slice none 0 0, .slice none 0 0, .int .i64 0, .int .i64 0, .int .i64 0, .int .i64 0, .string ⟨#[]⟩, .slice none 0 0, .slice none 0 0, .slice none 0 0, .int .i64 c]) u := fun u c le w e => HQ _ _ ⟨le, w, by rw [e]; exact outOf_ill _ _ c⟩
  obtain ⟨_, g1, A1, le1, w1, rfl⟩ := isReplicaRight_spec _ wp id view top k f v q chg vs cg op cs log a1 c1 a2 c2 a3 c3 a4 c4 (h1.mono lp) (h2.mono lp) (h3.mono lp) (h4.mono lp) ok
  have go := le1.get _ _ (AHeap.get_push_eq (h := h) (o := ⟨[[.string t]], 1, true⟩))
  refine ⟨_, ld_one AHeap.get_push_eq, bs_d (fun e1 => ill _ 2 lp wp (askM_size (by omega))) (fun e1 => ?_)⟩
  have e1' : ¬ 20000 < t.size := by omega
  refine ⟨_, _, A1, bs_nb (fun e2 => ill _ 1 (lp.trans le1) w1 (askM_form e1' fun H => of_trn e2 H.1)) (fun e2 => ?_)⟩
  refine ⟨_, ld_one go, bs_d (fun e4 => ill _ 1 (lp.trans le1) w1 (askM_form e1' fun H => H.2.2 e4)) (fun e4 => ?_)⟩
  refine ⟨_, ld_one go, _, _, isOp_spec _ _, bs_nb (fun e3' => ill _ 1 (lp.trans le1) w1 (askM_form e1' fun H => of_trn e3' H.2.1)) (fun e3' => ?_)⟩
  have l1 := lp.trans le1
  obtain ⟨_, g2, A2, le2, w2, y1, y2, y3, y4, y5, j1, j2, j3, j4, j5, rfl, s1, s2, s3, s4, s5, fr⟩ := repliedAsk g1 w1 id view top k f v q chg vs cg op cs log a1 c1 a2 c2 a3 c3 a4 c4 (h1.mono l1) (h2.mono l1) (h3.mono l1) (h4.mono l1) ok sm (of_tr e2) t (of_tr e3') h.n go
  have e0 := askM_at (r := (id, view, chg, top, vs, cg, (k, f, v, q, op, cs), log)) e1' ⟨of_tr e2, of_tr e3', e4⟩
  dsimp only at e0
  obtain ⟨b1, d1, rfl⟩ := s1.sl.isSlice
  obtain ⟨b2, d2, rfl⟩ := s2.sl.isSlice
  obtain ⟨b3, d3, rfl⟩ := s3.sl.isSlice
  obtain ⟨b4, d4, rfl⟩ := s4.sl.isSlice
  obtain ⟨b5, d5, rfl⟩ := s5.sl.isSlice
  refine ⟨_, _, _, _, _, _, _, _, _, _, _, _, _, _, _, _, _, _, _, _, _, _, _, _, _, _, A2, HQ _ _ ⟨l1.trans le2, w2, ?_⟩⟩
  rw [e0]
  exact ⟨_, _, _, _, _, _, _, _, _, _, rfl, s1, s2, s3, s4, s5, fr.widen l1.n (Nat.le_refl _)⟩
end Go.Proofs.YtpgfjadjhliohaaGreat
