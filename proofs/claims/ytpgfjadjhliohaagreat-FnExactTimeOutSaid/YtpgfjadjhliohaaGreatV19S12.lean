/- PO, S12. -/
import Derived.Test.YtpgfjadjhliohaaGreatV19P8
section
namespace Go.Proofs.YtpgfjadjhliohaaGreat
open Go.Abs Go.Dat
set_option maxRecDepth 100000
set_option maxHeartbeats 8000000
abbrev Q10v := Option Addr
def Q10h (a : Prop) := True ∧ True ∧ a
def Q10i (a : FuncId) (b : List Value) (c : AHeap) (d : Value) (e : AHeap) (f : Prop) := ACall Tryz.prog a b c d e ∧ f
def Q10j (a : Int) := Value.int IntKind.i64 a
def Q10k := (0 : Nat)
theorem time1c_spec {n0 l : Nat} {g : AHeap} {w : Wk} (W : WkOk n0 l g w) (R : ROk 1000 0 (w.rep, w.says.xs)) :
    ∃ r g', ACall Tryz.prog 72 [.pointer (some ⟨l, 0, some 0⟩)] g r g' ∧ ∃ w', WkOk n0 l g' w' ∧ Mv l w w' g g' ∧ ((∃ e, timeR w.rep = .inl e ∧ r = .int .i64 e ∧ ¬ e = 0) ∨ (timeR w.rep = .inr (w'.rep, w'.says.xs) ∧ r = .int .i64 0)) := by
  obtain ⟨rv, g', A, w', W', M', hr⟩ := iTime_spec W R
  have hi : ∃ e : Int, rv = Value.int .i64 e := by
    rcases hr with ⟨e, _, rfl, _⟩ | ⟨_, rfl⟩
    · exact ⟨e, rfl⟩
    · exact ⟨0, rfl⟩
  obtain ⟨e, rfl⟩ := hi
  refine acall_q fun Q HQ => ?_
  refine acall_vc (fun _ => false) (fun _ => []) (fun _ => .none) mixed Tryz.func72 rfl rfl rfl (Nat.le_of_ble_eq_true rfl) (by (refine vc_mp (by kernel_rfl : (Q10h True) = _) ?_; delta Q10h); simp only [and_self]) ?_
  (refine vc_mp (by kernel_rfl : (∃ (x : Int) (h' : AHeap), Q10i 73 [Value.pointer (some (Addr.mk l Q10k (some Q10k)))] g (Q10j x) h' (Q (Q10j x) h')) = _) ?_; delta Q10i Q10j Q10k)
  exact ⟨_, _, A, HQ _ _ ⟨w', W', M', hr⟩⟩
def Q10l (a : List Value) := Value.agg (Array.mk a)
def Q10m (a b : Int) (c : Bool) (d : Int) (e : Q10v) (f g : Nat) (h : Q10v) (i j : Nat) (k l m n : Int) (o : ByteArray) (p : Q10v) (q r : Nat) (s : Q10v) (t u : Nat) (v : Value) (w : Int) := Q10l [Q10j a, Q10j b, Value.bool c, Q10j d, Value.slice e f g, Value.slice h i j, Q10j k, Q10j l, Q10j m, Q10j n, Value.string o, Value.slice p q r, Value.slice s t u, v, Q10j w]
def Q10n := Int.ofNat Q10k
def Q10o (a b : Int) (c : Bool) (d : Int) (e : Q10v) (f g : Nat) (h : Q10v) (i j : Nat) (k l m n : Int) (o : ByteArray) (p : Q10v) (q r : Nat) (s : Q10v) (t u : Nat) := [Q10j a, Q10j b, Value.bool c, Q10j d, Value.slice e f g, Value.slice h i j, Q10j k, Q10j l, Q10j m, Q10j n, Value.string o, Value.slice p q r, Value.slice s t u]
def Q10p : Array Value := Array.mk List.nil
def Q10q (a : Q10v) (b : Int) := Q10m Q10n Q10n false Q10n a Q10k Q10k a Q10k Q10k Q10n Q10n Q10n Q10n (ByteArray.mk (Array.mk List.nil)) a Q10k Q10k a Q10k Q10k (Value.slice a Q10k Q10k) b
theorem repliedTime (h : AHeap) (hw : h.wf) (id view top k f v q : Int) (chg : Bool) (vs : List voteSh.T) (cg : List changeSh.T) (op : ByteArray) (cs : List changeSh.T) (log : List Sh.str.T) (a1 : Option Addr) (c1 : Nat) (a2 : Option Addr) (c2 : Nat) (a3 : Option Addr) (c3 : Nat) (a4 : Option Addr) (c4 : Nat)
    (h1 : Sl h voteSh vs (.slice a1 vs.length c1)) (h2 : Sl h changeSh cg (.slice a2 cg.length c2)) (h3 : Sl h changeSh cs (.slice a3 cs.length c3)) (h4 : Sl h Sh.str log (.slice a4 log.length c4))
    (ok : replicaSh.ok (id, view, chg, top, vs, cg, (k, f, v, q, op, cs), log)) (sm : replicaSh.small (id, view, chg, top, vs, cg, (k, f, v, q, op, cs), log)) (HR : RepOk (id, view, chg, top, vs, cg, (k, f, v, q, op, cs), log)) :
    ∃ r h', ACall Tryz.prog 57 [.agg #[.int .i64 id, .int .i64 view, .bool chg, .int .i64 top, .slice a1 vs.length c1, .slice a2 cg.length c2, .int .i64 k, .int .i64 f, .int .i64 v, .int .i64 q, .string op, .slice a3 cs.length c3, .slice a4 log.length c4], .func (.func 72) #[] #[]] h r h' ∧ h.Le h' ∧ h'.wf ∧
      OutOf h h' r (outR (timeR (id, view, chg, top, vs, cg, (k, f, v, q, op, cs), log))) := by
  refine acall_q fun Q HQ => ?_
  refine acall_vc (fun t => t == 10) (fun r => match r with | 6 => [(0, 0, []), (1, 0, []), (2, 0, []), (4, 0, []), (5, 0, []), (6, 0, []), (3, 1, []), (7, 1, []), (8, 0, []), (9, 3, [])] | _ => []) (fun _ => .none) mixed Tryz.func57 rfl rfl rfl (Nat.le_of_ble_eq_true rfl) (by (refine vc_mp (by kernel_rfl : (Q10h ((True ∧ True ∧ (True ∧ True) ∧ True) ∧ Q10h True)) = _) ?_; delta Q10h); simp only [and_self]) ?_
  (refine vc_mp (by kernel_rfl : (∃ (x x_1 : Int) (x_2 : Bool) (x_3 : Int) (a : Option Addr) (n c : Nat) (a_1 : Option Addr) (n_1 c_1 : Nat) (x_4 x_5 x_6 x_7 : Int) (x_8 : ByteArray) (a_2 : Option Addr) (n_2 c_2 : Nat) (a_3 : Option Addr) (n_3 c_3 : Nat) (h' : AHeap), Q10i 107 [Q10l (Q10o id view chg top a1 (List.length vs) c1 a2 (List.length cg) c2 k f v q op a3 (List.length cs) c3 a4 (List.length log) c4)] h (Q10l (Q10o x x_1 x_2 x_3 a n c a_1 n_1 c_1 x_4 x_5 x_6 x_7 x_8 a_2 n_2 c_2 a_3 n_3 c_3)) h' (∃ (x_9 : Int) (h'_1 : AHeap), Q10i 72 [Value.pointer (some (Addr.mk (AHeap.n h') Q10k (some Q10k)))] (AHeap.push h' (AObj.mk [[Q10j x, Q10j x_1, Value.bool x_2, Q10j x_3, Value.slice a n c, Value.slice a_1 n_1 c_1, Q10j x_4, Q10j x_5, Q10j x_6, Q10j x_7, Value.string x_8, Value.slice a_2 n_2 c_2, Value.slice a_3 n_3 c_3, Value.slice none Q10k Q10k]] 14 true)) (Q10j x_9) h'_1 (bs (not (decide (x_9 = 0))) (Q (Q10q none x_9) h'_1) (∃ (h'_2 : AHeap), Q10i 108 [Value.pointer (some (Addr.mk (AHeap.n h') Q10k (some Q10k)))] h'_1 (Value.tuple Q10p) h'_2 (∃ (x x_10 : Int) (x_11 : Bool) (x_12 : Int) (a : Option Addr) (n c : Nat) (a_4 : Option Addr) (n_4 c_4 : Nat) (x_13 x_14 x_15 x_16 : Int) (x_17 : ByteArray) (a_5 : Option Addr) (n_5 c_5 : Nat) (a_6 : Option Addr) (n_6 c_6 : Nat), AHeap.ld h'_2 (AHeap.n h') Q10k Q10k 13 = some (Q10o x x_10 x_11 x_12 a n c a_4 n_4 c_4 x_13 x_14 x_15 x_16 x_17 a_5 n_5 c_5 a_6 n_6 c_6) ∧ (∃ (a_7 : Option Addr) (n_7 c_7 : Nat), AHeap.ld h'_2 (AHeap.n h') Q10k 13 1 = some [Value.slice a_7 n_7 c_7] ∧ Q (Q10m x x_10 x_11 x_12 a n c a_4 n_4 c_4 x_13 x_14 x_15 x_16 x_17 a_5 n_5 c_5 a_6 n_6 c_6 (Value.slice a_7 n_7 c_7) Q10n) h'_2)))))) = _) ?_; delta Q10i Q10j Q10k Q10l Q10m Q10n Q10o Q10p Q10q)
  have R0 := ROk.of HR ok
  have KO := R0.time
  obtain ⟨_, g1, A1, V, C, N, L, X, rfl⟩ := cloneReplica_spec h hw id view top k f v q chg vs cg op cs log a1 c1 a2 c2 a3 c3 a4 c4 h1 h2 h3 h4 sm.2.2.2.2.1.1 sm.2.2.2.2.2.1 sm.2.2.2.2.2.2.1.2.2.2.2.2 sm.2.2.2.2.2.2.2.1
  have W0 := X.wk id view top k f v q chg op
  obtain ⟨le1, wf1, eV0, eC, eN, eL, _⟩ := X
  have lp := le1.trans (AHeap.Le.push wf1 ⟨[(⟨id, view, chg, top, V, C, k, f, v, q, op, N, L, ⟨none, 0, [], []⟩⟩ : Wk).row], 14, true⟩)
  have er0 : (⟨id, view, chg, top, V, C, k, f, v, q, op, N, L, ⟨none, 0, [], []⟩⟩ : Wk).rep = (id, view, chg, top, vs, cg, (k, f, v, q, op, cs), log) := by unfold Wk.rep; dsimp only; rw [eV0, eC, eN, eL]
  have RW : ROk 1000 0 ((⟨id, view, chg, top, V, C, k, f, v, q, op, N, L, ⟨none, 0, [], []⟩⟩ : Wk).rep, []) := by rw [er0]; exact R0
  obtain ⟨_, g2, A2, w', W2, M2, hr⟩ := time1c_spec W0 RW
  rw [er0] at hr
  rcases hr with ⟨e, he, rfl, hne⟩ | ⟨he, rfl⟩
  · refine ⟨_, _, _, _, _, _, _, _, _, _, _, _, _, _, _, _, _, _, _, _, _, _, A1, _, _, A2, bs_dn (fun _ => HQ _ _ ⟨M2.le W0 hw lp, W2.wf, by rw [he]; exact outOf_ill _ _ _⟩) (fun h => absurd h hne)⟩
  · rw [he] at KO
    have KW : ROk 1000 8 (w'.rep, w'.says.xs) := KO
    obtain ⟨_, g5, A5, V2, S2, L2, rfl, est, eL2, W5, M5⟩ := goOn_spec W2 KW.vs.H KW.id KW.vw (Nat.le_trans KW.vs.n (by decide)) KW.hl
    refine ⟨_, _, _, _, _, _, _, _, _, _, _, _, _, _, _, _, _, _, _, _, _, _, A1, _, _, A2, bs_dn (fun h => absurd rfl h) (fun _ => ?_)⟩
    refine ⟨_, A5, _, _, _, _, _, _, _, _, _, _, _, _, _, _, _, _, _, _, _, _, _, W5.ld (i := 0) (n := 13) rfl (by decide), _, _, _, W5.ld (i := 13) (n := 1) rfl (by decide), HQ _ _ ⟨(M2.trans W0.wf M5).le W0 hw lp, W5.wf, ?_⟩⟩
    rw [he]
    exact outOf_wk W5 est eL2
def Q10r (a : Prop) := (True ∧ (True ∧ True) ∧ True) ∧ a
theorem implTime (h : AHeap) (hw : h.wf) (id view top k f v q : Int) (chg : Bool) (vs : List voteSh.T) (cg : List changeSh.T) (op : ByteArray) (cs : List changeSh.T) (log : List Sh.str.T) (a1 : Option Addr) (c1 : Nat) (a2 : Option Addr) (c2 : Nat) (a3 : Option Addr) (c3 : Nat) (a4 : Option Addr) (c4 : Nat)
    (h1 : Sl h voteSh vs (.slice a1 vs.length c1)) (h2 : Sl h changeSh cg (.slice a2 cg.length c2)) (h3 : Sl h changeSh cs (.slice a3 cs.length c3)) (h4 : Sl h Sh.str log (.slice a4 log.length c4))
    (ok : replicaSh.ok (id, view, chg, top, vs, cg, (k, f, v, q, op, cs), log)) (sm : replicaSh.small (id, view, chg, top, vs, cg, (k, f, v, q, op, cs), log)) :
    ∃ r h', ACall Tryz.prog 28 [.agg #[.int .i64 id, .int .i64 view, .bool chg, .int .i64 top, .slice a1 vs.length c1, .slice a2 cg.length c2, .int .i64 k, .int .i64 f, .int .i64 v, .int .i64 q, .string op, .slice a3 cs.length c3, .slice a4 log.length c4]] h r h' ∧ h.Le h' ∧ h'.wf ∧ OutOf h h' r (timeM (id, view, chg, top, vs, cg, (k, f, v, q, op, cs), log)) := by
  refine acall_q fun Q HQ => ?_
  refine acall_vc (fun _ => false) (fun _ => []) (fun _ => .none) mixed Tryz.func28 rfl rfl rfl (Nat.le_of_ble_eq_true rfl) (by (refine vc_mp (by kernel_rfl : (True ∧ Q10r (True ∧ True)) = _) ?_; delta Q10r); simp only [and_self]) ?_
  (refine vc_mp (by kernel_rfl : (∃ (x : Bool) (h' : AHeap), Q10i 39 [Q10l (Q10o id view chg top a1 (List.length vs) c1 a2 (List.length cg) c2 k f v q op a3 (List.length cs) c3 a4 (List.length log) c4)] h (Value.bool x) h' (bs (not x) (Q (Q10q none 1) h') (∃ (x x_1 : Int) (x_2 : Bool) (x_3 : Int) (a : Option Addr) (n c : Nat) (a_1 : Option Addr) (n_1 c_1 : Nat) (x_4 x_5 x_6 x_7 : Int) (x_8 : ByteArray) (a_2 : Option Addr) (n_2 c_2 : Nat) (a_3 : Option Addr) (n_3 c_3 : Nat) (a_4 : Option Addr) (n_4 c_4 : Nat) (x_9 : Int) (h'_1 : AHeap), Q10i 57 [Q10l (Q10o id view chg top a1 (List.length vs) c1 a2 (List.length cg) c2 k f v q op a3 (List.length cs) c3 a4 (List.length log) c4), Value.func (Fn.func 72) Q10p Q10p] h' (Q10m x x_1 x_2 x_3 a n c a_1 n_1 c_1 x_4 x_5 x_6 x_7 x_8 a_2 n_2 c_2 a_3 n_3 c_3 (Value.slice a_4 n_4 c_4) x_9) h'_1 (Q (Q10m x x_1 x_2 x_3 a n c a_1 n_1 c_1 x_4 x_5 x_6 x_7 x_8 a_2 n_2 c_2 a_3 n_3 c_3 (Value.slice a_4 n_4 c_4) x_9) h'_1)))) = _) ?_; delta Q10i Q10j Q10k Q10l Q10m Q10n Q10o Q10p Q10q)
  have ill : ∀ (u : AHeap) (c : Int), h.Le u → u.wf → timeM (id, view, chg, top, vs, cg, (k, f, v, q, op, cs), log) = illM c → Q (.agg #[.int .i64 0, .int .i64 0, .bool false, .int .i64 0, .slice none 0 0, .slice none 0 0, .int .i64 0, .int .i64 0, .int .i64 0, .int .i64 0, .string ⟨#[]⟩, .slice none 0 0, .slice none 0 0, .slice none 0 0, .int .i64 c]) u := fun u c le w e => HQ _ _ ⟨le, w, by rw [e]; exact outOf_ill _ _ c⟩
  obtain ⟨_, g1, A1, l1, w1, rfl⟩ := isReplicaRight_spec _ hw id view top k f v q chg vs cg op cs log a1 c1 a2 c2 a3 c3 a4 c4 h1 h2 h3 h4 ok
  refine ⟨_, _, A1, bs_nb (fun e1 => ill _ 1 l1 w1 (if_neg fun H => of_trn e1 H)) (fun e1 => ?_)⟩
  obtain ⟨_, g2, A3, le2, w2, y1, y2, y3, y4, y5, j1, j2, j3, j4, j5, rfl, s1, s2, s3, s4, s5, fr⟩ := repliedTime g1 w1 id view top k f v q chg vs cg op cs log a1 c1 a2 c2 a3 c3 a4 c4 (h1.mono l1) (h2.mono l1) (h3.mono l1) (h4.mono l1) ok sm (of_tr e1)
  have eM : timeM (id, view, chg, top, vs, cg, (k, f, v, q, op, cs), log) = outR (timeR (id, view, chg, top, vs, cg, (k, f, v, q, op, cs), log)) := if_pos (of_tr e1)
  obtain ⟨b1, d1, rfl⟩ := s1.sl.isSlice
  obtain ⟨b2, d2, rfl⟩ := s2.sl.isSlice
  obtain ⟨b3, d3, rfl⟩ := s3.sl.isSlice
  obtain ⟨b4, d4, rfl⟩ := s4.sl.isSlice
  obtain ⟨b5, d5, rfl⟩ := s5.sl.isSlice
  refine ⟨_, _, _, _, _, _, _, _, _, _, _, _, _, _, _, _, _, _, _, _, _, _, _, _, _, _, A3, HQ _ _ ⟨l1.trans le2, w2, ?_⟩⟩
  rw [eM]
  exact ⟨_, _, _, _, _, _, _, _, _, _, rfl, s1, s2, s3, s4, s5, fr.widen l1.n (Nat.le_refl _)⟩
theorem timeM_ok (r : replicaSh.T) (ok : replicaSh.ok r) (_ : replicaSh.small r) : replicaOutSh.ok (timeM r) := (timeM_oks r ok).1
theorem timeM_cn (r : replicaSh.T) (ok : replicaSh.ok r) (_ : replicaSh.small r) (_ : (replicaSh.cv r : Int) ≤ 200000000) : (replicaOutSh.cv (timeM r) : Int) ≤ 900000000000 := by
  have := (timeM_oks r ok).2
  omega
theorem xsTimeOut (h : AHeap) (hw : h.wf) (r : replicaSh.T) (v1 v2 v3 v4 : Value) (h1 : Sl h voteSh r.2.2.2.2.1 v1) (h2 : Sl h changeSh r.2.2.2.2.2.1 v2) (h3 : Sl h changeSh r.2.2.2.2.2.2.1.2.2.2.2.2 v3) (h4 : Sl h Sh.str r.2.2.2.2.2.2.2 v4) (ok : replicaSh.ok r) (sm : replicaSh.small r) :
    ∃ v h', ACall Tryz.prog 27 [repV r v1 v2 v3 v4] h v h' ∧ h.Le h' ∧ h'.wf ∧ ∃ y1 y2 y3 y4 y5, v = .agg #[.int .i64 (timeM r).1.1, .int .i64 (timeM r).1.2.1, .bool (timeM r).1.2.2.1, .int .i64 (timeM r).1.2.2.2.1, y1, y2, .int .i64 (timeM r).1.2.2.2.2.2.2.1.1, .int .i64 (timeM r).1.2.2.2.2.2.2.1.2.1, .int .i64 (timeM r).1.2.2.2.2.2.2.1.2.2.1, .int .i64 (timeM r).1.2.2.2.2.2.2.1.2.2.2.1, .string (timeM r).1.2.2.2.2.2.2.1.2.2.2.2.1, y3, y4, y5, .int .i64 (timeM r).2.2] ∧
      Sl h' voteSh (timeM r).1.2.2.2.2.1 y1 ∧ Sl h' changeSh (timeM r).1.2.2.2.2.2.1 y2 ∧ Sl h' changeSh (timeM r).1.2.2.2.2.2.2.1.2.2.2.2.2 y3 ∧ Sl h' Sh.str (timeM r).1.2.2.2.2.2.2.2 y4 ∧ Sl h' saySh (timeM r).2.1 y5 := by
  obtain ⟨(id : Int), (view : Int), (chg : Bool), (top : Int), (vs : List voteSh.T), (cg : List changeSh.T), ⟨(k : Int), (f : Int), (v : Int), (q : Int), (op1 : ByteArray), (cs : List changeSh.T)⟩, (log : List Sh.str.T)⟩ := r
  obtain ⟨a1, c1, rfl⟩ := h1.isSlice
  obtain ⟨a2, c2, rfl⟩ := h2.isSlice
  obtain ⟨a3, c3, rfl⟩ := h3.isSlice
  obtain ⟨a4, c4, rfl⟩ := h4.isSlice
  obtain ⟨_, _, A, le, w, y1, y2, y3, y4, y5, j1, j2, j3, j4, j5, rfl, s1, s2, s3, s4, s5, fr⟩ := specTime h hw id view top k f v q chg vs cg op1 cs log a1 c1 a2 c2 a3 c3 a4 c4 h1 h2 h3 h4 ok sm
  exact ⟨_, _, A, le, w, y1, y2, y3, y4, y5, rfl, s1.sl, s2.sl, s3.sl, s4.sl, s5.sl⟩
theorem xiTimeOut (h : AHeap) (hw : h.wf) (r : replicaSh.T) (v1 v2 v3 v4 : Value) (h1 : Sl h voteSh r.2.2.2.2.1 v1) (h2 : Sl h changeSh r.2.2.2.2.2.1 v2) (h3 : Sl h changeSh r.2.2.2.2.2.2.1.2.2.2.2.2 v3) (h4 : Sl h Sh.str r.2.2.2.2.2.2.2 v4) (ok : replicaSh.ok r) (sm : replicaSh.small r) :
    ∃ v h', ACall Tryz.prog 28 [repV r v1 v2 v3 v4] h v h' ∧ h.Le h' ∧ h'.wf ∧ ∃ y1 y2 y3 y4 y5 j1 j2 j3 j4 j5, v = .agg #[.int .i64 (timeM r).1.1, .int .i64 (timeM r).1.2.1, .bool (timeM r).1.2.2.1, .int .i64 (timeM r).1.2.2.2.1, y1, y2, .int .i64 (timeM r).1.2.2.2.2.2.2.1.1, .int .i64 (timeM r).1.2.2.2.2.2.2.1.2.1, .int .i64 (timeM r).1.2.2.2.2.2.2.1.2.2.1, .int .i64 (timeM r).1.2.2.2.2.2.2.1.2.2.2.1, .string (timeM r).1.2.2.2.2.2.2.1.2.2.2.2.1, y3, y4, y5, .int .i64 (timeM r).2.2] ∧
      So h' voteSh (timeM r).1.2.2.2.2.1 y1 j1 ∧ So h' changeSh (timeM r).1.2.2.2.2.2.1 y2 j2 ∧ So h' changeSh (timeM r).1.2.2.2.2.2.2.1.2.2.2.2.2 y3 j3 ∧ So h' Sh.str (timeM r).1.2.2.2.2.2.2.2 y4 j4 ∧ So h' saySh (timeM r).2.1 y5 j5 ∧ Fresh h.n h'.n (j1 ++ (j2 ++ (j3 ++ (j4 ++ j5)))) := by
  obtain ⟨(id : Int), (view : Int), (chg : Bool), (top : Int), (vs : List voteSh.T), (cg : List changeSh.T), ⟨(k : Int), (f : Int), (v : Int), (q : Int), (op1 : ByteArray), (cs : List changeSh.T)⟩, (log : List Sh.str.T)⟩ := r
  obtain ⟨a1, c1, rfl⟩ := h1.isSlice
  obtain ⟨a2, c2, rfl⟩ := h2.isSlice
  obtain ⟨a3, c3, rfl⟩ := h3.isSlice
  obtain ⟨a4, c4, rfl⟩ := h4.isSlice
  obtain ⟨_, _, A, le, w, R⟩ := implTime h hw id view top k f v q chg vs cg op1 cs log a1 c1 a2 c2 a3 c3 a4 c4 h1 h2 h3 h4 ok sm
  exact ⟨_, _, A, le, w, R⟩
end Go.Proofs.YtpgfjadjhliohaaGreat
end
section
namespace Go.Proofs.YtpgfjadjhliohaaGreat
open Go.Abs Go.Dat
set_option maxRecDepth 100000
set_option maxHeartbeats 8000000
def Q10s := Value.bool false
def Q10t := Q10j 1
def Q10u (a : Int × Sh.T (Sh.pair Sh.int (Sh.pair Sh.bool (Sh.pair Sh.int (Sh.pair (Sh.sl voteSh) (Sh.pair (Sh.sl changeSh) (Sh.pair saySh (Sh.sl Sh.str)))))))) (b : Sh.T Sh.int × Int × Sh.T (Sh.pair Sh.bool (Sh.pair Sh.int (Sh.pair (Sh.sl voteSh) (Sh.pair (Sh.sl changeSh) (Sh.pair saySh (Sh.sl Sh.str))))))) (c : Sh.T Sh.int × Sh.T Sh.int × Bool × Sh.T (Sh.pair Sh.int (Sh.pair (Sh.sl voteSh) (Sh.pair (Sh.sl changeSh) (Sh.pair saySh (Sh.sl Sh.str)))))) (d : Sh.T Sh.int × Sh.T Sh.int × Sh.T Sh.bool × Int × Sh.T (Sh.pair (Sh.sl voteSh) (Sh.pair (Sh.sl changeSh) (Sh.pair saySh (Sh.sl Sh.str))))) (e f : Value) (g : Sh.T Sh.int × Sh.T Sh.int × Sh.T Sh.bool × Sh.T Sh.int × Sh.T (Sh.sl voteSh) × Sh.T (Sh.sl changeSh) × (Int × Sh.T (Sh.pair Sh.int (Sh.pair Sh.int (Sh.pair Sh.int (Sh.pair Sh.str (Sh.sl changeSh)))))) × Sh.T (Sh.sl Sh.str)) (h : Sh.T Sh.int × Sh.T Sh.int × Sh.T Sh.bool × Sh.T Sh.int × Sh.T (Sh.sl voteSh) × Sh.T (Sh.sl changeSh) × (Sh.T Sh.int × Int × Sh.T (Sh.pair Sh.int (Sh.pair Sh.int (Sh.pair Sh.str (Sh.sl changeSh))))) × Sh.T (Sh.sl Sh.str)) (i : Sh.T Sh.int × Sh.T Sh.int × Sh.T Sh.bool × Sh.T Sh.int × Sh.T (Sh.sl voteSh) × Sh.T (Sh.sl changeSh) × (Sh.T Sh.int × Sh.T Sh.int × Int × Sh.T (Sh.pair Sh.int (Sh.pair Sh.str (Sh.sl changeSh)))) × Sh.T (Sh.sl Sh.str)) (j : Sh.T Sh.int × Sh.T Sh.int × Sh.T Sh.bool × Sh.T Sh.int × Sh.T (Sh.sl voteSh) × Sh.T (Sh.sl changeSh) × (Sh.T Sh.int × Sh.T Sh.int × Sh.T Sh.int × Int × Sh.T (Sh.pair Sh.str (Sh.sl changeSh))) × Sh.T (Sh.sl Sh.str)) (k : Sh.T Sh.int × Sh.T Sh.int × Sh.T Sh.bool × Sh.T Sh.int × Sh.T (Sh.sl voteSh) × Sh.T (Sh.sl changeSh) × (Sh.T Sh.int × Sh.T Sh.int × Sh.T Sh.int × Sh.T Sh.int × ByteArray × Sh.T (Sh.sl changeSh)) × Sh.T (Sh.sl Sh.str)) (l m : Value) := Q10l [Q10j (Prod.fst a), Q10j (Prod.fst (Prod.snd b)), Value.bool (Prod.fst (Prod.snd (Prod.snd c))), Q10j (Prod.fst (Prod.snd (Prod.snd (Prod.snd d)))), e, f, Q10j (Prod.fst (Prod.fst (Prod.snd (Prod.snd (Prod.snd (Prod.snd (Prod.snd (Prod.snd g)))))))), Q10j (Prod.fst (Prod.snd (Prod.fst (Prod.snd (Prod.snd (Prod.snd (Prod.snd (Prod.snd (Prod.snd h))))))))), Q10j (Prod.fst (Prod.snd (Prod.snd (Prod.fst (Prod.snd (Prod.snd (Prod.snd (Prod.snd (Prod.snd (Prod.snd i)))))))))), Q10j (Prod.fst (Prod.snd (Prod.snd (Prod.snd (Prod.fst (Prod.snd (Prod.snd (Prod.snd (Prod.snd (Prod.snd (Prod.snd j))))))))))), Value.string (Prod.fst (Prod.snd (Prod.snd (Prod.snd (Prod.snd (Prod.fst (Prod.snd (Prod.snd (Prod.snd (Prod.snd (Prod.snd (Prod.snd k)))))))))))), l, m]
theorem lawTimeOut (h : AHeap) (hw : h.wf) (a0 : replicaSh.T) (v0_1 v0_2 v0_3 v0_4 : Value) (s0_1 : Sl h voteSh a0.2.2.2.2.1 v0_1) (s0_2 : Sl h changeSh a0.2.2.2.2.2.1 v0_2) (s0_3 : Sl h changeSh a0.2.2.2.2.2.2.1.2.2.2.2.2 v0_3) (s0_4 : Sl h Sh.str a0.2.2.2.2.2.2.2 v0_4) (ok0 : replicaSh.ok a0) :
    ∃ v h', ACall Tryz.prog 6 [.agg #[.int .i64 a0.1, .int .i64 a0.2.1, .bool a0.2.2.1, .int .i64 a0.2.2.2.1, v0_1, v0_2, .int .i64 a0.2.2.2.2.2.2.1.1, .int .i64 a0.2.2.2.2.2.2.1.2.1, .int .i64 a0.2.2.2.2.2.2.1.2.2.1, .int .i64 a0.2.2.2.2.2.2.1.2.2.2.1, .string a0.2.2.2.2.2.2.1.2.2.2.2.1, v0_3, v0_4]] h v h' ∧ v = .bool true := by
  obtain ⟨T, hT⟩ : ∃ T, T = (timeM a0) := ⟨_, rfl⟩
  refine acall_q fun Q HQ => ?_
  refine acall_vc (fun _ => false) (fun r => match r with | 10 => [(0, 1, []), (1, 1, []), (2, 3, [0]), (3, 3, []), (4, 0, [])] | _ => []) (fun _ => .none) mixed Tryz.func6 rfl rfl rfl (Nat.le_of_ble_eq_true rfl) (by (refine vc_mp (by kernel_rfl : (Q10h (True ∧ Q10r (Q10h (True ∧ Q10r (Q10r (Q10h (Q10r (Q10h (Q10h (Q10r (Q10r (True ∧ Q10r (Q10h (Q10r (Q10r (True ∧ True)))))))))))))))) = _) ?_; delta Q10h Q10r); simp only [and_self]) ?_
  (refine vc_mp (by kernel_rfl : (∃ (x : Int) (h' : AHeap), Q10i 7 [Q10u a0 a0 a0 a0 v0_1 v0_2 a0 a0 a0 a0 a0 v0_3 v0_4, Q10j 1048576] h (Q10j x) h' (bs (decide (x < 0)) (Q (Value.bool true) h') (∃ (x x_1 : Int) (x_2 : Bool) (x_3 : Int) (a : Option Addr) (n c : Nat) (a_1 : Option Addr) (n_1 c_1 : Nat) (x_4 x_5 x_6 x_7 : Int) (x_8 : ByteArray) (a_2 : Option Addr) (n_2 c_2 : Nat) (a_3 : Option Addr) (n_3 c_3 : Nat) (h'_1 : AHeap), Q10i 9 [Q10u a0 a0 a0 a0 v0_1 v0_2 a0 a0 a0 a0 a0 v0_3 v0_4] h' (Q10l (Q10o x x_1 x_2 x_3 a n c a_1 n_1 c_1 x_4 x_5 x_6 x_7 x_8 a_2 n_2 c_2 a_3 n_3 c_3)) h'_1 (∃ (x_9 x_10 : Int) (x_11 : Bool) (x_12 : Int) (a_4 : Option Addr) (n_4 c_4 : Nat) (a_5 : Option Addr) (n_5 c_5 : Nat) (x_13 x_14 x_15 x_16 : Int) (x_17 : ByteArray) (a_6 : Option Addr) (n_6 c_6 : Nat) (a_7 : Option Addr) (n_7 c_7 : Nat) (a_8 : Option Addr) (n_8 c_8 : Nat) (x_18 : Int) (h' : AHeap), Q10i 27 [Q10l (Q10o x x_1 x_2 x_3 a n c a_1 n_1 c_1 x_4 x_5 x_6 x_7 x_8 a_2 n_2 c_2 a_3 n_3 c_3)] h'_1 (Q10m x_9 x_10 x_11 x_12 a_4 n_4 c_4 a_5 n_5 c_5 x_13 x_14 x_15 x_16 x_17 a_6 n_6 c_6 a_7 n_7 c_7 (Value.slice a_8 n_8 c_8) x_18) h' (∃ (x x_19 : Int) (x_20 : Bool) (x_21 : Int) (a : Option Addr) (n c : Nat) (a_9 : Option Addr) (n_9 c_9 : Nat) (x_22 x_23 x_24 x_25 : Int) (x_26 : ByteArray) (a_10 : Option Addr) (n_10 c_10 : Nat) (a_11 : Option Addr) (n_11 c_11 : Nat) (h'_2 : AHeap), Q10i 9 [Q10u a0 a0 a0 a0 v0_1 v0_2 a0 a0 a0 a0 a0 v0_3 v0_4] h' (Q10l (Q10o x x_19 x_20 x_21 a n c a_9 n_9 c_9 x_22 x_23 x_24 x_25 x_26 a_10 n_10 c_10 a_11 n_11 c_11)) h'_2 (∃ (x_27 x_28 : Int) (x_29 : Bool) (x_30 : Int) (a_12 : Option Addr) (n_12 c_12 : Nat) (a_13 : Option Addr) (n_13 c_13 : Nat) (x_31 x_32 x_33 x_34 : Int) (x_35 : ByteArray) (a_14 : Option Addr) (n_14 c_14 : Nat) (a_15 : Option Addr) (n_15 c_15 : Nat) (a_16 : Option Addr) (n_16 c_16 : Nat) (x_36 : Int) (h' : AHeap), Q10i 28 [Q10l (Q10o x x_19 x_20 x_21 a n c a_9 n_9 c_9 x_22 x_23 x_24 x_25 x_26 a_10 n_10 c_10 a_11 n_11 c_11)] h'_2 (Q10m x_27 x_28 x_29 x_30 a_12 n_12 c_12 a_13 n_13 c_13 x_31 x_32 x_33 x_34 x_35 a_14 n_14 c_14 a_15 n_15 c_15 (Value.slice a_16 n_16 c_16) x_36) h' (∃ (x_37 : Bool) (h'_3 : AHeap), Q10i 18 [Q10m x_27 x_28 x_29 x_30 a_12 n_12 c_12 a_13 n_13 c_13 x_31 x_32 x_33 x_34 x_35 a_14 n_14 c_14 a_15 n_15 c_15 (Value.slice a_16 n_16 c_16) x_36, Q10m x_9 x_10 x_11 x_12 a_4 n_4 c_4 a_5 n_5 c_5 x_13 x_14 x_15 x_16 x_17 a_6 n_6 c_6 a_7 n_7 c_7 (Value.slice a_8 n_8 c_8) x_18] h' (Value.bool x_37) h'_3 (bs (not x_37) (Q Q10s h'_3) (∃ (x_38 x_39 : Int) (x_40 : Bool) (x_41 : Int) (a_17 : Option Addr) (n_17 c_17 : Nat) (a_18 : Option Addr) (n_18 c_18 : Nat) (x_42 x_43 x_44 x_45 : Int) (x_46 : ByteArray) (a_19 : Option Addr) (n_19 c_19 : Nat) (a_20 : Option Addr) (n_20 c_20 : Nat) (h' : AHeap), Q10i 9 [Q10u a0 a0 a0 a0 v0_1 v0_2 a0 a0 a0 a0 a0 v0_3 v0_4] h'_3 (Q10l (Q10o x_38 x_39 x_40 x_41 a_17 n_17 c_17 a_18 n_18 c_18 x_42 x_43 x_44 x_45 x_46 a_19 n_19 c_19 a_20 n_20 c_20)) h' (Q10l (Q10o x x_19 x_20 x_21 a n c a_9 n_9 c_9 x_22 x_23 x_24 x_25 x_26 a_10 n_10 c_10 a_11 n_11 c_11) = Q10l (Q10o x x_19 x_20 x_21 a n c a_9 n_9 c_9 x_22 x_23 x_24 x_25 x_26 a_10 n_10 c_10 a_11 n_11 c_11) ∧ (∃ (x_47 : Bool) (h'_4 : AHeap), Q10i 12 [Q10l (Q10o x x_19 x_20 x_21 a n c a_9 n_9 c_9 x_22 x_23 x_24 x_25 x_26 a_10 n_10 c_10 a_11 n_11 c_11), Q10l (Q10o x_38 x_39 x_40 x_41 a_17 n_17 c_17 a_18 n_18 c_18 x_42 x_43 x_44 x_45 x_46 a_19 n_19 c_19 a_20 n_20 c_20)] h' (Value.bool x_47) h'_4 (bs (not x_47) (Q Q10s h'_4) (∃ (x_48 : Int) (h' : AHeap), Q10i 13 [Q10l (Q10o x x_19 x_20 x_21 a n c a_9 n_9 c_9 x_22 x_23 x_24 x_25 x_26 a_10 n_10 c_10 a_11 n_11 c_11), Q10t] h'_4 (Q10j x_48) h' (bs (decide (x_48 < 0)) (Q Q10s h') (∃ (x : Bool) (h'_5 : AHeap), Q10i 18 [Q10m x_27 x_28 x_29 x_30 a_12 n_12 c_12 a_13 n_13 c_13 x_31 x_32 x_33 x_34 x_35 a_14 n_14 c_14 a_15 n_15 c_15 (Value.slice a_16 n_16 c_16) x_36, Q10m x_9 x_10 x_11 x_12 a_4 n_4 c_4 a_5 n_5 c_5 x_13 x_14 x_15 x_16 x_17 a_6 n_6 c_6 a_7 n_7 c_7 (Value.slice a_8 n_8 c_8) x_18] h' (Value.bool x) h'_5 (bs (not x) (Q Q10s h'_5) (∃ (x : Int) (h' : AHeap), Q10i 19 [Q10m x_27 x_28 x_29 x_30 a_12 n_12 c_12 a_13 n_13 c_13 x_31 x_32 x_33 x_34 x_35 a_14 n_14 c_14 a_15 n_15 c_15 (Value.slice a_16 n_16 c_16) x_36, Q10t] h'_5 (Q10j x) h' (∃ (x_49 : Int) (h'_6 : AHeap), Q10i 20 [Q10m x_27 x_28 x_29 x_30 a_12 n_12 c_12 a_13 n_13 c_13 x_31 x_32 x_33 x_34 x_35 a_14 n_14 c_14 a_15 n_15 c_15 (Value.slice a_16 n_16 c_16) x_36, Q10t] h' (Q10j x_49) h'_6 (bs (decide (x_49 < 0)) (Q Q10s h'_6) (bs (not (decide (x_49 = x))) (Q Q10s h'_6) (∃ (x_50 x_51 : Int) (x_52 : Bool) (x_53 : Int) (a : Option Addr) (n c : Nat) (a_21 : Option Addr) (n_21 c_21 : Nat) (x_54 x_55 x_56 x_57 : Int) (x_58 : ByteArray) (a_22 : Option Addr) (n_22 c_22 : Nat) (a_23 : Option Addr) (n_23 c_23 : Nat) (h' : AHeap), Q10i 9 [Q10u a0 a0 a0 a0 v0_1 v0_2 a0 a0 a0 a0 a0 v0_3 v0_4] h'_6 (Q10l (Q10o x_50 x_51 x_52 x_53 a n c a_21 n_21 c_21 x_54 x_55 x_56 x_57 x_58 a_22 n_22 c_22 a_23 n_23 c_23)) h' (∃ (x_59 x_60 : Int) (x_61 : Bool) (x_62 : Int) (a_24 : Option Addr) (n_24 c_24 : Nat) (a_25 : Option Addr) (n_25 c_25 : Nat) (x_63 x_64 x_65 x_66 : Int) (x_67 : ByteArray) (a_26 : Option Addr) (n_26 c_26 : Nat) (a_27 : Option Addr) (n_27 c_27 : Nat) (a_28 : Option Addr) (n_28 c_28 : Nat) (x_68 : Int) (h'_7 : AHeap), Q10i 28 [Q10l (Q10o x_50 x_51 x_52 x_53 a n c a_21 n_21 c_21 x_54 x_55 x_56 x_57 x_58 a_22 n_22 c_22 a_23 n_23 c_23)] h' (Q10m x_59 x_60 x_61 x_62 a_24 n_24 c_24 a_25 n_25 c_25 x_63 x_64 x_65 x_66 x_67 a_26 n_26 c_26 a_27 n_27 c_27 (Value.slice a_28 n_28 c_28) x_68) h'_7 (∃ (x_69 : Bool) (h' : AHeap), Q10i 18 [Q10m x_59 x_60 x_61 x_62 a_24 n_24 c_24 a_25 n_25 c_25 x_63 x_64 x_65 x_66 x_67 a_26 n_26 c_26 a_27 n_27 c_27 (Value.slice a_28 n_28 c_28) x_68, Q10m x_9 x_10 x_11 x_12 a_4 n_4 c_4 a_5 n_5 c_5 x_13 x_14 x_15 x_16 x_17 a_6 n_6 c_6 a_7 n_7 c_7 (Value.slice a_8 n_8 c_8) x_18] h'_7 (Value.bool x_69) h' (bs (not x_69) (Q Q10s h') (∃ (x_70 : Int) (h'_8 : AHeap), Q10i 20 [Q10m x_27 x_28 x_29 x_30 a_12 n_12 c_12 a_13 n_13 c_13 x_31 x_32 x_33 x_34 x_35 a_14 n_14 c_14 a_15 n_15 c_15 (Value.slice a_16 n_16 c_16) x_36, Q10t] h' (Q10j x_70) h'_8 (bs (decide (x_70 < 0)) (Q Q10s h'_8) (bs (not (decide (x_70 = x))) (Q Q10s h'_8) (Q (Value.bool true) h'_8)))))))))))))))))))))))))))) = _) ?_; delta Q10i Q10j Q10l Q10m Q10o Q10s Q10t Q10u)
  refine ⟨_, _, szReplica_spec h a0 1048576 _ _ _ _ s0_1 s0_2 s0_3 s0_4 (by omega) ok0, bs_d (fun _ => HQ _ _ rfl) (fun q0 => ?_)⟩
  have z0 := replicaSh.sz_le a0 1048576 (by omega)
  have sm0 := replicaSh.sz_small a0 1048576 (by omega) (by omega) (by omega)
  have hcv0 : (replicaSh.cv a0 : Int) ≤ 200000000 := by have := Sh.cv_le replicaSh (by decide) a0 1048576 (by omega) (by omega); omega
  have okT : replicaOutSh.ok T := by rw [hT]; exact timeM_ok a0 ok0 sm0
  have cnT : (replicaOutSh.cv T : Int) ≤ 900000000000 := by rw [hT]; exact timeM_cn a0 ok0 sm0 hcv0
  obtain ⟨_, g1, C1, k1, w1, y1_1, y1_2, y1_3, y1_4, ids1, rfl, r1, f1⟩ := toReplica_spec h a0 _ _ _ _ s0_1 s0_2 s0_3 s0_4 hw sm0
  obtain ⟨z1_1, z1_2, z1_3, z1_4, d1_1, d1_2, d1_3, d1_4, ez, ei, p1_1, p1_2, p1_3, p1_4⟩ := ro_replica.1 r1
  cases ez
  subst ei
  try simp only [List.nil_append, List.append_nil] at f1
  obtain ⟨u1_1, e1_1, rfl⟩ := p1_1.sl.isSlice
  obtain ⟨u1_2, e1_2, rfl⟩ := p1_2.sl.isSlice
  obtain ⟨u1_3, e1_3, rfl⟩ := p1_3.sl.isSlice
  obtain ⟨u1_4, e1_4, rfl⟩ := p1_4.sl.isSlice
  have l0_1 := k1
  refine ⟨_, _, _, _, _, _, _, _, _, _, _, _, _, _, _, _, _, _, _, _, _, _, C1, ?_⟩
  obtain ⟨_, g2, CW, k2, w2, W1, W2, W3, W4, W5, rfl, RW1, RW2, RW3, RW4, RW5⟩ := xsTimeOut g1 w1 a0 _ _ _ _ p1_1.sl p1_2.sl p1_3.sl p1_4.sl ok0 sm0
  rw [← hT] at CW RW1 RW2 RW3 RW4 RW5
  obtain ⟨oW1, cW1, rfl⟩ := RW1.isSlice
  obtain ⟨oW2, cW2, rfl⟩ := RW2.isSlice
  obtain ⟨oW3, cW3, rfl⟩ := RW3.isSlice
  obtain ⟨oW4, cW4, rfl⟩ := RW4.isSlice
  obtain ⟨oW5, cW5, rfl⟩ := RW5.isSlice
  have l0_2 := l0_1.trans k2
  refine ⟨_, _, _, _, _, _, _, _, _, _, _, _, _, _, _, _, _, _, _, _, _, _, _, _, _, _, CW, ?_⟩
  obtain ⟨_, g3, C2, k3, w3, y2_1, y2_2, y2_3, y2_4, ids2, rfl, r2, f2⟩ := toReplica_spec g2 a0 _ _ _ _ (s0_1.mono l0_2) (s0_2.mono l0_2) (s0_3.mono l0_2) (s0_4.mono l0_2) w2 sm0
  obtain ⟨z2_1, z2_2, z2_3, z2_4, d2_1, d2_2, d2_3, d2_4, ez, ei, p2_1, p2_2, p2_3, p2_4⟩ := ro_replica.1 r2
  cases ez
  subst ei
  try simp only [List.nil_append, List.append_nil] at f2
  obtain ⟨u2_1, e2_1, rfl⟩ := p2_1.sl.isSlice
  obtain ⟨u2_2, e2_2, rfl⟩ := p2_2.sl.isSlice
  obtain ⟨u2_3, e2_3, rfl⟩ := p2_3.sl.isSlice
  obtain ⟨u2_4, e2_4, rfl⟩ := p2_4.sl.isSlice
  have l0_3 := l0_2.trans k3
  have lW_3 := k3
  refine ⟨_, _, _, _, _, _, _, _, _, _, _, _, _, _, _, _, _, _, _, _, _, _, C2, ?_⟩
  obtain ⟨_, g4, CG, k4, w4, G1, G2, G3, G4, G5, JG1, JG2, JG3, JG4, JG5, rfl, RG1, RG2, RG3, RG4, RG5, fG⟩ := xiTimeOut g3 w3 a0 _ _ _ _ p2_1.sl p2_2.sl p2_3.sl p2_4.sl ok0 sm0
  rw [← hT] at CG RG1 RG2 RG3 RG4 RG5
  obtain ⟨oG1, cG1, rfl⟩ := RG1.sl.isSlice
  obtain ⟨oG2, cG2, rfl⟩ := RG2.sl.isSlice
  obtain ⟨oG3, cG3, rfl⟩ := RG3.sl.isSlice
  obtain ⟨oG4, cG4, rfl⟩ := RG4.sl.isSlice
  obtain ⟨oG5, cG5, rfl⟩ := RG5.sl.isSlice
  have l0_4 := l0_3.trans k4
  have lW_4 := lW_3.trans k4
  have p2_1 := So.le k4 p2_1
  have p2_2 := So.le k4 p2_2
  have p2_3 := So.le k4 p2_3
  have p2_4 := So.le k4 p2_4
  refine ⟨_, _, _, _, _, _, _, _, _, _, _, _, _, _, _, _, _, _, _, _, _, _, _, _, _, _, CG, ?_⟩
  have E1 := eqReplicaOut_spec g4 T T _ _ _ _ _ RG1.sl RG2.sl RG3.sl RG4.sl RG5.sl _ _ _ _ _ (RW1.mono lW_4) (RW2.mono lW_4) (RW3.mono lW_4) (RW4.mono lW_4) (RW5.mono lW_4) okT
  rw [eqb_self] at E1
  refine ⟨_, _, E1, bs_nb (fun e => by cases e) (fun _ => ?_)⟩
  obtain ⟨_, g5, C3, k5, w5, y3_1, y3_2, y3_3, y3_4, ids3, rfl, r3, f3⟩ := toReplica_spec g4 a0 _ _ _ _ (s0_1.mono l0_4) (s0_2.mono l0_4) (s0_3.mono l0_4) (s0_4.mono l0_4) w4 sm0
  obtain ⟨z3_1, z3_2, z3_3, z3_4, d3_1, d3_2, d3_3, d3_4, ez, ei, p3_1, p3_2, p3_3, p3_4⟩ := ro_replica.1 r3
  cases ez
  subst ei
  try simp only [List.nil_append, List.append_nil] at f3
  obtain ⟨u3_1, e3_1, rfl⟩ := p3_1.sl.isSlice
  obtain ⟨u3_2, e3_2, rfl⟩ := p3_2.sl.isSlice
  obtain ⟨u3_3, e3_3, rfl⟩ := p3_3.sl.isSlice
  obtain ⟨u3_4, e3_4, rfl⟩ := p3_4.sl.isSlice
  have l0_5 := l0_4.trans k5
  have lW_5 := lW_4.trans k5
  have p2_1 := So.le k5 p2_1
  have p2_2 := So.le k5 p2_2
  have p2_3 := So.le k5 p2_3
  have p2_4 := So.le k5 p2_4
  have RG1 := So.le k5 RG1
  have RG2 := So.le k5 RG2
  have RG3 := So.le k5 RG3
  have RG4 := So.le k5 RG4
  have RG5 := So.le k5 RG5
  have E2 := eqReplica_spec g5 a0 a0 _ _ _ _ p2_1.sl p2_2.sl p2_3.sl p2_4.sl _ _ _ _ p3_1.sl p3_2.sl p3_3.sl p3_4.sl ok0
  rw [eqb_self] at E2
  refine ⟨_, _, _, _, _, _, _, _, _, _, _, _, _, _, _, _, _, _, _, _, _, _, C3, rfl, _, _, E2, bs_nb (fun e => by cases e) (fun _ => ?_)⟩
  have mk0 := Sh.mkv_cv replicaSh a0 1
  obtain ⟨_, g6, M0, rfl, w6, O0, p2_1, p2_2, p2_3, p2_4⟩ := mkReplica g5 w5 a0 _ _ _ _ _ _ _ _ p2_1 p2_2 p2_3 p2_4 f2.nd 1 (by omega) (by omega)
  have l0_6 := leOut l0_5 hw O0 (fun l hl => by have h1 := (f2.bd l hl).1; have h2 := l0_2.n; omega)
  have lW_6 := leOut lW_5 w2 O0 (fun l hl => by have h1 := (f2.bd l hl).1; have h2 := (AHeap.Le.refl g2).n; omega)
  have RG1 := So.out RG1 O0 (fun l hl hm => by have h1 := f2.bd l hm; have h2 := fG.bd l (by simp [hl]); omega)
  have RG2 := So.out RG2 O0 (fun l hl hm => by have h1 := f2.bd l hm; have h2 := fG.bd l (by simp [hl]); omega)
  have RG3 := So.out RG3 O0 (fun l hl hm => by have h1 := f2.bd l hm; have h2 := fG.bd l (by simp [hl]); omega)
  have RG4 := So.out RG4 O0 (fun l hl hm => by have h1 := f2.bd l hm; have h2 := fG.bd l (by simp [hl]); omega)
  have RG5 := So.out RG5 O0 (fun l hl hm => by have h1 := f2.bd l hm; have h2 := fG.bd l (by simp [hl]); omega)
  refine ⟨_, _, M0, ?_⟩
  refine bs_d (fun e => by omega) (fun _ => ?_)
  have E3 := eqReplicaOut_spec g6 T T _ _ _ _ _ RG1.sl RG2.sl RG3.sl RG4.sl RG5.sl _ _ _ _ _ (RW1.mono lW_6) (RW2.mono lW_6) (RW3.mono lW_6) (RW4.mono lW_6) (RW5.mono lW_6) okT
  rw [eqb_self] at E3
  refine ⟨_, _, E3, bs_nb (fun e => by cases e) (fun _ => ?_)⟩
  have mkG := Sh.mkv_cv replicaOutSh T 1
  obtain ⟨_, g7, MG, rfl, w7, OG, RG1, RG2, RG3, RG4, RG5⟩ := mkReplicaOut g6 w6 T _ _ _ _ _ _ _ _ _ _ RG1 RG2 RG3 RG4 RG5 fG.nd 1 (by omega) (by omega)
  have l0_7 := leOut l0_6 hw OG (fun l hl => by have h1 := (fG.bd l hl).1; have h2 := l0_3.n; omega)
  have lW_7 := leOut lW_6 w2 OG (fun l hl => by have h1 := (fG.bd l hl).1; have h2 := lW_3.n; omega)
  refine ⟨_, _, MG, ?_⟩
  have RG1 := RG1.sl
  have RG2 := RG2.sl
  have RG3 := RG3.sl
  have RG4 := RG4.sl
  have RG5 := RG5.sl
  obtain ⟨_, g8, Q1, rfl, w8, k8⟩ := hdReplicaOut g7 w7 T _ _ _ _ _ 1 (rd_replicaOut.2 ⟨_, _, _, _, _, rfl, RG1, RG2, RG3, RG4, RG5⟩) (by omega) (by omega)
  have l0_8 := l0_7.trans k8
  have lW_8 := lW_7.trans k8
  have RG1 := RG1.mono k8
  have RG2 := RG2.mono k8
  have RG3 := RG3.mono k8
  have RG4 := RG4.mono k8
  have RG5 := RG5.mono k8
  refine ⟨_, _, Q1, bs_d (fun e => absurd e (by omega)) (fun _ => bs_dn (fun e => absurd rfl e) (fun _ => ?_))⟩
  obtain ⟨_, g9, C4, k9, w9, y4_1, y4_2, y4_3, y4_4, ids4, rfl, r4, f4⟩ := toReplica_spec g8 a0 _ _ _ _ (s0_1.mono l0_8) (s0_2.mono l0_8) (s0_3.mono l0_8) (s0_4.mono l0_8) w8 sm0
  obtain ⟨z4_1, z4_2, z4_3, z4_4, d4_1, d4_2, d4_3, d4_4, ez, ei, p4_1, p4_2, p4_3, p4_4⟩ := ro_replica.1 r4
  cases ez
  subst ei
  try simp only [List.nil_append, List.append_nil] at f4
  obtain ⟨u4_1, e4_1, rfl⟩ := p4_1.sl.isSlice
  obtain ⟨u4_2, e4_2, rfl⟩ := p4_2.sl.isSlice
  obtain ⟨u4_3, e4_3, rfl⟩ := p4_3.sl.isSlice
  obtain ⟨u4_4, e4_4, rfl⟩ := p4_4.sl.isSlice
  have l0_9 := l0_8.trans k9
  have lW_9 := lW_8.trans k9
  have RG1 := RG1.mono k9
  have RG2 := RG2.mono k9
  have RG3 := RG3.mono k9
  have RG4 := RG4.mono k9
  have RG5 := RG5.mono k9
  refine ⟨_, _, _, _, _, _, _, _, _, _, _, _, _, _, _, _, _, _, _, _, _, _, C4, ?_⟩
  obtain ⟨_, g10, CH, k10, w10, H1, H2, H3, H4, H5, JH1, JH2, JH3, JH4, JH5, rfl, RH1, RH2, RH3, RH4, RH5, fH⟩ := xiTimeOut g9 w9 a0 _ _ _ _ p4_1.sl p4_2.sl p4_3.sl p4_4.sl ok0 sm0
  rw [← hT] at CH RH1 RH2 RH3 RH4 RH5
  obtain ⟨oH1, cH1, rfl⟩ := RH1.sl.isSlice
  obtain ⟨oH2, cH2, rfl⟩ := RH2.sl.isSlice
  obtain ⟨oH3, cH3, rfl⟩ := RH3.sl.isSlice
  obtain ⟨oH4, cH4, rfl⟩ := RH4.sl.isSlice
  obtain ⟨oH5, cH5, rfl⟩ := RH5.sl.isSlice
  have l0_10 := l0_9.trans k10
  have lW_10 := lW_9.trans k10
  have RG1 := RG1.mono k10
  have RG2 := RG2.mono k10
  have RG3 := RG3.mono k10
  have RG4 := RG4.mono k10
  have RG5 := RG5.mono k10
  refine ⟨_, _, _, _, _, _, _, _, _, _, _, _, _, _, _, _, _, _, _, _, _, _, _, _, _, _, CH, ?_⟩
  have E4 := eqReplicaOut_spec g10 T T _ _ _ _ _ RH1.sl RH2.sl RH3.sl RH4.sl RH5.sl _ _ _ _ _ (RW1.mono lW_10) (RW2.mono lW_10) (RW3.mono lW_10) (RW4.mono lW_10) (RW5.mono lW_10) okT
  rw [eqb_self] at E4
  refine ⟨_, _, E4, bs_nb (fun e => by cases e) (fun _ => ?_)⟩
  obtain ⟨_, g11, Q2, rfl, w11, k11⟩ := hdReplicaOut g10 w10 T _ _ _ _ _ 1 (rd_replicaOut.2 ⟨_, _, _, _, _, rfl, RG1, RG2, RG3, RG4, RG5⟩) (by omega) (by omega)
  have l0_11 := l0_10.trans k11
  have lW_11 := lW_10.trans k11
  have RH1 := So.le k11 RH1
  have RH2 := So.le k11 RH2
  have RH3 := So.le k11 RH3
  have RH4 := So.le k11 RH4
  have RH5 := So.le k11 RH5
  have RG1 := RG1.mono k11
  have RG2 := RG2.mono k11
  have RG3 := RG3.mono k11
  have RG4 := RG4.mono k11
  have RG5 := RG5.mono k11
  refine ⟨_, _, Q2, bs_d (fun e => absurd e (by omega)) (fun _ => bs_dn (fun e => absurd rfl e) (fun _ => ?_))⟩
  exact HQ _ _ rfl
end Go.Proofs.YtpgfjadjhliohaaGreat
end
