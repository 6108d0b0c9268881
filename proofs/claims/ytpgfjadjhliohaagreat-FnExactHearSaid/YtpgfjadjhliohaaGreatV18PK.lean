/- PJ, P8, PK. -/
import Derived.Test.YtpgfjadjhliohaaGreatV18PI
import Derived.Test.YtpgfjadjhliohaaGreatV18P7
import Derived.Test.YtpgfjadjhliohaaGreatV18P1
section
namespace Go.Proofs.YtpgfjadjhliohaaGreat
open Go.Abs Go.Dat
set_option maxRecDepth 100000
set_option maxHeartbeats 8000000
abbrev Q10d := Option Addr
def Qzy := True ∧ True
def Qzz (a : FuncId) (b : List Value) (c : AHeap) (d : Value) (e : AHeap) (f : Prop) := ACall Tryz.prog a b c d e ∧ f
def Q100 (a : Int) := Value.int IntKind.i64 a
def Q101 (a : List Value) := Value.agg (Array.mk a)
def Q102 (a b c d : Int) (e : ByteArray) (f : Q10d) (g h : Nat) := [Q100 a, Q100 b, Q100 c, Q100 d, Value.string e, Value.slice f g h]
def Q103 := (0 : Nat)
def Q104 (a : Nat) := Value.pointer (some (Addr.mk a Q103 (some Q103)))
theorem hear1c_spec {h g : AHeap} {l : Nat} {w : Wk} (hw : h.wf) (W : WkOk h.n l g w) (le : h.Le g) (R : ROk 1000 0 (w.rep, w.says.xs)) (k f v q : Int) (op : ByteArray) (cs : List changeSh.T) (a : Option Addr) (c : Nat) (hx : Sl h changeSh cs (.slice a cs.length c)) (H : SayOk k f v q op cs) (ok : saySh.ok (k, f, v, q, op, cs)) (sm : (Sh.sl changeSh).small cs) (lo : Nat) (hl : g.ld lo 0 0 6 = some [.int .i64 k, .int .i64 f, .int .i64 v, .int .i64 q, .string op, .slice a cs.length c]) :
    ∃ r g', ACall Tryz.prog 69 [.pointer (some ⟨l, 0, some 0⟩), .pointer (some ⟨lo, 0, some 0⟩)] g r g' ∧ ∃ w', WkOk h.n l g' w' ∧ Mv l w w' g g' ∧ ((∃ e, hearR w.rep k f v q op cs = .inl e ∧ r = .int .i64 e ∧ ¬ e = 0) ∨ (hearR w.rep k f v q op cs = .inr (w'.rep, w'.says.xs) ∧ r = .int .i64 0)) := by
  obtain ⟨rv, g', A, w', W', M', hr⟩ := iHear_spec hw W le R k f v q op cs a c hx H ok sm
  have hi : ∃ e : Int, rv = Value.int .i64 e := by
    rcases hr with ⟨e, _, rfl, _⟩ | ⟨_, rfl⟩
    · exact ⟨e, rfl⟩
    · exact ⟨0, rfl⟩
  obtain ⟨e, rfl⟩ := hi
  refine acall_q fun Q HQ => ?_
  refine acall_vc (fun _ => false) (fun _ => []) (fun _ => .none) mixed Tryz.func69 rfl rfl rfl (Nat.le_of_ble_eq_true rfl) (by (refine vc_mp (by kernel_rfl : (True ∧ Qzy) = _) ?_; delta Qzy); simp only [and_self]) ?_
  (refine vc_mp (by kernel_rfl : (∃ (x x_1 x_2 x_3 : Int) (x_4 : ByteArray) (a : Option Addr) (n c : Nat), AHeap.ld g lo Q103 Q103 6 = some (Q102 x x_1 x_2 x_3 x_4 a n c) ∧ (∃ (x_5 : Int) (h' : AHeap), Qzz 70 [Q104 l, Q101 (Q102 x x_1 x_2 x_3 x_4 a n c)] g (Q100 x_5) h' (Q (Q100 x_5) h'))) = _) ?_; delta Qzz Q100 Q101 Q102 Q103 Q104)
  exact ⟨_, _, _, _, _, _, _, _, hl, _, _, A, HQ _ _ ⟨w', W', M', hr⟩⟩
def Q105 (a b : Int) (c : Bool) (d : Int) (e : Q10d) (f g : Nat) (h : Q10d) (i j : Nat) (k l m n : Int) (o : ByteArray) (p : Q10d) (q r : Nat) (s : Q10d) (t u : Nat) (v w : Value) := Q101 [Q100 a, Q100 b, Value.bool c, Q100 d, Value.slice e f g, Value.slice h i j, Q100 k, Q100 l, Q100 m, Q100 n, Value.string o, Value.slice p q r, Value.slice s t u, v, w]
def Q106 := Q100 (Int.ofNat Q103)
def Q107 (a b : AHeap) (c d : Nat) := AHeap.ld a (AHeap.n b) Q103 c d
def Q108 (a : Int) (b : Value) (c : Bool) (d : Value) (e : Q10d) (f g : Nat) (h i j k l : Value) (m : ByteArray) (n : Value) (o : Q10d) (p q : Nat) := [Q100 a, b, Value.bool c, d, Value.slice e f g, h, i, j, k, l, Value.string m, n, Value.slice o p q]
def Q109 := Value.slice none Q103 Q103
def Q10a (a : Value) := Q101 [Q106, Q106, Value.bool false, Q106, Q109, Q109, Q106, Q106, Q106, Q106, Value.string (ByteArray.mk (Array.mk List.nil)), Q109, Q109, Q109, a]
def Q10b (a : Q10d) (b : List (Sh.T changeSh)) (c : Nat) := Value.slice a (List.length b) c
theorem repliedHear (h : AHeap) (hw : h.wf) (id view top k f v q : Int) (chg : Bool) (vs : List voteSh.T) (cg : List changeSh.T) (op : ByteArray) (cs : List changeSh.T) (log : List Sh.str.T) (a1 : Option Addr) (c1 : Nat) (a2 : Option Addr) (c2 : Nat) (a3 : Option Addr) (c3 : Nat) (a4 : Option Addr) (c4 : Nat)
    (h1 : Sl h voteSh vs (.slice a1 vs.length c1)) (h2 : Sl h changeSh cg (.slice a2 cg.length c2)) (h3 : Sl h changeSh cs (.slice a3 cs.length c3)) (h4 : Sl h Sh.str log (.slice a4 log.length c4))
    (ok : replicaSh.ok (id, view, chg, top, vs, cg, (k, f, v, q, op, cs), log)) (sm : replicaSh.small (id, view, chg, top, vs, cg, (k, f, v, q, op, cs), log)) (HR : RepOk (id, view, chg, top, vs, cg, (k, f, v, q, op, cs), log)) (k' f' v' q' : Int) (op' : ByteArray) (cs' : List changeSh.T) (a5 : Option Addr) (c5 : Nat) (h5 : Sl h changeSh cs' (.slice a5 cs'.length c5)) (ok5 : saySh.ok (k', f', v', q', op', cs')) (sm5 : saySh.small (k', f', v', q', op', cs')) (HS : SayOk k' f' v' q' op' cs') (lo : Nat) (ho : h.get lo = some ⟨[[.int .i64 k', .int .i64 f', .int .i64 v', .int .i64 q', .string op', .slice a5 cs'.length c5]], 6, true⟩) :
    ∃ r h', ACall Tryz.prog 57 [.agg #[.int .i64 id, .int .i64 view, .bool chg, .int .i64 top, .slice a1 vs.length c1, .slice a2 cg.length c2, .int .i64 k, .int .i64 f, .int .i64 v, .int .i64 q, .string op, .slice a3 cs.length c3, .slice a4 log.length c4], .func (.func 69) #[] #[.pointer (some ⟨lo, 0, some 0⟩)]] h r h' ∧ h.Le h' ∧ h'.wf ∧
      OutOf h h' r (outR (hearR (id, view, chg, top, vs, cg, (k, f, v, q, op, cs), log) k' f' v' q' op' cs')) := by
  refine acall_q fun Q HQ => ?_
  refine acall_vc (fun t => t == 10) (fun r => match r with | 6 => [(0, 0, []), (1, 0, []), (2, 0, []), (4, 0, []), (5, 0, []), (6, 0, []), (3, 1, []), (7, 1, []), (8, 0, []), (9, 3, [])] | _ => []) (fun _ => .none) mixed Tryz.func57 rfl rfl rfl (Nat.le_of_ble_eq_true rfl) (by (refine vc_mp (by kernel_rfl : (True ∧ True ∧ (True ∧ True ∧ Qzy ∧ True) ∧ True ∧ Qzy) = _) ?_; delta Qzy); simp only [and_self]) ?_
  (refine vc_mp (by kernel_rfl : (∃ (x x_1 : Int) (x_2 : Bool) (x_3 : Int) (a : Option Addr) (n c : Nat) (a_1 : Option Addr) (n_1 c_1 : Nat) (x_4 x_5 x_6 x_7 : Int) (x_8 : ByteArray) (a_2 : Option Addr) (n_2 c_2 : Nat) (a_3 : Option Addr) (n_3 c_3 : Nat) (h' : AHeap), Qzz 107 [Q101 (Q108 id (Q100 view) chg (Q100 top) a1 (List.length vs) c1 (Q10b a2 cg c2) (Q100 k) (Q100 f) (Q100 v) (Q100 q) op (Q10b a3 cs c3) a4 (List.length log) c4)] h (Q101 (Q108 x (Q100 x_1) x_2 (Q100 x_3) a n c (Value.slice a_1 n_1 c_1) (Q100 x_4) (Q100 x_5) (Q100 x_6) (Q100 x_7) x_8 (Value.slice a_2 n_2 c_2) a_3 n_3 c_3)) h' (∃ (x_9 : Int) (h'_1 : AHeap), Qzz 69 [Q104 (AHeap.n h'), Q104 lo] (AHeap.push h' (AObj.mk [[Q100 x, Q100 x_1, Value.bool x_2, Q100 x_3, Value.slice a n c, Value.slice a_1 n_1 c_1, Q100 x_4, Q100 x_5, Q100 x_6, Q100 x_7, Value.string x_8, Value.slice a_2 n_2 c_2, Value.slice a_3 n_3 c_3, Q109]] 14 true)) (Q100 x_9) h'_1 (bs (not (decide (x_9 = 0))) (Q (Q10a (Q100 x_9)) h'_1) (∃ (h'_2 : AHeap), Qzz 108 [Q104 (AHeap.n h')] h'_1 (Value.tuple (Array.mk List.nil)) h'_2 (∃ (x x_10 : Int) (x_11 : Bool) (x_12 : Int) (a : Option Addr) (n c : Nat) (a_4 : Option Addr) (n_4 c_4 : Nat) (x_13 x_14 x_15 x_16 : Int) (x_17 : ByteArray) (a_5 : Option Addr) (n_5 c_5 : Nat) (a_6 : Option Addr) (n_6 c_6 : Nat), Q107 h'_2 h' Q103 13 = some (Q108 x (Q100 x_10) x_11 (Q100 x_12) a n c (Value.slice a_4 n_4 c_4) (Q100 x_13) (Q100 x_14) (Q100 x_15) (Q100 x_16) x_17 (Value.slice a_5 n_5 c_5) a_6 n_6 c_6) ∧ (∃ (a_7 : Option Addr) (n_7 c_7 : Nat), Q107 h'_2 h' 13 1 = some [Value.slice a_7 n_7 c_7] ∧ Q (Q105 x x_10 x_11 x_12 a n c a_4 n_4 c_4 x_13 x_14 x_15 x_16 x_17 a_5 n_5 c_5 a_6 n_6 c_6 (Value.slice a_7 n_7 c_7) Q106) h'_2)))))) = _) ?_; delta Qzz Q100 Q101 Q103 Q104 Q105 Q106 Q107 Q108 Q109 Q10a Q10b)
  have R0 := ROk.of HR ok
  have KO := R0.hear HS ok5
  obtain ⟨_, g1, A1, V, C, N, L, X, rfl⟩ := cloneReplica_spec h hw id view top k f v q chg vs cg op cs log a1 c1 a2 c2 a3 c3 a4 c4 h1 h2 h3 h4 sm.2.2.2.2.1.1 sm.2.2.2.2.2.1 sm.2.2.2.2.2.2.1.2.2.2.2.2 sm.2.2.2.2.2.2.2.1
  have W0 := X.wk id view top k f v q chg op
  obtain ⟨le1, wf1, eV0, eC, eN, eL, _⟩ := X
  have lp := le1.trans (AHeap.Le.push wf1 ⟨[(⟨id, view, chg, top, V, C, k, f, v, q, op, N, L, ⟨none, 0, [], []⟩⟩ : Wk).row], 14, true⟩)
  have er0 : (⟨id, view, chg, top, V, C, k, f, v, q, op, N, L, ⟨none, 0, [], []⟩⟩ : Wk).rep = (id, view, chg, top, vs, cg, (k, f, v, q, op, cs), log) := by unfold Wk.rep; dsimp only; rw [eV0, eC, eN, eL]
  have RW : ROk 1000 0 ((⟨id, view, chg, top, V, C, k, f, v, q, op, N, L, ⟨none, 0, [], []⟩⟩ : Wk).rep, []) := by rw [er0]; exact R0
  obtain ⟨_, g2, A2, w', W2, M2, hr⟩ := hear1c_spec hw W0 lp RW k' f' v' q' op' cs' a5 c5 h5 HS ok5 sm5.2.2.2.2.2 lo (by rw [AHeap.ld, lp.get _ _ ho]; rfl)
  rw [er0] at hr
  rcases hr with ⟨e, he, rfl, hne⟩ | ⟨he, rfl⟩
  · refine ⟨_, _, _, _, _, _, _, _, _, _, _, _, _, _, _, _, _, _, _, _, _, _, A1, _, _, A2, bs_dn (fun _ => HQ _ _ ⟨M2.le W0 hw lp, W2.wf, by rw [he]; exact outOf_ill _ _ _⟩) (fun h => absurd h hne)⟩
  · rw [he] at KO
    have KW : ROk 1000 7 (w'.rep, w'.says.xs) := KO
    obtain ⟨_, g5, A5, V2, S2, L2, rfl, est, eL2, W5, M5⟩ := goOn_spec W2 KW.vs.H KW.id KW.vw (Nat.le_trans KW.vs.n (by decide)) KW.hl
    refine ⟨_, _, _, _, _, _, _, _, _, _, _, _, _, _, _, _, _, _, _, _, _, _, A1, _, _, A2, bs_dn (fun h => absurd rfl h) (fun _ => ?_)⟩
    refine ⟨_, A5, _, _, _, _, _, _, _, _, _, _, _, _, _, _, _, _, _, _, _, _, _, W5.ld (i := 0) (n := 13) rfl (by decide), _, _, _, W5.ld (i := 13) (n := 1) rfl (by decide), HQ _ _ ⟨(M2.trans W0.wf M5).le W0 hw lp, W5.wf, ?_⟩⟩
    rw [he]
    exact outOf_wk W5 est eL2
def Q10c := Q10a (Q100 1)
theorem implHear (h : AHeap) (hw : h.wf) (id view top k f v q : Int) (chg : Bool) (vs : List voteSh.T) (cg : List changeSh.T) (op : ByteArray) (cs : List changeSh.T) (log : List Sh.str.T) (a1 : Option Addr) (c1 : Nat) (a2 : Option Addr) (c2 : Nat) (a3 : Option Addr) (c3 : Nat) (a4 : Option Addr) (c4 : Nat)
    (h1 : Sl h voteSh vs (.slice a1 vs.length c1)) (h2 : Sl h changeSh cg (.slice a2 cg.length c2)) (h3 : Sl h changeSh cs (.slice a3 cs.length c3)) (h4 : Sl h Sh.str log (.slice a4 log.length c4))
    (ok : replicaSh.ok (id, view, chg, top, vs, cg, (k, f, v, q, op, cs), log)) (sm : replicaSh.small (id, view, chg, top, vs, cg, (k, f, v, q, op, cs), log)) (k' f' v' q' : Int) (op' : ByteArray) (cs' : List changeSh.T) (a5 : Option Addr) (c5 : Nat) (h5 : Sl h changeSh cs' (.slice a5 cs'.length c5)) (ok5 : saySh.ok (k', f', v', q', op', cs')) (sm5 : saySh.small (k', f', v', q', op', cs')) :
    ∃ r h', ACall Tryz.prog 24 [.agg #[.int .i64 id, .int .i64 view, .bool chg, .int .i64 top, .slice a1 vs.length c1, .slice a2 cg.length c2, .int .i64 k, .int .i64 f, .int .i64 v, .int .i64 q, .string op, .slice a3 cs.length c3, .slice a4 log.length c4], .agg #[.int .i64 k', .int .i64 f', .int .i64 v', .int .i64 q', .string op', .slice a5 cs'.length c5]] h r h' ∧ h.Le h' ∧ h'.wf ∧ OutOf h h' r (hearM (id, view, chg, top, vs, cg, (k, f, v, q, op, cs), log) (k', f', v', q', op', cs')) := by
  refine acall_q fun Q HQ => ?_
  refine acall_vc (fun t => t == 3) (fun _ => []) (fun _ => .none) mixed Tryz.func24 rfl rfl rfl (Nat.le_of_ble_eq_true rfl) (by (refine vc_mp (by kernel_rfl : (True ∧ (True ∧ Qzy ∧ True) ∧ Qzy) = _) ?_; delta Qzy); simp only [and_self]) ?_
  (refine vc_mp (by kernel_rfl : (∃ (x : Bool) (h' : AHeap), Qzz 39 [Q101 (Q108 id (Q100 view) chg (Q100 top) a1 (List.length vs) c1 (Q10b a2 cg c2) (Q100 k) (Q100 f) (Q100 v) (Q100 q) op (Q10b a3 cs c3) a4 (List.length log) c4)] (AHeap.push h (AObj.mk [[Q100 k', Q100 f', Q100 v', Q100 q', Value.string op', Q10b a5 cs' c5]] 6 true)) (Value.bool x) h' (bs (not x) (Q Q10c h') (∃ (x x_1 x_2 x_3 : Int) (x_4 : ByteArray) (a : Option Addr) (n c : Nat), Q107 h' h Q103 6 = some (Q102 x x_1 x_2 x_3 x_4 a n c) ∧ (∃ (x_5 : Bool) (h'_1 : AHeap), Qzz 68 [Q101 (Q102 x x_1 x_2 x_3 x_4 a n c)] h' (Value.bool x_5) h'_1 (bs (not x_5) (Q Q10c h'_1) (∃ (x : Int), Q107 h'_1 h 1 1 = some [Q100 x] ∧ bs (decide (x = id)) (Q Q10c h'_1) (∃ (x x_6 : Int) (x_7 : Bool) (x_8 : Int) (a : Option Addr) (n c : Nat) (a_1 : Option Addr) (n_1 c_1 : Nat) (x_9 x_10 x_11 x_12 : Int) (x_13 : ByteArray) (a_2 : Option Addr) (n_2 c_2 : Nat) (a_3 : Option Addr) (n_3 c_3 : Nat) (a_4 : Option Addr) (n_4 c_4 : Nat) (x_14 : Int) (h' : AHeap), Qzz 57 [Q101 (Q108 id (Q100 view) chg (Q100 top) a1 (List.length vs) c1 (Q10b a2 cg c2) (Q100 k) (Q100 f) (Q100 v) (Q100 q) op (Q10b a3 cs c3) a4 (List.length log) c4), Value.func (Fn.func 69) (Array.mk List.nil) (Array.mk [Q104 (AHeap.n h)])] h'_1 (Q105 x x_6 x_7 x_8 a n c a_1 n_1 c_1 x_9 x_10 x_11 x_12 x_13 a_2 n_2 c_2 a_3 n_3 c_3 (Value.slice a_4 n_4 c_4) (Q100 x_14)) h' (Q (Q105 x x_6 x_7 x_8 a n c a_1 n_1 c_1 x_9 x_10 x_11 x_12 x_13 a_2 n_2 c_2 a_3 n_3 c_3 (Value.slice a_4 n_4 c_4) (Q100 x_14)) h')))))))) = _) ?_; delta Qzz Q100 Q101 Q102 Q103 Q104 Q105 Q106 Q107 Q108 Q109 Q10a Q10b Q10c)
  have lp := AHeap.Le.push hw ⟨[[.int .i64 k', .int .i64 f', .int .i64 v', .int .i64 q', .string op', .slice a5 cs'.length c5]], 6, true⟩
  have wp := hw.push ⟨[[.int .i64 k', .int .i64 f', .int .i64 v', .int .i64 q', .string op', .slice a5 cs'.length c5]], 6, true⟩
  have ill : ∀ (u : AHeap) (c : Int), h.Le u → u.wf → hearM (id, view, chg, top, vs, cg, (k, f, v, q, op, cs), log) (k', f', v', q', op', cs') = illM c → Q (.agg #[.int .i64 0, .int .i64 0, .bool false, .int .i64 0, .slice none 0 0, .slice none 0 0, .int .i64 0, .int .i64 0, .int .i64 0, .int .i64 0, .string ⟨#[]⟩, .slice none 0 0, .slice none 0 0, .slice none 0 0, .int .i64 c]) u := fun u c le w e => HQ _ _ ⟨le, w, by rw [e]; exact outOf_ill _ _ c⟩
  obtain ⟨_, g1, A1, le1, w1, rfl⟩ := isReplicaRight_spec _ wp id view top k f v q chg vs cg op cs log a1 c1 a2 c2 a3 c3 a4 c4 (h1.mono lp) (h2.mono lp) (h3.mono lp) (h4.mono lp) ok
  have go := le1.get _ _ (AHeap.get_push_eq (h := h) (o := ⟨[[.int .i64 k', .int .i64 f', .int .i64 v', .int .i64 q', .string op', .slice a5 cs'.length c5]], 6, true⟩))
  have l1 := lp.trans le1
  have hl : g1.ld h.n 0 0 6 = some [.int .i64 k', .int .i64 f', .int .i64 v', .int .i64 q', .string op', .slice a5 cs'.length c5] := by rw [AHeap.ld, go]; rfl
  have A2 := isSay_spec g1 k' f' v' q' op' cs' a5 c5 (h5.mono l1) ok5.2.2.2.2.2
  refine ⟨_, _, A1, bs_nb (fun e1 => ill _ 1 l1 w1 (if_neg fun H => of_trn e1 H.1)) (fun e1 => ⟨_, _, _, _, _, _, _, _, hl, _, _, A2, bs_nb (fun e2 => ill _ 1 l1 w1 (if_neg fun H => of_trn e2 H.2.1)) (fun e2 => ⟨_, ld_cells (k := 1) (m := 1) hl (by simp), bs_d (fun e3 => ill _ 1 l1 w1 (if_neg fun H => H.2.2 e3)) (fun e3 => ?_)⟩)⟩)⟩
  obtain ⟨_, g2, A3, le2, w2, y1, y2, y3, y4, y5, j1, j2, j3, j4, j5, rfl, s1, s2, s3, s4, s5, fr⟩ := repliedHear g1 w1 id view top k f v q chg vs cg op cs log a1 c1 a2 c2 a3 c3 a4 c4 (h1.mono l1) (h2.mono l1) (h3.mono l1) (h4.mono l1) ok sm (of_tr e1) k' f' v' q' op' cs' a5 c5 (h5.mono l1) ok5 sm5 (of_tr e2) h.n go
  have eM : hearM (id, view, chg, top, vs, cg, (k, f, v, q, op, cs), log) (k', f', v', q', op', cs') = outR (hearR (id, view, chg, top, vs, cg, (k, f, v, q, op, cs), log) k' f' v' q' op' cs') := if_pos ⟨of_tr e1, of_tr e2, e3⟩
  obtain ⟨b1, d1, rfl⟩ := s1.sl.isSlice
  obtain ⟨b2, d2, rfl⟩ := s2.sl.isSlice
  obtain ⟨b3, d3, rfl⟩ := s3.sl.isSlice
  obtain ⟨b4, d4, rfl⟩ := s4.sl.isSlice
  obtain ⟨b5, d5, rfl⟩ := s5.sl.isSlice
  refine ⟨_, _, _, _, _, _, _, _, _, _, _, _, _, _, _, _, _, _, _, _, _, _, _, _, _, _, A3, HQ _ _ ⟨l1.trans le2, w2, ?_⟩⟩
  rw [eM]
  exact ⟨_, _, _, _, _, _, _, _, _, _, rfl, s1, s2, s3, s4, s5, fr.widen l1.n (Nat.le_refl _)⟩
end Go.Proofs.YtpgfjadjhliohaaGreat
end
section
namespace Go.Proofs.YtpgfjadjhliohaaGreat
open Go.Abs Go.Dat
set_option maxRecDepth 100000
set_option maxHeartbeats 8000000
end Go.Proofs.YtpgfjadjhliohaaGreat
end
section
namespace Go.Dat
open Go.Abs
theorem keepq {a b : AHeap} (le : a.Le b) {l : Nat} {o : AObj} (e : a.get l = some o) : b.get l = a.get l ∧ a.n ≤ b.n := ⟨by rw [e]; exact le.get l o e, le.n⟩
end Go.Dat
namespace Go.Proofs.YtpgfjadjhliohaaGreat
open Go.Abs Go.Dat
set_option maxRecDepth 100000
set_option maxHeartbeats 8000000
theorem hearM_ok (r : replicaSh.T) (ok : replicaSh.ok r) (_ : replicaSh.small r) (s : saySh.T) (oks : saySh.ok s) (_ : saySh.small s) : replicaOutSh.ok (hearM r s) := (hearM_oks r ok s oks).1
theorem hearM_cn (r : replicaSh.T) (ok : replicaSh.ok r) (_ : replicaSh.small r) (_ : (replicaSh.cv r : Int) ≤ 200000000) (s : saySh.T) (oks : saySh.ok s) (_ : saySh.small s) (_ : (saySh.cv s : Int) ≤ 200000000) : (replicaOutSh.cv (hearM r s) : Int) ≤ 900000000000 := by
  have := (hearM_oks r ok s oks).2
  omega
theorem xsHear (h : AHeap) (hw : h.wf) (r : replicaSh.T) (v1 v2 v3 v4 : Value) (h1 : Sl h voteSh r.2.2.2.2.1 v1) (h2 : Sl h changeSh r.2.2.2.2.2.1 v2) (h3 : Sl h changeSh r.2.2.2.2.2.2.1.2.2.2.2.2 v3) (h4 : Sl h Sh.str r.2.2.2.2.2.2.2 v4) (ok : replicaSh.ok r) (sm : replicaSh.small r) (s : saySh.T) (v5 : Value) (h5 : Sl h changeSh s.2.2.2.2.2 v5) (ok5 : saySh.ok s) (sm5 : saySh.small s) :
    ∃ v h', ACall Tryz.prog 22 [repV r v1 v2 v3 v4, .agg #[.int .i64 s.1, .int .i64 s.2.1, .int .i64 s.2.2.1, .int .i64 s.2.2.2.1, .string s.2.2.2.2.1, v5]] h v h' ∧ h.Le h' ∧ h'.wf ∧ ∃ y1 y2 y3 y4 y5 j1 j2 j3 j4 j5, v = .agg #[.int .i64 (hearM r s).1.1, .int .i64 (hearM r s).1.2.1, .bool (hearM r s).1.2.2.1, .int .i64 (hearM r s).1.2.2.2.1, y1, y2, .int .i64 (hearM r s).1.2.2.2.2.2.2.1.1, .int .i64 (hearM r s).1.2.2.2.2.2.2.1.2.1, .int .i64 (hearM r s).1.2.2.2.2.2.2.1.2.2.1, .int .i64 (hearM r s).1.2.2.2.2.2.2.1.2.2.2.1, .string (hearM r s).1.2.2.2.2.2.2.1.2.2.2.2.1, y3, y4, y5, .int .i64 (hearM r s).2.2] ∧
      So h' voteSh (hearM r s).1.2.2.2.2.1 y1 j1 ∧ So h' changeSh (hearM r s).1.2.2.2.2.2.1 y2 j2 ∧ So h' changeSh (hearM r s).1.2.2.2.2.2.2.1.2.2.2.2.2 y3 j3 ∧ So h' Sh.str (hearM r s).1.2.2.2.2.2.2.2 y4 j4 ∧ So h' saySh (hearM r s).2.1 y5 j5 ∧ Fresh h.n h'.n (j1 ++ (j2 ++ (j3 ++ (j4 ++ j5)))) := by
  obtain ⟨(id : Int), (view : Int), (chg : Bool), (top : Int), (vs : List voteSh.T), (cg : List changeSh.T), ⟨(k : Int), (f : Int), (v : Int), (q : Int), (op1 : ByteArray), (cs : List changeSh.T)⟩, (log : List Sh.str.T)⟩ := r
  obtain ⟨(k' : Int), (f' : Int), (v' : Int), (q' : Int), (op' : ByteArray), (cs' : List changeSh.T)⟩ := s
  obtain ⟨a1, c1, rfl⟩ := h1.isSlice
  obtain ⟨a5, c5, rfl⟩ := h5.isSlice
  obtain ⟨a2, c2, rfl⟩ := h2.isSlice
  obtain ⟨a3, c3, rfl⟩ := h3.isSlice
  obtain ⟨a4, c4, rfl⟩ := h4.isSlice
  obtain ⟨_, _, A, le, w, R⟩ := specHear h hw id view top k f v q chg vs cg op1 cs log a1 c1 a2 c2 a3 c3 a4 c4 h1 h2 h3 h4 ok sm k' f' v' q' op' cs' a5 c5 h5 ok5 sm5
  exact ⟨_, _, A, le, w, R⟩
theorem xiHear (h : AHeap) (hw : h.wf) (r : replicaSh.T) (v1 v2 v3 v4 : Value) (h1 : Sl h voteSh r.2.2.2.2.1 v1) (h2 : Sl h changeSh r.2.2.2.2.2.1 v2) (h3 : Sl h changeSh r.2.2.2.2.2.2.1.2.2.2.2.2 v3) (h4 : Sl h Sh.str r.2.2.2.2.2.2.2 v4) (ok : replicaSh.ok r) (sm : replicaSh.small r) (s : saySh.T) (v5 : Value) (h5 : Sl h changeSh s.2.2.2.2.2 v5) (ok5 : saySh.ok s) (sm5 : saySh.small s) :
    ∃ v h', ACall Tryz.prog 24 [repV r v1 v2 v3 v4, .agg #[.int .i64 s.1, .int .i64 s.2.1, .int .i64 s.2.2.1, .int .i64 s.2.2.2.1, .string s.2.2.2.2.1, v5]] h v h' ∧ h.Le h' ∧ h'.wf ∧ ∃ y1 y2 y3 y4 y5 j1 j2 j3 j4 j5, v = .agg #[.int .i64 (hearM r s).1.1, .int .i64 (hearM r s).1.2.1, .bool (hearM r s).1.2.2.1, .int .i64 (hearM r s).1.2.2.2.1, y1, y2, .int .i64 (hearM r s).1.2.2.2.2.2.2.1.1, .int .i64 (hearM r s).1.2.2.2.2.2.2.1.2.1, .int .i64 (hearM r s).1.2.2.2.2.2.2.1.2.2.1, .int .i64 (hearM r s).1.2.2.2.2.2.2.1.2.2.2.1, .string (hearM r s).1.2.2.2.2.2.2.1.2.2.2.2.1, y3, y4, y5, .int .i64 (hearM r s).2.2] ∧
      So h' voteSh (hearM r s).1.2.2.2.2.1 y1 j1 ∧ So h' changeSh (hearM r s).1.2.2.2.2.2.1 y2 j2 ∧ So h' changeSh (hearM r s).1.2.2.2.2.2.2.1.2.2.2.2.2 y3 j3 ∧ So h' Sh.str (hearM r s).1.2.2.2.2.2.2.2 y4 j4 ∧ So h' saySh (hearM r s).2.1 y5 j5 ∧ Fresh h.n h'.n (j1 ++ (j2 ++ (j3 ++ (j4 ++ j5)))) := by
  obtain ⟨(id : Int), (view : Int), (chg : Bool), (top : Int), (vs : List voteSh.T), (cg : List changeSh.T), ⟨(k : Int), (f : Int), (v : Int), (q : Int), (op1 : ByteArray), (cs : List changeSh.T)⟩, (log : List Sh.str.T)⟩ := r
  obtain ⟨(k' : Int), (f' : Int), (v' : Int), (q' : Int), (op' : ByteArray), (cs' : List changeSh.T)⟩ := s
  obtain ⟨a1, c1, rfl⟩ := h1.isSlice
  obtain ⟨a5, c5, rfl⟩ := h5.isSlice
  obtain ⟨a2, c2, rfl⟩ := h2.isSlice
  obtain ⟨a3, c3, rfl⟩ := h3.isSlice
  obtain ⟨a4, c4, rfl⟩ := h4.isSlice
  obtain ⟨_, _, A, le, w, R⟩ := implHear h hw id view top k f v q chg vs cg op1 cs log a1 c1 a2 c2 a3 c3 a4 c4 h1 h2 h3 h4 ok sm k' f' v' q' op' cs' a5 c5 h5 ok5 sm5
  exact ⟨_, _, A, le, w, R⟩
end Go.Proofs.YtpgfjadjhliohaaGreat
end
