/- P5, P6. -/
import Derived.Test.YtpgfjadjhliohaaGreatV17P4
import Derived.Test.YtpgfjadjhliohaaGreatV17P3
section
namespace Go.Dat
open Go.Abs
open Classical in
noncomputable def askCode (id view top : Int) (chg : Bool) (vs : List voteSh.T) (log : List Sh.str.T) (op : ByteArray) : Int :=
  if chg = true ∨ ¬ view % 4 = id then 10 else if AskedM id view vs log op then 7 else if top = 6 then 9 else 0
theorem askCode10 {id view top : Int} {chg : Bool} {vs : List voteSh.T} {log : List Sh.str.T} {op : ByteArray} (h : chg = true ∨ ¬ view % 4 = id) : askCode id view top chg vs log op = 10 := if_pos h
theorem askCode7 {id view top : Int} {chg : Bool} {vs : List voteSh.T} {log : List Sh.str.T} {op : ByteArray} (h : ¬ (chg = true ∨ ¬ view % 4 = id)) (h2 : AskedM id view vs log op) : askCode id view top chg vs log op = 7 := by unfold askCode; rw [if_neg h, if_pos h2]
theorem askCode9 {id view top : Int} {chg : Bool} {vs : List voteSh.T} {log : List Sh.str.T} {op : ByteArray} (h : ¬ (chg = true ∨ ¬ view % 4 = id)) (h2 : ¬ AskedM id view vs log op) (h3 : top = 6) : askCode id view top chg vs log op = 9 := by unfold askCode; rw [if_neg h, if_neg h2, if_pos h3]
theorem askCode0 {id view top : Int} {chg : Bool} {vs : List voteSh.T} {log : List Sh.str.T} {op : ByteArray} (h : ¬ (chg = true ∨ ¬ view % 4 = id)) (h2 : ¬ AskedM id view vs log op) (h3 : ¬ top = 6) : askCode id view top chg vs log op = 0 := by unfold askCode; rw [if_neg h, if_neg h2, if_neg h3]
theorem asked_iff {id view : Int} {vs : List voteSh.T} {log : List Sh.str.T} {op : ByteArray} : AskedM id view vs log op ↔ op ∈ (show List ByteArray from log) ∨ ∃ x ∈ vs, AskAt id view op x := by
  refine ⟨fun H => H.imp (fun h => h) fun ⟨q, h⟩ => ⟨_, h, rfl, rfl, rfl, rfl⟩, fun H => H.imp (fun h => h) fun ⟨⟨k, v, q, op', f⟩, h, e1, e2, e3, e4⟩ => ⟨q, ?_⟩⟩
  dsimp only at e1 e2 e3 e4
  rw [← e1, ← e2, ← e3, ← e4]; exact h
theorem ld_one {g : AHeap} {l : Nat} {v : Value} (h : g.get l = some ⟨[[v]], 1, true⟩) : g.ld l 0 0 1 = some [v] := by rw [AHeap.ld, h]; rfl
end Go.Dat
namespace Go.Proofs.YtpgfjadjhliohaaGreat
open Go.Abs Go.Dat
set_option maxRecDepth 100000
set_option maxHeartbeats 8000000
def Qog := (0 : Nat)
def Qoh (a b : AHeap) (c : Value) (d : Prop) := AHeap.ld a (AHeap.n b) Qog Qog 1 = some [c] ∧ d
def Qoi (a b c : Nat) := Value.pointer (some (Addr.mk a b (some c)))
def Qoj (a b : AHeap) (c d e : Nat) (f : Prop) := Qoh a b (Qoi c d e) f
def Qok (a : AHeap) (b c d e : Nat) (f : List Value) (g : Prop) := AHeap.ld a b c (d + Qog + e) 1 = some f ∧ g
def Qol (a : Int) := Value.int IntKind.i64 a
def Qom (a : AHeap) (b c d : Nat) (e : Int) (f : Prop) := AHeap.ld a b c (d + Qog + Qog) 1 = some [Qol e] ∧ f
def Qon (a : AHeap) (b : Value) := AHeap.push a (AObj.mk [[b]] 1 true)
def Qoo (a : Nat) := Qoi a Qog Qog
def Qop (a : AHeap) (b : Nat) (c : ByteArray) := Qon (Qon a (Qoo b)) (Value.string c)
theorem ask_spec {n0 l : Nat} {g : AHeap} {w : Wk} (W : WkOk n0 l g w) (H : VotsOk w.votes.xs) (hv : InR 0 7 w.view) (ht : InR 0 6 w.top) (hl : w.log.xs.length ≤ 6) (hs : w.says.xs.length ≤ 500) (op : ByteArray) :
    ∃ r g', ACall Tryz.prog 59 [.pointer (some ⟨l, 0, some 0⟩), .string op] g r g' ∧ r = .int .i64 (askCode w.id w.view w.top w.chg w.votes.xs w.log.xs op) ∧
      ((¬ askCode w.id w.view w.top w.chg w.votes.xs w.log.xs op = 0 ∧ g.Le g' ∧ g'.wf) ∨ (askCode w.id w.view w.top w.chg w.votes.xs w.log.xs op = 0 ∧ ∃ (V' : LX voteSh.T) (S' : LX saySh.T), WkOk n0 l g' { w with top := w.top + 1, votes := V', says := S' } ∧ V'.xs = (addM w.votes.xs (2, w.view, w.top + 1, op, w.id)).1 ∧ S'.xs = w.says.xs ++ [(1, w.id, w.view, w.top + 1, op, [])] ∧ Mv l w { w with top := w.top + 1, votes := V', says := S' } g g')) := by
  refine acall_q fun Q HQ => ?_
  refine acall_vc (fun t => t == 2 || t == 3) (fun r => match r with | 2 => [(0, 1, []), (1, 0, []), (2, 0, []), (3, 0, []), (4, 1, []), (5, 0, []), (6, 1, []), (7, 0, []), (8, 0, []), (9, 0, []), (10, 1, []), (11, 1, []), (12, 0, []), (13, 0, []), (14, 0, []), (15, 1, []), (16, 3, [6, 10]), (17, 0, []), (18, 0, []), (19, 0, [])] | 4 => [(0, 1, []), (1, 0, []), (2, 0, []), (3, 0, []), (4, 1, []), (5, 1, []), (6, 3, []), (7, 0, []), (8, 0, []), (9, 0, []), (10, 0, [])] | 9 => [(0, 1, []), (1, 1, []), (2, 0, []), (3, 0, []), (4, 0, []), (5, 1, []), (6, 1, []), (7, 0, []), (8, 0, []), (9, 0, []), (10, 1, []), (11, 1, []), (12, 1, []), (13, 0, []), (14, 0, []), (15, 0, []), (16, 1, []), (17, 0, []), (18, 3, [])] | 10 => [(0, 1, []), (1, 1, []), (2, 0, []), (3, 0, []), (4, 0, []), (5, 1, []), (6, 1, []), (7, 0, []), (8, 0, []), (9, 0, []), (10, 1, []), (11, 1, []), (12, 0, []), (13, 0, []), (14, 0, []), (15, 1, []), (16, 1, []), (17, 0, []), (18, 3, [])] | _ => []) (fun _ => .none) mixed Tryz.func59 rfl rfl rfl (Nat.le_of_ble_eq_true rfl) (by refine vc_mp (by kernel_rfl : (True ∧ True ∧ (True ∧ (True ∧ True) ∧ True ∧ (True ∧ True) ∧ True ∧ (True ∧ True) ∧ True) ∧ True ∧ True ∧ True ∧ True ∧ True) = _) ?_; simp only [and_self]) ?_
  (refine vc_mp (by kernel_rfl : (∃ (l_1 i c : Nat), Qoj (Qop g l op) g l_1 i c (∃ (a : Option Addr) (n c_1 : Nat), Qok (Qop g l op) l_1 i c 4 [Value.slice a n c_1] (∃ (x : Bool) (h' : AHeap), ACall Tryz.prog 109 [Value.slice a n c_1, Value.func (Fn.func 110) (Array.mk List.nil) (Array.mk [Qoo (AHeap.n g), Qoo (AHeap.n (Qon g (Qoo l)))])] (Qop g l op) (Value.bool x) h' ∧ (∃ (l_2 i c : Nat), Qoj h' g l_2 i c (∃ (x_1 : Bool), Qok h' l_2 i c 2 [Value.bool x_1] (bs x_1 (Q (Qol 10) h') (∃ (l_3 i c : Nat), Qoj h' g l_3 i c (∃ (x_2 : Int), Qom h' l_3 i c x_2 (∃ (l_4 i_1 c_2 : Nat), Qoj h' g l_4 i_1 c_2 (∃ (x_3 : Int), Qok h' l_4 i_1 c_2 1 [Qol x_3] (∃ (x_4 : Int) (h'_1 : AHeap), ACall Tryz.prog 96 [Qol x_3] h' (Qol x_4) h'_1 ∧ (∃ (x : Int), Qom h'_1 l_3 i c x (Qol x = Qol x_2)) ∧ (∃ (l i_2 c_3 : Nat), Qoj h'_1 g l i_2 c_3 (Qoi l i_2 c_3 = Qoi l_3 i c)) ∧ bs (not (decide (x_2 = x_4))) (Q (Qol 10) h'_1) (∃ (l_5 i c : Nat), Qoj h'_1 g l_5 i c (∃ (a : Option Addr) (n c_3 : Nat), Qok h'_1 l_5 i c 12 [Value.slice a n c_3] (∃ (x_5 : ByteArray), Qoh h'_1 (Qon g (Qoo l)) (Value.string x_5) (∃ (x_6 : Bool) (h' : AHeap), ACall Tryz.prog 111 [Value.slice a n c_3, Value.string x_5] h'_1 (Value.bool x_6) h' ∧ bs x_6 (Q (Qol 7) h') (bs x (Q (Qol 7) h') (∃ (l_6 i c : Nat), Qoj h' g l_6 i c (∃ (x : Int), Qok h' l_6 i c 3 [Qol x] (bs (decide (x = 6)) (Q (Qol 9) h') (∃ (l_7 i c : Nat), Qoj h' g l_7 i c (∃ (x : Int), Qok h' l_7 i c 3 [Qol x] (∃ (h'_2 : AHeap), AHeap.wr h' l_7 i (c + Qog + 3) [Qol (IntKind.wrap IntKind.i64 (x + 1))] = some h'_2 ∧ (∃ (l_8 i c : Nat), Qoj h'_2 g l_8 i c (∃ (l_9 i_2 c_4 : Nat), Qoj h'_2 g l_9 i_2 c_4 (∃ (x : Int), Qok h'_2 l_9 i_2 c_4 1 [Qol x] (∃ (l_10 i_3 c_5 : Nat), Qoj h'_2 g l_10 i_3 c_5 (∃ (x_7 : Int), Qok h'_2 l_10 i_3 c_5 3 [Qol x_7] (∃ (x_8 : ByteArray), Qoh h'_2 (Qon g (Qoo l)) (Value.string x_8) (∃ (l_11 i_4 c_6 : Nat), Qoj h'_2 g l_11 i_4 c_6 (∃ (x_9 : Int), Qom h'_2 l_11 i_4 c_6 x_9 (∃ (x_10 : Bool) (h' : AHeap), ACall Tryz.prog 112 [Qoi l_8 i c, Value.agg (Array.mk [Qol 2, Qol x, Qol x_7, Value.string x_8, Qol x_9])] h'_2 (Value.bool x_10) h' ∧ (∃ (l_12 i c : Nat), Qoj h' g l_12 i c (∃ (l_13 i_5 c_7 : Nat), Qoj h' g l_13 i_5 c_7 (∃ (x : Int), Qom h' l_13 i_5 c_7 x (∃ (l_14 i_6 c_8 : Nat), Qoj h' g l_14 i_6 c_8 (∃ (x_11 : Int), Qok h' l_14 i_6 c_8 1 [Qol x_11] (∃ (l_15 i_7 c_9 : Nat), Qoj h' g l_15 i_7 c_9 (∃ (x_12 : Int), Qok h' l_15 i_7 c_9 3 [Qol x_12] (∃ (x_13 : ByteArray), Qoh h' (Qon g (Qoo l)) (Value.string x_13) (∃ (h'_3 : AHeap), ACall Tryz.prog 113 [Qoi l_12 i c, Value.agg (Array.mk [Qol 1, Qol x, Qol x_11, Qol x_12, Value.string x_13, Value.slice none Qog Qog])] h' (Value.tuple (Array.mk List.nil)) h'_3 ∧ Q (Qol 0) h'_3)))))))))))))))))))))))))))))))))))))))) = _) ?_; delta Qog Qoh Qoi Qoj Qok Qol Qom Qon Qoo Qop)
  have lp1 := AHeap.Le.push W.wf ⟨[[.pointer (some ⟨l, 0, some 0⟩)]], 1, true⟩
  have wp1 := W.wf.push ⟨[[.pointer (some ⟨l, 0, some 0⟩)]], 1, true⟩
  have lp2 := AHeap.Le.push wp1 ⟨[[.string op]], 1, true⟩
  have wp2 := wp1.push ⟨[[.string op]], 1, true⟩
  have W2 := W.grow (lp1.trans lp2) wp2
  have hw := ld_one (lp2.get _ _ (AHeap.get_push_eq (h := g) (o := ⟨[[.pointer (some ⟨l, 0, some 0⟩)]], 1, true⟩)))
  have ho := ld_one (AHeap.get_push_eq (h := g.push ⟨[[.pointer (some ⟨l, 0, some 0⟩)]], 1, true⟩) (o := ⟨[[.string op]], 1, true⟩))
  have nv := H.1
  have A := containsAsk_spec _ l g.n _ w op W2.obj hw ho w.votes.a w.votes.c w.votes.xs W2.V.sn.so.sl (by omega)
  have fin : ∀ c : Int, askCode w.id w.view w.top w.chg w.votes.xs w.log.xs op = c → ¬ c = 0 → Q (.int .i64 c) _ := fun c e n => HQ _ _ ⟨by rw [e], .inl ⟨by rw [e]; exact n, lp1.trans lp2, wp2⟩⟩
  refine ⟨_, _, _, hw, _, _, _, W2.ld rfl (by decide), _, _, A, _, _, _, hw, _, W2.ld rfl (by decide), bs_b (fun ec => fin 10 (askCode10 (.inl ec)) (by decide)) (fun ec => ⟨_, _, _, hw, _, W2.ld rfl (by decide), _, _, _, hw, _, W2.ld rfl (by decide), ?_⟩)⟩
  refine ⟨_, _, leader_spec _ w.view hv.1, ⟨_, W2.ld rfl (by decide), rfl⟩, ⟨_, _, _, hw, rfl⟩, bs_dn (fun e2 => fin 10 (askCode10 (.inr (fun e => e2 e.symm))) (by decide)) (fun e2 => ?_)⟩
  have h0 : ¬ (w.chg = true ∨ ¬ w.view % 4 = w.id) := fun h => h.elim (fun h => by rw [ec] at h; cases h) (fun h => h e2.symm)
  refine ⟨_, _, _, hw, _, _, _, W2.ld rfl (by decide), _, ho, _, _, hasWord_spec _ _ _ w.log.xs op W2.L.sn.so.sl (by omega), bs_b (fun e3 => fin 7 (askCode7 h0 (asked_iff.2 (.inl (of_tr e3)))) (by decide)) (fun e3 => bs_b (fun e4 => fin 7 (askCode7 h0 (asked_iff.2 (.inr (of_tr e4)))) (by decide)) (fun e4 => ?_))⟩
  have h7 : ¬ AskedM w.id w.view w.votes.xs w.log.xs op := fun h => (asked_iff.1 h).elim (of_trn e3) (of_trn e4)
  refine ⟨_, _, _, hw, _, W2.ld rfl (by decide), bs_d (fun e5 => fin 9 (askCode9 h0 h7 e5) (by decide)) (fun e5 => ?_)⟩
  have hz := askCode0 h0 h7 e5
  have lg := W.wf.lt W.obj
  have W3 := W2.num w.view w.chg (w.top + 1)
  have M3 := (Mv.of_le (l := l) (w := w) (lp1.trans lp2)).trans W.wf (Mv.num (w := w) (w' := { w with top := w.top + 1 }) rfl (some ⟨[({ w with view := w.view, chg := w.chg, top := w.top + 1 } : Wk).row], 14, true⟩))
  have e3w := wk_wr (i := 3) (vs := [.int .i64 (IntKind.i64.wrap (w.top + 1))]) (row := ({ w with view := w.view, chg := w.chg, top := w.top + 1 } : Wk).row) W2.obj (by rw [wrap_i64 (by unfold InR at ht; omega)]; rfl) (by simp)
  have gw := lp2.get _ _ (AHeap.get_push_eq (h := g) (o := ⟨[[.pointer (some ⟨l, 0, some 0⟩)]], 1, true⟩))
  have go := AHeap.get_push_eq (h := g.push ⟨[[.pointer (some ⟨l, 0, some 0⟩)]], 1, true⟩) (o := ⟨[[.string op]], 1, true⟩)
  have nn : (g.push ⟨[[.pointer (some ⟨l, 0, some 0⟩)]], 1, true⟩).n = g.n + 1 := rfl
  have gw3 : (((g.push ⟨[[.pointer (some ⟨l, 0, some 0⟩)]], 1, true⟩).push ⟨[[.string op]], 1, true⟩).put l (some ⟨[({ w with view := w.view, chg := w.chg, top := w.top + 1 } : Wk).row], 14, true⟩)).get g.n = some ⟨[[.pointer (some ⟨l, 0, some 0⟩)]], 1, true⟩ := by
    rw [AHeap.get_put_ne (by omega)]; exact gw
  have go3 : (((g.push ⟨[[.pointer (some ⟨l, 0, some 0⟩)]], 1, true⟩).push ⟨[[.string op]], 1, true⟩).put l (some ⟨[({ w with view := w.view, chg := w.chg, top := w.top + 1 } : Wk).row], 14, true⟩)).get (g.push ⟨[[.pointer (some ⟨l, 0, some 0⟩)]], 1, true⟩).n = some ⟨[[.string op]], 1, true⟩ := by
    rw [AHeap.get_put_ne (by omega)]; exact go
  obtain ⟨_, g4, A4, V', rfl, eV, W4, M4⟩ := iAdd_spec W3 H.1 2 w.view (w.top + 1) w.id op
  dsimp only at eV W4 M4
  refine ⟨_, _, _, hw, _, W2.ld rfl (by decide), _, e3w, _, _, _, ld_one gw3, _, _, _, ld_one gw3, _, W3.ld rfl (by decide), _, _, _, ld_one gw3, _, W3.ld rfl (by decide), _, ld_one go3, _, _, _, ld_one gw3, ?_⟩
  have na : ∀ z, g.n ≤ z → z ∉ ({ w with top := w.top + 1 } : Wk).all l := fun z hz h => by
    obtain ⟨a, ha, hza⟩ := List.mem_flatten.1 h
    have := W.lt a ha z hza
    omega
  have gw4 := M4.kp.get _ _ (na g.n (Nat.le_refl _)) gw3
  have go4 := M4.kp.get _ _ (na (g.push ⟨[[.pointer (some ⟨l, 0, some 0⟩)]], 1, true⟩).n (by omega)) go3
  obtain ⟨_, g5, A5, S', rfl, eS, W5, M5⟩ := iSend_spec W4 (by dsimp only; omega) 1 w.id w.view (w.top + 1) op [] none 0 (Sn.nil (s := changeSh)).so.sl ⟨Nat.zero_le _, fun _ h => by cases h⟩
  exact ⟨_, W3.ld rfl (by decide), _, _, A4, _, _, _, ld_one gw4, _, _, _, ld_one gw4, _, W4.ld rfl (by decide), _, _, _, ld_one gw4, _, W4.ld rfl (by decide), _, _, _, ld_one gw4, _, W4.ld rfl (by decide), _, ld_one go4, _, A5, HQ _ _ ⟨by rw [hz], .inr ⟨hz, V', S', W5, eV, eS, (M3.trans W.wf M4).trans W.wf M5⟩⟩⟩
end Go.Proofs.YtpgfjadjhliohaaGreat
end
section
namespace Go.Proofs.YtpgfjadjhliohaaGreat
open Go.Abs Go.Dat
set_option maxRecDepth 100000
set_option maxHeartbeats 8000000
noncomputable def stR (r : replicaSh.T) (says : List saySh.T) : VS := bif (show Bool from r.2.2.1) then (r.2.2.2.2.1, says) else followM r.1 r.2.1 (r.2.2.2.2.1, says) 6
noncomputable def goM (r : replicaSh.T) (says : List saySh.T) : replicaOutSh.T :=
  ((r.1, r.2.1, r.2.2.1, r.2.2.2.1, (stR r says).1, r.2.2.2.2.2.1, r.2.2.2.2.2.2.1, logM (stR r says).1 (6 - List.length (α := ByteArray) r.2.2.2.2.2.2.2) r.2.2.2.2.2.2.2), (stR r says).2, (0 : Int))
def illM (c : Int) : replicaOutSh.T := (((0 : Int), (0 : Int), false, (0 : Int), [], [], ((0 : Int), (0 : Int), (0 : Int), (0 : Int), ⟨#[]⟩, []), []), [], c)
def _root_.Go.Dat.Wk.rep (w : Wk) : replicaSh.T := (w.id, w.view, w.chg, w.top, w.votes.xs, w.changes.xs, (w.nk, w.nf, w.nv, w.nq, w.nop, w.nch.xs), w.log.xs)
theorem stR_rep (w : Wk) : stR w.rep w.says.xs = stM w := rfl
def OutOf (h h' : AHeap) (v : Value) (T : replicaOutSh.T) : Prop :=
  ∃ y1 y2 y3 y4 y5 j1 j2 j3 j4 j5, v = .agg #[.int .i64 T.1.1, .int .i64 T.1.2.1, .bool T.1.2.2.1, .int .i64 T.1.2.2.2.1, y1, y2, .int .i64 T.1.2.2.2.2.2.2.1.1, .int .i64 T.1.2.2.2.2.2.2.1.2.1, .int .i64 T.1.2.2.2.2.2.2.1.2.2.1, .int .i64 T.1.2.2.2.2.2.2.1.2.2.2.1, .string T.1.2.2.2.2.2.2.1.2.2.2.2.1, y3, y4, y5, .int .i64 T.2.2] ∧
    So h' voteSh T.1.2.2.2.2.1 y1 j1 ∧ So h' changeSh T.1.2.2.2.2.2.1 y2 j2 ∧ So h' changeSh T.1.2.2.2.2.2.2.1.2.2.2.2.2 y3 j3 ∧ So h' Sh.str T.1.2.2.2.2.2.2.2 y4 j4 ∧ So h' saySh T.2.1 y5 j5 ∧ Fresh h.n h'.n (j1 ++ (j2 ++ (j3 ++ (j4 ++ j5))))
theorem outOf_ill (h h' : AHeap) (c : Int) : OutOf h h' (.agg #[.int .i64 0, .int .i64 0, .bool false, .int .i64 0, .slice none 0 0, .slice none 0 0, .int .i64 0, .int .i64 0, .int .i64 0, .int .i64 0, .string ⟨#[]⟩, .slice none 0 0, .slice none 0 0, .slice none 0 0, .int .i64 c]) (illM c) :=
  ⟨_, _, _, _, _, [], [], [], [], [], rfl, Sn.nil.so, Sn.nil.so, Sn.nil.so, Sn.nil.so, Sn.nil.so, .nil⟩
theorem outOf_wk {h g : AHeap} {l : Nat} {w : Wk} {V : LX voteSh.T} {S : LX saySh.T} {L : LX Sh.str.T} (W : WkOk h.n l g { w with votes := V, says := S, log := L }) (e1 : (V.xs, S.xs) = stM w) (e2 : L.xs = logM (stM w).1 (6 - w.log.xs.length) w.log.xs) :
    OutOf h g (.agg #[.int .i64 w.id, .int .i64 w.view, .bool w.chg, .int .i64 w.top, .slice V.a V.xs.length V.c, .slice w.changes.a w.changes.xs.length w.changes.c, .int .i64 w.nk, .int .i64 w.nf, .int .i64 w.nv, .int .i64 w.nq, .string w.nop, .slice w.nch.a w.nch.xs.length w.nch.c, .slice L.a L.xs.length L.c, .slice S.a S.xs.length S.c, .int .i64 0]) (goM w.rep w.says.xs) := by
  have e : goM w.rep w.says.xs = ((w.id, w.view, w.chg, w.top, V.xs, w.changes.xs, (w.nk, w.nf, w.nv, w.nq, w.nop, w.nch.xs), L.xs), S.xs, (0 : Int)) := by
    unfold goM
    rw [stR_rep, e2, ← e1]
    rfl
  rw [e]
  exact ⟨_, _, _, _, _, _, _, _, _, _, rfl, W.V.sn.so, W.C.sn.so, W.N.1.so, W.L.sn.so, W.S.sn.so, W.fresh⟩
theorem followM_mem {id view : Int} {st : VS} (H : VotsOk st.1) (h1 : InR 0 3 id) (h2 : InR 0 7 view) : ∀ n, n ≤ 6 → ∀ s ∈ (followM id view st n).2, s ∈ st.2 ∨ ∃ (q : Int) (op : ByteArray), s = (3, id, view, q, op, []) ∧ InR 1 6 q ∧ op.size ≤ 120
  | 0, _ => fun s hs => .inl hs
  | n + 1, hn => fun s hs => by
    rw [followM] at hs
    have H' := (followM_ok H h1 h2 n (by omega)).1
    cases hp : provedM (followM id view st n).1 2 view ((n : Int) + 1) with
    | none => rw [stepM_none hp] at hs; exact followM_mem H h1 h2 n (by omega) s hs
    | some op =>
      rw [stepM_some hp] at hs
      unfold voteM at hs
      dsimp only at hs
      cases hb : (addM (followM id view st n).1 (3, view, (n : Int) + 1, op, id)).2 with
      | false => rw [hb, cond_false] at hs; exact followM_mem H h1 h2 n (by omega) s hs
      | true =>
        rw [hb, cond_true] at hs
        rcases List.mem_append.1 hs with hs | hs
        · exact followM_mem H h1 h2 n (by omega) s hs
        · exact .inr ⟨_, op, List.mem_singleton.1 hs, ⟨by omega, by omega⟩, provedM_size H' hp⟩
theorem _root_.Go.Dat.VotsOk.oks {vs : List voteSh.T} (H : VotsOk vs) : (Sh.sl voteSh).ok vs ∧ (Sh.sl voteSh).cn vs ≤ 400 * 5 := by
  have hl := H.1
  refine ⟨⟨Nat.le_trans hl (by decide), fun x hx => ?_⟩, Sh.cn_sl (e := voteSh) hl (fun x _ => Nat.le_refl _)⟩
  obtain ⟨(k : Int), (v : Int), (q : Int), (op : ByteArray), (f : Int)⟩ := x
  have h := vots_mem H hx
  refine ⟨?_, inrOk h.2.1 (by omega) (by omega), inrOk h.2.2.1 (by omega) (by omega), ?_, inrOk h.2.2.2.2 (by omega) (by omega)⟩
  · have hk : k = 2 ∨ k = 3 := h.1
    show (-9223372036854775808 : Int) ≤ k ∧ k ≤ 9223372036854775807; omega
  · have ho : op.size ≤ 120 := h.2.2.2.1
    show op.size ≤ _; omega
theorem goM_oks (r : replicaSh.T) (says : List saySh.T) (ok : replicaSh.ok r) (H : VotsOk r.2.2.2.2.1) (h1 : InR 0 3 r.1) (h2 : InR 0 7 r.2.1) (hl : List.length (α := ByteArray) r.2.2.2.2.2.2.2 ≤ 6) (hz : ∀ t ∈ (show List ByteArray from r.2.2.2.2.2.2.2), t.size ≤ 120)
    (ns : says.length ≤ 500) (os : ∀ s ∈ says, saySh.ok s ∧ saySh.cn s ≤ 1100) : replicaOutSh.ok (goM r says) ∧ (replicaOutSh.cv (goM r says) : Int) ≤ replicaSh.cv r + 700000 := by
  have hst : VotsOk (stR r says).1 ∧ (stR r says).2.length ≤ 506 ∧ ∀ s ∈ (stR r says).2, s ∈ says ∨ ∃ (q : Int) (op : ByteArray), s = (3, r.1, r.2.1, q, op, []) ∧ InR 1 6 q ∧ op.size ≤ 120 := by
    unfold stR
    cases (show Bool from r.2.2.1) with
    | true => rw [cond_true]; exact ⟨H, by dsimp only; omega, fun s hs => .inl hs⟩
    | false =>
      rw [cond_false]
      have := followM_ok (st := (r.2.2.2.2.1, says)) H h1 h2 6 (Nat.le_refl _)
      exact ⟨this.1, Nat.le_trans this.2 (by dsimp only; omega), followM_mem (st := (r.2.2.2.2.1, says)) H h1 h2 6 (Nat.le_refl _)⟩
  obtain ⟨HV, HL, HM⟩ := hst
  have os' : ∀ s ∈ (stR r says).2, saySh.ok s ∧ saySh.cn s ≤ 1100 := fun s hs => by
    rcases HM s hs with h | ⟨q, op, rfl, hq, ho⟩
    · exact os s h
    · refine ⟨⟨?_, ok.1, ok.2.1, inrOk hq (by omega) (by omega), by show op.size ≤ _; omega, Nat.zero_le _, fun c hc => by cases hc⟩, ?_⟩
      · show (-9223372036854775808 : Int) ≤ 3 ∧ (3 : Int) ≤ 9223372036854775807; omega
      · show 1 + (1 + (1 + (1 + (1 + (Sh.sl changeSh).cn [])))) ≤ 1100
        have : (Sh.sl changeSh).cn [] = 0 := rfl
        omega
  obtain ⟨okv, cnv⟩ := HV.oks
  have ll := logM_len (stR r says).1 (6 - List.length (α := ByteArray) r.2.2.2.2.2.2.2) r.2.2.2.2.2.2.2
  have lz := logM_size HV (6 - List.length (α := ByteArray) r.2.2.2.2.2.2.2) r.2.2.2.2.2.2.2 hz
  have cl : (Sh.sl Sh.str).cn (logM (stR r says).1 (6 - List.length (α := ByteArray) r.2.2.2.2.2.2.2) r.2.2.2.2.2.2.2) ≤ 12 * 1 := Sh.cn_sl (e := Sh.str) (by omega) (fun _ _ => Nat.le_refl _)
  have cs : (Sh.sl saySh).cn (stR r says).2 ≤ 506 * 1100 := Sh.cn_sl (e := saySh) HL (fun s hs => (os' s hs).2)
  refine ⟨⟨⟨ok.1, ok.2.1, ok.2.2.1, ok.2.2.2.1, okv, ok.2.2.2.2.2.1, ok.2.2.2.2.2.2.1, ⟨by show List.length (α := ByteArray) (logM _ _ _) ≤ _; omega, fun t ht => ?_⟩⟩, ⟨by show (stR r says).2.length ≤ _; omega, fun s hs => (os' s hs).1⟩, ?_⟩, ?_⟩
  · have := lz t ht
    show t.size ≤ _; omega
  · show (-9223372036854775808 : Int) ≤ 0 ∧ (0 : Int) ≤ 9223372036854775807; omega
  · have e1 : replicaOutSh.cv (goM r says) = (0 + (0 + (0 + (0 + ((Sh.sl voteSh).cn (stR r says).1 + ((Sh.sl changeSh).cn r.2.2.2.2.2.1 + (saySh.cv r.2.2.2.2.2.2.1 + (Sh.sl Sh.str).cn (logM (stR r says).1 (6 - List.length (α := ByteArray) r.2.2.2.2.2.2.2) r.2.2.2.2.2.2.2)))))))) + ((Sh.sl saySh).cn (stR r says).2 + 0) := rfl
    have e2 : replicaSh.cv r = 0 + (0 + (0 + (0 + ((Sh.sl voteSh).cn r.2.2.2.2.1 + ((Sh.sl changeSh).cn r.2.2.2.2.2.1 + (saySh.cv r.2.2.2.2.2.2.1 + (Sh.sl Sh.str).cn r.2.2.2.2.2.2.2)))))) := rfl
    omega
theorem illM_oks (c : Int) (h : InR 0 100 c) : replicaOutSh.ok (illM c) ∧ (replicaOutSh.cv (illM c) : Int) ≤ 0 := by
  have hz : Sh.int.ok (0 : Int) := by show (-9223372036854775808 : Int) ≤ 0 ∧ (0 : Int) ≤ 9223372036854775807; omega
  refine ⟨⟨⟨hz, hz, trivial, hz, ⟨Nat.zero_le _, fun x hx => by cases hx⟩, ⟨Nat.zero_le _, fun x hx => by cases hx⟩, ⟨hz, hz, hz, hz, Nat.zero_le _, Nat.zero_le _, fun x hx => by cases hx⟩, Nat.zero_le _, fun x hx => by cases hx⟩, ⟨Nat.zero_le _, fun x hx => by cases hx⟩, inrOk h (by omega) (by omega)⟩, ?_⟩
  have : replicaOutSh.cv (illM c) = 0 := rfl
  omega
end Go.Proofs.YtpgfjadjhliohaaGreat
end
