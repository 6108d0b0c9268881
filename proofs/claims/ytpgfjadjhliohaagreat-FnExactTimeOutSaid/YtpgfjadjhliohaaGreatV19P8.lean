/- PM, PN, P8. -/
import Derived.Test.YtpgfjadjhliohaaGreatV19PJ
import Derived.Test.YtpgfjadjhliohaaGreatV19P1
section
namespace Go.Proofs.YtpgfjadjhliohaaGreat
open Go.Abs Go.Dat
set_option maxRecDepth 100000
set_option maxHeartbeats 8000000
theorem ROk.tm {r : replicaSh.T} (R : ROk 1000 0 (r, [])) (hv : ¬ 7 ≤ (show Int from r.2.1)) : ROk 1000 1 (tmR r) := by
  obtain ⟨(id : Int), (view : Int), (chg : Bool), (top : Int), (vs : List voteSh.T), tl⟩ := r
  have hvw : InR 0 7 view := R.vw
  have hid : InR 0 3 id := R.id
  have hv : ¬ 7 ≤ view := hv
  have W := tmC_w R (by omega)
  have S : SayS (4, id, view + 1, 0, ⟨#[]⟩, [tmC (id, view, chg, top, vs, tl)]) := by
    have hz : Sh.int.ok (0 : Int) := by show (-9223372036854775808 : Int) ≤ 0 ∧ (0 : Int) ≤ 9223372036854775807; omega
    have h4 : Sh.int.ok (4 : Int) := by show (-9223372036854775808 : Int) ≤ 4 ∧ (4 : Int) ≤ 9223372036854775807; omega
    have hc : (Sh.sl changeSh).cn [tmC (id, view, chg, top, vs, tl)] ≤ 1 * 100 := Sh.cn_sl (e := changeSh) (Nat.le_refl _) (fun c hc => by rw [List.mem_singleton.1 hc]; exact W.2.1)
    refine ⟨⟨h4, inrOk hid (by omega) (by omega), W.1.2.1, hz, Nat.zero_le _, Nat.le_of_ble_eq_true rfl, fun c hc => by rw [List.mem_singleton.1 hc]; exact W.1⟩, ?_⟩
    show 1 + (1 + (1 + (1 + (1 + (Sh.sl changeSh).cn [tmC (id, view, chg, top, vs, tl)])))) ≤ 1100
    omega
  have hv8 : InR 0 7 (view + 1) := by unfold InR at *; omega
  exact ⟨R.id, hv8, R.tp, ⟨R.vs.H, Nat.le_refl _, fun s hs => by rw [List.mem_singleton.1 hs]; exact S⟩, R.hl, R.hz, R.ncg, R.cgs, R.okn, R.cvn⟩
theorem timeR_lt {r : replicaSh.T} (hv : ¬ 7 ≤ (show Int from r.2.1)) : timeR r = chgR (tmR r) (tmC r) := if_neg hv
abbrev Q10g := Option Addr
def Qzv (a : Prop) := (True ∧ (True ∧ True) ∧ True) ∧ a
def Qzw (a : Prop) := True ∧ True ∧ a
def Qzx (a : Option (List Value)) (b : List Value) (c : Prop) := a = some b ∧ c
def Qzy (a : FuncId) (b : List Value) (c : AHeap) (d : Value) (e : AHeap) (f : Prop) := ACall Tryz.prog a b c d e ∧ f
def Qzz := (0 : Nat)
def Q100 (a b : AHeap) (c : Nat) (d : List Value) (e : AHeap) (f : Prop) := AHeap.wr a (AHeap.n b) Qzz c d = some e ∧ f
def Q101 (a : Int) := Value.int IntKind.i64 a
def Q102 (a b : Int) (c : Q10g) (d e : Nat) := [Q101 a, Q101 b, Value.slice c d e]
def Q103 (a b : AHeap) (c d : Int) (e : Q10g) (f g : Nat) (h : Prop) := Qzx (AHeap.ld a (AHeap.n b) Qzz Qzz 3) (Q102 c d e f g) h
def Q104 (a : List Value) := Value.agg (Array.mk a)
def Q105 (a : Addr) := Value.pointer (some a)
def Q106 (a : AHeap) (b : List (List Value)) (c : Nat) := AHeap.push a (AObj.mk b c true)
def Q107 (a : AHeap) := Q106 a [Q102 (Int.ofNat Qzz) (Int.ofNat Qzz) none Qzz Qzz] 3
def Q108 := (1 : Nat)
def Q109 (a : AHeap) (b c : Nat) := AHeap.ld a b Qzz c Q108
theorem iTime_spec {n0 l : Nat} {g : AHeap} {w : Wk} (W : WkOk n0 l g w) (R : ROk 1000 0 (w.rep, w.says.xs)) :
    ∃ r g', ACall Tryz.prog 73 [.pointer (some ⟨l, 0, some 0⟩)] g r g' ∧ ∃ w', WkOk n0 l g' w' ∧ Mv l w w' g g' ∧ ((∃ e, timeR w.rep = .inl e ∧ r = .int .i64 e ∧ ¬ e = 0) ∨ (timeR w.rep = .inr (w'.rep, w'.says.xs) ∧ r = .int .i64 0)) := by
  have es : w.says.xs = [] := List.eq_nil_of_length_eq_zero (Nat.le_zero.1 R.vs.n)
  have HV : VotsOk w.votes.xs := R.vs.H
  have hid : InR 0 3 w.id := R.id
  have hvw : InR 0 7 w.view := R.vw
  have RZ : ROk 1000 0 (w.rep, []) := by rw [es] at R; exact R
  refine acall_q fun Q HQ => ?_
  refine acall_vc (fun t => t == 3) (fun r => match r with | 5 => [(16, 2, []), (0, 0, []), (1, 0, []), (2, 0, []), (3, 0, []), (5, 0, []), (6, 0, []), (7, 0, []), (8, 0, []), (10, 0, []), (11, 0, []), (12, 0, []), (13, 0, []), (4, 1, []), (9, 1, []), (14, 1, []), (15, 3, [16]), (17, 3, [])] | _ => []) (fun _ => .none) mixed Tryz.func73 rfl rfl rfl (Nat.le_of_ble_eq_true rfl) (by (refine vc_mp (by kernel_rfl : (True ∧ Qzv (Qzw (Qzw (True ∧ True)))) = _) ?_; delta Qzv Qzw); simp only [and_self]) ?_
  (refine vc_mp (by kernel_rfl : (∃ (x : Int), Qzx (Q109 g l Q108) [Q101 x] (bs (decide (x = 7)) (Q (Q101 9) g) (∃ (x : Int), Qzx (Q109 g l Q108) [Q101 x] (∃ (h' : AHeap), AHeap.wr g l Qzz Q108 [Q101 (IntKind.wrap IntKind.i64 (x + 1))] = some h' ∧ (∃ (h'_1 : AHeap), AHeap.wr h' l Qzz 2 [Value.bool true] = some h'_1 ∧ (∃ (a : Option Addr) (n c : Nat), Qzx (Q109 (Q107 h'_1) l 4) [Value.slice a n c] (∃ (x : Int), Qzx (Q109 (Q107 h'_1) l Qzz) [Q101 x] (∃ (x_1 : Int), Qzx (Q109 (Q107 h'_1) l Q108) [Q101 x_1] (∃ (x_2 x_3 : Int) (a_1 : Option Addr) (n_1 c_1 : Nat) (h' : AHeap), Qzy 99 [Value.slice a n c, Q101 x, Q101 x_1] (Q107 h'_1) (Q104 (Q102 x_2 x_3 a_1 n_1 c_1)) h' ((AHeap.get h' (AHeap.n h'_1) = AHeap.get (Q107 h'_1) (AHeap.n h'_1) ∧ AHeap.n (Q107 h'_1) ≤ AHeap.n h') ∧ (∃ (h'_2 : AHeap), Q100 h' h'_1 Qzz (Q102 x_2 x_3 a_1 n_1 c_1) h'_2 (∃ (x x_4 : Int) (a : Option Addr) (n c : Nat), Q103 h'_2 h'_1 x x_4 a n c (∃ (x_5 x_6 x_7 x_8 : Int) (x_9 : ByteArray) (a_2 : Option Addr) (n_2 c_2 : Nat) (h' : AHeap), Qzy 98 [Q104 (Q102 x x_4 a n c)] h'_2 (Q104 [Q101 x_5, Q101 x_6, Q101 x_7, Q101 x_8, Value.string x_9, Value.slice a_2 n_2 c_2]) h' (∃ (h'_3 : AHeap), Qzy 113 [Q105 (Addr.mk l Qzz (some Qzz)), Q104 [Q101 x_5, Q101 x_6, Q101 x_7, Q101 x_8, Value.string x_9, Value.slice a_2 n_2 c_2]] h' (Value.tuple (Array.mk List.nil)) h'_3 (∃ (x x_10 : Int) (a : Option Addr) (n c : Nat), Q103 h'_3 h'_1 x x_10 a n c (∃ (x_11 : Int) (h' : AHeap), Qzy 127 [Q105 (Addr.mk l Qzz (some Qzz)), Q104 (Q102 x x_10 a n c)] h'_3 (Q101 x_11) h' (Q (Q101 x_11) h'))))))))))))))))) = _) ?_; delta Qzx Qzy Qzz Q100 Q101 Q102 Q103 Q104 Q105 Q106 Q107 Q108 Q109)
  refine ⟨_, W.ld (i := 1) (n := 1) rfl (by decide), bs_d (fun e7 => HQ _ _ ⟨w, W, .of_le (.refl _), .inl ⟨9, if_pos (show (7 : Int) ≤ w.view by omega), rfl, by decide⟩⟩) (fun e7 => ?_)⟩
  have hv : ¬ 7 ≤ w.view := by unfold InR at hvw; omega
  obtain ⟨nv, hnv⟩ : ∃ nv : Nat, w.view + 1 = nv := ⟨(w.view + 1).toNat, by unfold InR at hvw; omega⟩
  have hn8 : nv ≤ 7 := by omega
  have ew : IntKind.i64.wrap (w.view + 1) = w.view + 1 := wrap_i64 (by unfold InR at hvw; omega)
  have W1 := W.num (w.view + 1) w.chg w.top
  have W2 : WkOk n0 l _ { w with view := w.view + 1, chg := true } := W1.num (w.view + 1) true w.top
  have M2 := (Mv.num (g := g) (w := w) (w' := { w with view := w.view + 1 }) rfl (some ⟨[({ w with view := w.view + 1 } : Wk).row], 14, true⟩)).trans W.wf (Mv.num (l := l) (w := { w with view := w.view + 1 }) (w' := { w with view := w.view + 1, chg := true }) rfl (some ⟨[({ w with view := w.view + 1, chg := true } : Wk).row], 14, true⟩))
  refine ⟨_, W.ld (i := 1) (n := 1) rfl (by decide), _, wk_wr W.obj (by rw [ew]; rfl) (by simp), _, wk_wr W1.obj rfl (by simp), ?_⟩
  obtain ⟨g2, hg2⟩ : ∃ g2, g2 = (g.put l (some ⟨[({ w with view := w.view + 1 } : Wk).row], 14, true⟩)).put l (some ⟨[({ w with view := w.view + 1, chg := true } : Wk).row], 14, true⟩) := ⟨_, rfl⟩
  rw [← hg2] at W2 M2
  have goal_eq := hg2
  have lp := AHeap.Le.push W2.wf ⟨[[.int .i64 (Int.ofNat 0), .int .i64 (Int.ofNat 0), .slice none 0 0]], 3, true⟩
  have wp := W2.wf.push ⟨[[.int .i64 (Int.ofNat 0), .int .i64 (Int.ofNat 0), .slice none 0 0]], 3, true⟩
  have Wp := W2.grow lp wp
  obtain ⟨_, _, A3, o, rfl, rfl, B, eo⟩ := changeOf_spec _ wp w.votes.a w.votes.c w.votes.xs w.id nv (by omega) Wp.V.sn.so.sl HV
  have hg := B.le.get _ _ (AHeap.get_push_eq (h := g2) (o := ⟨[[.int .i64 (Int.ofNat 0), .int .i64 (Int.ofNat 0), .slice none 0 0]], 3, true⟩))
  have leA := fun o' : Option AObj => (lp.trans B.le).put (W2.wf g2.n (Nat.le_refl _)) o'
  have wA := fun o' : Option AObj => B.wf.put (B.wf.lt hg) o'
  rw [← hnv] at A3
  obtain ⟨g3, hg3⟩ : ∃ g3, g3 = o.g.put g2.n (some ⟨[[.int .i64 w.id, .int .i64 (w.view + 1), .slice o.a o.xs.length o.c]], 3, true⟩) := ⟨_, rfl⟩
  have e3 : o.g.wr g2.n 0 0 [.int .i64 w.id, .int .i64 (w.view + 1), .slice o.a o.xs.length o.c] = some g3 := by
    rw [hg3]
    exact wr_field (i := 0) (k := 0) hg rfl (Nat.le_refl 3)
  have le3 : g2.Le g3 := by rw [hg3]; exact leA _
  have w3 : g3.wf := by rw [hg3]; exact wA _
  have q3 : g3.get g2.n = some ⟨[[.int .i64 w.id, .int .i64 (w.view + 1), .slice o.a o.xs.length o.c]], 3, true⟩ := by rw [hg3]; exact AHeap.get_put_eq
  have ob : ∀ z ∈ o.ids, g2.n + 1 ≤ z ∧ z < o.g.n := fun z hz => B.fr.bd z hz
  have S3 : Sn g3 proofSh o.xs (.slice o.a o.xs.length o.c) o.ids := by
    rw [hg3]
    exact B.sn.kp (kp_put _) (fun z hz h => by have := (ob z hz).1; have h2 : z = g2.n := List.mem_singleton.1 h; omega)
  have n3 : o.g.n = g3.n := by rw [hg3]; rfl
  have W3 := W2.grow le3 w3
  have ec : tmC w.rep = (w.id, w.view + 1, o.xs) := by
    rw [eo, show nv = (w.view + 1).toNat by omega]; rfl
  have CW := tmC_w RZ (show (show Int from w.rep.2.1) < 7 from (by show w.view < 7; omega))
  rw [ec] at CW
  have lp4 := AHeap.Le.push w3 ⟨[[.int .i64 w.id, .int .i64 (w.view + 1), .slice o.a o.xs.length o.c]], 3, true⟩
  have wp4 := w3.push ⟨[[.int .i64 w.id, .int .i64 (w.view + 1), .slice o.a o.xs.length o.c]], 3, true⟩
  have W4 := W3.grow lp4 wp4
  obtain ⟨_, g5, A5, S', rfl, eS, W5, M5⟩ := iSend_spec W4 (by show w.says.xs.length ≤ 1000; rw [es]; exact Nat.zero_le _) 4 w.id (w.view + 1) 0 ⟨#[]⟩ [(w.id, w.view + 1, o.xs)] (some ⟨g3.n, 0, some 3⟩) 2 (sl_one AHeap.get_push_eq (S3.so.sl.mono lp4)) ⟨by simp, fun c hc => by rw [List.mem_singleton.1 hc]; exact CW.2.2.2.1⟩
  have W5 : WkOk n0 l g5 { w with view := w.view + 1, chg := true, says := S' } := W5
  have M5 : Mv l { w with view := w.view + 1, chg := true } { w with view := w.view + 1, chg := true, says := S' } (g3.push ⟨[[.int .i64 w.id, .int .i64 (w.view + 1), .slice o.a o.xs.length o.c]], 3, true⟩) g5 := M5
  have al : ∀ z ∈ ({ w with view := w.view + 1, chg := true } : Wk).all l, z < g2.n := fun z hz => by
    obtain ⟨b, hb, hzb⟩ := List.mem_flatten.1 hz
    exact W2.lt b hb z hzb
  have q5 := M5.kp.get _ _ (fun h => by have := al _ h; omega) (lp4.get _ _ q3)
  have el : ∀ {gg : AHeap}, gg.get g2.n = some ⟨[[.int .i64 w.id, .int .i64 (w.view + 1), .slice o.a o.xs.length o.c]], 3, true⟩ → gg.ld g2.n 0 0 3 = some [.int .i64 w.id, .int .i64 (w.view + 1), .slice o.a o.xs.length o.c] := fun h => by rw [AHeap.ld, h]; rfl
  have et : tmR w.rep = (({ w with view := w.view + 1, chg := true, says := S' } : Wk).rep, S'.xs) := by
    unfold tmR
    rw [ec, eS]
    show _ = (_, w.says.xs ++ _)
    rw [es]
    rfl
  have R5 : ROk 1000 1 (({ w with view := w.view + 1, chg := true, says := S' } : Wk).rep, S'.xs) := by rw [← et]; exact RZ.tm hv
  have SX : ∀ g', Kp (({ w with view := w.view + 1, chg := true, says := S' } : Wk).all l) g5 g' → Sl g' proofSh o.xs (.slice o.a o.xs.length o.c) := fun g' kp => by
    have s4 := S3.kp (J := []) (.of_le lp4) (by simp)
    have s5 := s4.kp M5.kp (fun z hz h => by have := (ob z hz).1; have := al z h; omega)
    exact (s5.kp kp (fun z hz h => by
      have h1 := ob z hz
      rcases M5.ids z h with h2 | h2
      · have := al z h2; omega
      · have := lp4.n; omega)).so.sl
  obtain ⟨_, g6, A6, w', W6, M6, hr⟩ := iChange_spec W5 R5 (by decide) w.id (w.view + 1) o.xs o.a o.c CW ⟨by unfold InR at hvw; omega, by omega⟩ SX
  have MM := ((((M2.trans W.wf (.of_le le3)).trans W.wf (.of_le lp4)).trans W.wf M5).trans W.wf M6)
  rw [← et, ← ec, ← timeR_lt hv] at hr
  have fin : ∃ e : Int, ACall Tryz.prog 127 [.pointer (some ⟨l, 0, some 0⟩), .agg #[.int .i64 w.id, .int .i64 (w.view + 1), .slice o.a o.xs.length o.c]] g5 (.int .i64 e) g6 ∧ Q (.int .i64 e) g6 := by
    rcases hr with ⟨e, he, rfl, hne⟩ | ⟨he, rfl⟩
    · exact ⟨e, A6, HQ _ _ ⟨w', W6, MM, .inl ⟨e, he, rfl, hne⟩⟩⟩
    · exact ⟨0, A6, HQ _ _ ⟨w', W6, MM, .inr ⟨he, rfl⟩⟩⟩
  obtain ⟨e, A6, q⟩ := fin
  subst hg2
  exact ⟨_, _, _, Wp.ld (i := 4) (n := 1) rfl (by decide), _, Wp.ld (i := 0) (n := 1) rfl (by decide), _, Wp.ld (i := 1) (n := 1) rfl (by decide), _, _, _, _, _, _, A3, ⟨hg.trans AHeap.get_push_eq.symm, B.le.n⟩, g3, e3, _, _, _, _, _, el q3, _, _, _, _, _, _, _, _, _, changeSay_spec g3 w.id (w.view + 1) o.a o.xs.length o.c, _, A5, _, _, _, _, _, el q5, _, _, A6, q⟩
end Go.Proofs.YtpgfjadjhliohaaGreat
end
section
namespace Go.Proofs.YtpgfjadjhliohaaGreat
open Go.Abs Go.Dat
set_option maxRecDepth 100000
set_option maxHeartbeats 8000000
def Q10a (a b : AHeap) (c : Int) (d : Prop) := Qzx (Q109 a (AHeap.n b) Q108) [Q101 c] d
def Q10b (a b : AHeap) (c : Q10g) (d e : Nat) (f : Prop) := Qzx (Q109 a (AHeap.n b) 13) [Value.slice c d e] f
def Q10c (a b : Int) (c : Bool) (d : Int) (e : Q10g) (f g : Nat) (h : Q10g) (i j : Nat) (k l m n : Int) (o : ByteArray) (p : Q10g) (q r : Nat) (s : Q10g) (t u : Nat) (v : Value) (w : Int) := Q104 [Q101 a, Q101 b, Value.bool c, Q101 d, Value.slice e f g, Value.slice h i j, Q101 k, Q101 l, Q101 m, Q101 n, Value.string o, Value.slice p q r, Value.slice s t u, v, Q101 w]
def Q10d (a : AHeap) (b : Nat) := Addr.mk (AHeap.n a) Qzz (some b)
def Q10e (a b : Int) (c : Q10g) (d e : Nat) := [Q101 4, Q101 a, Q101 b, Q101 (Int.ofNat Qzz), Value.string (ByteArray.mk (Array.mk List.nil)), Value.slice c d e]
def Q10f (a b : Value) (c : Bool) (d : Value) (e : Q10g) (f g : Nat) (h : Q10g) (i j : Nat) (k l m n : Value) (o : ByteArray) (p : Q10g) (q r : Nat) (s : Q10g) (t u : Nat) := Q104 [a, b, Value.bool c, d, Value.slice e f g, Value.slice h i j, k, l, m, n, Value.string o, Value.slice p q r, Value.slice s t u]
theorem specTime (h : AHeap) (hw : h.wf) (id view top k f v q : Int) (chg : Bool) (vs : List voteSh.T) (cg : List changeSh.T) (op : ByteArray) (cs : List changeSh.T) (log : List Sh.str.T) (a1 : Option Addr) (c1 : Nat) (a2 : Option Addr) (c2 : Nat) (a3 : Option Addr) (c3 : Nat) (a4 : Option Addr) (c4 : Nat)
    (h1 : Sl h voteSh vs (.slice a1 vs.length c1)) (h2 : Sl h changeSh cg (.slice a2 cg.length c2)) (h3 : Sl h changeSh cs (.slice a3 cs.length c3)) (h4 : Sl h Sh.str log (.slice a4 log.length c4))
    (ok : replicaSh.ok (id, view, chg, top, vs, cg, (k, f, v, q, op, cs), log)) (sm : replicaSh.small (id, view, chg, top, vs, cg, (k, f, v, q, op, cs), log)) :
    ∃ r h', ACall Tryz.prog 27 [.agg #[.int .i64 id, .int .i64 view, .bool chg, .int .i64 top, .slice a1 vs.length c1, .slice a2 cg.length c2, .int .i64 k, .int .i64 f, .int .i64 v, .int .i64 q, .string op, .slice a3 cs.length c3, .slice a4 log.length c4]] h r h' ∧ h.Le h' ∧ h'.wf ∧ OutOf h h' r (timeM (id, view, chg, top, vs, cg, (k, f, v, q, op, cs), log)) := by
  refine acall_q fun Q HQ => ?_
  refine acall_vc (fun t => t == 4 || t == 16) (fun r => match r with | 8 => [(13, 2, []), (0, 0, []), (1, 0, []), (2, 0, []), (3, 0, []), (5, 0, []), (7, 0, []), (8, 0, []), (9, 0, []), (10, 0, []), (4, 1, []), (6, 1, []), (11, 1, []), (12, 3, [13]), (14, 3, [])] | 9 => [(0, 0, []), (1, 0, []), (2, 0, []), (3, 0, []), (5, 0, []), (7, 0, []), (8, 0, []), (9, 0, []), (10, 0, []), (4, 1, []), (6, 1, []), (11, 1, []), (12, 1, []), (13, 3, [4, 6, 11]), (14, 3, [4, 6, 11]), (15, 0, []), (16, 3, [4]), (17, 3, []), (18, 0, []), (19, 0, []), (20, 3, [])] | _ => []) (fun _ => .none) mixed Tryz.func27 rfl rfl rfl (Nat.le_of_ble_eq_true rfl) (by (refine vc_mp (by kernel_rfl : (True ∧ Qzv (Qzv (Qzw (Qzw (True ∧ Qzv (Qzw True)))))) = _) ?_; delta Qzv Qzw); simp only [and_self]) ?_
  (refine vc_mp (by kernel_rfl : (∃ (x : Bool) (h' : AHeap), Qzy 32 [Q10f (Q101 id) (Q101 view) chg (Q101 top) a1 (List.length vs) c1 a2 (List.length cg) c2 (Q101 k) (Q101 f) (Q101 v) (Q101 q) op a3 (List.length cs) c3 a4 (List.length log) c4] h (Value.bool x) h' (bs (not x) (∃ (x x_1 : Int) (x_2 : Bool) (x_3 : Int) (a : Option Addr) (n c : Nat) (a_1 : Option Addr) (n_1 c_1 : Nat) (x_4 x_5 x_6 x_7 : Int) (x_8 : ByteArray) (a_2 : Option Addr) (n_2 c_2 : Nat) (a_3 : Option Addr) (n_3 c_3 : Nat) (a_4 : Option Addr) (n_4 c_4 : Nat) (x_9 : Int) (h'_1 : AHeap), Qzy 49 [Q101 1] h' (Q10c x x_1 x_2 x_3 a n c a_1 n_1 c_1 x_4 x_5 x_6 x_7 x_8 a_2 n_2 c_2 a_3 n_3 c_3 (Value.slice a_4 n_4 c_4) x_9) h'_1 (Q (Q10c x x_1 x_2 x_3 a n c a_1 n_1 c_1 x_4 x_5 x_6 x_7 x_8 a_2 n_2 c_2 a_3 n_3 c_3 (Value.slice a_4 n_4 c_4) x_9) h'_1)) (bs (decide (view ≥ 7)) (∃ (x x_1 : Int) (x_2 : Bool) (x_3 : Int) (a : Option Addr) (n c : Nat) (a_1 : Option Addr) (n_1 c_1 : Nat) (x_4 x_5 x_6 x_7 : Int) (x_8 : ByteArray) (a_2 : Option Addr) (n_2 c_2 : Nat) (a_3 : Option Addr) (n_3 c_3 : Nat) (a_4 : Option Addr) (n_4 c_4 : Nat) (x_9 : Int) (h'_1 : AHeap), Qzy 49 [Q101 9] h' (Q10c x x_1 x_2 x_3 a n c a_1 n_1 c_1 x_4 x_5 x_6 x_7 x_8 a_2 n_2 c_2 a_3 n_3 c_3 (Value.slice a_4 n_4 c_4) x_9) h'_1 (Q (Q10c x x_1 x_2 x_3 a n c a_1 n_1 c_1 x_4 x_5 x_6 x_7 x_8 a_2 n_2 c_2 a_3 n_3 c_3 (Value.slice a_4 n_4 c_4) x_9) h'_1)) (∃ (x x_1 : Int) (x_2 : Bool) (x_3 : Int) (a : Option Addr) (n c : Nat) (a_1 : Option Addr) (n_1 c_1 : Nat) (x_4 x_5 x_6 x_7 : Int) (x_8 : ByteArray) (a_2 : Option Addr) (n_2 c_2 : Nat) (a_3 : Option Addr) (n_3 c_3 : Nat) (h'_1 : AHeap), Qzy 52 [Q10f (Q101 id) (Q101 view) chg (Q101 top) a1 (List.length vs) c1 a2 (List.length cg) c2 (Q101 k) (Q101 f) (Q101 v) (Q101 q) op a3 (List.length cs) c3 a4 (List.length log) c4] h' (Q10f (Q101 x) (Q101 x_1) x_2 (Q101 x_3) a n c a_1 n_1 c_1 (Q101 x_4) (Q101 x_5) (Q101 x_6) (Q101 x_7) x_8 a_2 n_2 c_2 a_3 n_3 c_3) h'_1 (∃ (h' : AHeap), Q100 (Q106 h'_1 [[Q101 x, Q101 x_1, Value.bool x_2, Q101 x_3, Value.slice a n c, Value.slice a_1 n_1 c_1, Q101 x_4, Q101 x_5, Q101 x_6, Q101 x_7, Value.string x_8, Value.slice a_2 n_2 c_2, Value.slice a_3 n_3 c_3, Value.slice none Qzz Qzz]] 14) h'_1 Q108 [Q101 (IntKind.wrap IntKind.i64 (view + 1))] h' (∃ (h'_2 : AHeap), Q100 h' h'_1 2 [Value.bool true] h'_2 (∃ (a : Option Addr) (n c : Nat), Qzx (Q109 (Q107 h'_2) (AHeap.n h'_1) 4) [Value.slice a n c] (∃ (x : Int), Q10a (Q107 h'_2) h'_1 x (∃ (x_9 x_10 : Int) (a_4 : Option Addr) (n_4 c_4 : Nat) (h' : AHeap), Qzy 35 [Value.slice a n c, Q101 id, Q101 x] (Q107 h'_2) (Q104 (Q102 x_9 x_10 a_4 n_4 c_4)) h' ((AHeap.get h' (AHeap.n h'_2) = AHeap.get (Q107 h'_2) (AHeap.n h'_2) ∧ AHeap.n (Q107 h'_2) ≤ AHeap.n h') ∧ (∃ (h'_3 : AHeap), Q100 h' h'_2 Qzz (Q102 x_9 x_10 a_4 n_4 c_4) h'_3 (∃ (a : Option Addr) (n c : Nat), Q10b h'_3 h'_1 a n c (∃ (x : Int), Q10a h'_3 h'_1 x (∃ (x_11 x_12 : Int) (a_5 : Option Addr) (n_5 c_5 : Nat), Q103 h'_3 h'_2 x_11 x_12 a_5 n_5 c_5 ((∃ (x_13 : Int), Q10a (Q106 h'_3 [Q102 x_11 x_12 a_5 n_5 c_5] 3) h'_1 x_13 (Q101 x_13 = Q101 x)) ∧ Q101 id = Q101 id ∧ (∃ (a_6 : Option Addr) (n_6 c_6 : Nat), Q10b (Q106 h'_3 [Q102 x_11 x_12 a_5 n_5 c_5] 3) h'_1 a_6 n_6 c_6 (Value.slice a_6 n_6 c_6 = Value.slice a n c)) ∧ (∃ (a_6 : Option Addr) (n_6 c_6 : Nat) (h' : AHeap), Qzy 71 [Value.slice (some (Q10d h'_3 3)) Q108 2] (Q106 h'_3 [Q102 x_11 x_12 a_5 n_5 c_5] 3) (Value.slice a_6 n_6 c_6) h' ((∃ (x_13 : Int), Q10a h' h'_1 x_13 (Q101 x_13 = Q101 x)) ∧ Q101 id = Q101 id ∧ (∃ (a_7 : Option Addr) (n_7 c_7 : Nat), Q10b h' h'_1 a_7 n_7 c_7 (Value.slice a_7 n_7 c_7 = Value.slice a n c)) ∧ (∃ (a_7 : Option Addr) (n_7 c_7 : Nat), Q10b (Q106 h' [Q10e id x a_6 n_6 c_6] 6) h'_1 a_7 n_7 c_7 (Value.slice a_7 n_7 c_7 = Value.slice a n c)) ∧ (∃ (xs : List (List Value)), rowsV (Q106 h' [Q10e id x a_6 n_6 c_6] 6) (Value.slice (some (Q10d h' 6)) Q108 2) = some xs ∧ List.all xs (fun (row : List Value) =>
  decide (List.length row = (6 : Nat)) &&
    List.all row fun (v : Value) =>
      match v with
      | Value.agg cells => false
      | Value.tuple cells => false
      | Value.complex k re im => false
      | Value.chan r => false
      | x => true) = true ∧ (n + List.length xs) * 72 ≤ 140737488355328 ∧ (∃ (a_7 : Option Addr) (n_7 c_7 : Nat) (h'_4 : AHeap), AHeap.app (Q106 h' [Q10e id x a_6 n_6 c_6] 6) (Value.slice a n c) xs 6 = some (Prod.mk (Value.slice a_7 n_7 c_7) h'_4) ∧ (∃ (h' : AHeap), Q100 h'_4 h'_1 13 [Value.slice a_7 n_7 c_7] h' (∃ (x x_13 : Int) (a : Option Addr) (n c : Nat), Q103 h' h'_2 x x_13 a n c (∃ (x_14 : Bool) (h'_5 : AHeap), Qzy 66 [Q105 (Q10d h'_1 Qzz), Q104 (Q102 x x_13 a n c)] h' (Value.bool x_14) h'_5 (bs (not x_14) (∃ (x x_15 : Int) (x_16 : Bool) (x_17 : Int) (a : Option Addr) (n c : Nat) (a_8 : Option Addr) (n_8 c_8 : Nat) (x_18 x_19 x_20 x_21 : Int) (x_22 : ByteArray) (a_9 : Option Addr) (n_9 c_9 : Nat) (a_10 : Option Addr) (n_10 c_10 : Nat) (a_11 : Option Addr) (n_11 c_11 : Nat) (x_23 : Int) (h' : AHeap), Qzy 49 [Q101 9] h'_5 (Q10c x x_15 x_16 x_17 a n c a_8 n_8 c_8 x_18 x_19 x_20 x_21 x_22 a_9 n_9 c_9 a_10 n_10 c_10 (Value.slice a_11 n_11 c_11) x_23) h' (Q (Q10c x x_15 x_16 x_17 a n c a_8 n_8 c_8 x_18 x_19 x_20 x_21 x_22 a_9 n_9 c_9 a_10 n_10 c_10 (Value.slice a_11 n_11 c_11) x_23) h')) (∃ (h' : AHeap), Qzy 54 [Q105 (Q10d h'_1 Qzz)] h'_5 (Value.tuple (Array.mk List.nil)) h' (∃ (x x_15 : Int) (x_16 : Bool) (x_17 : Int) (a : Option Addr) (n c : Nat) (a_8 : Option Addr) (n_8 c_8 : Nat) (x_18 x_19 x_20 x_21 : Int) (x_22 : ByteArray) (a_9 : Option Addr) (n_9 c_9 : Nat) (a_10 : Option Addr) (n_10 c_10 : Nat) (a_11 : Option Addr) (n_11 c_11 : Nat) (x_23 : Int) (h'_6 : AHeap), Qzy 55 [Q105 (Q10d h'_1 Qzz)] h' (Q10c x x_15 x_16 x_17 a n c a_8 n_8 c_8 x_18 x_19 x_20 x_21 x_22 a_9 n_9 c_9 a_10 n_10 c_10 (Value.slice a_11 n_11 c_11) x_23) h'_6 (Q (Q10c x x_15 x_16 x_17 a n c a_8 n_8 c_8 x_18 x_19 x_20 x_21 x_22 a_9 n_9 c_9 a_10 n_10 c_10 (Value.slice a_11 n_11 c_11) x_23) h'_6)))))))))))))))))))))))))) = _) ?_; delta Qzx Qzy Qzz Q100 Q101 Q102 Q103 Q104 Q105 Q106 Q107 Q108 Q109 Q10a Q10b Q10c Q10d Q10e Q10f)
  have ill : ∀ (u : AHeap) (c : Int), h.Le u → u.wf → timeM (id, view, chg, top, vs, cg, (k, f, v, q, op, cs), log) = illM c → Q (.agg #[.int .i64 0, .int .i64 0, .bool false, .int .i64 0, .slice none 0 0, .slice none 0 0, .int .i64 0, .int .i64 0, .int .i64 0, .int .i64 0, .string ⟨#[]⟩, .slice none 0 0, .slice none 0 0, .slice none 0 0, .int .i64 c]) u := fun u c le w e => HQ _ _ ⟨le, w, by rw [e]; exact outOf_ill _ _ c⟩
  have R := replicaRight_spec h id view top k f v q chg vs cg op cs log a1 c1 a2 c2 a3 c3 a4 c4 h1 h2 h3 h4 ok
  refine ⟨_, _, R, bs_nb (fun e1 => ⟨_, _, _, _, _, _, _, _, _, _, _, _, _, _, _, _, _, _, _, _, _, _, _, _, _, _, l13Ill_spec _ _, ill _ 1 (.refl _) hw (if_neg fun H => of_trn e1 H)⟩) (fun e1 => ?_)⟩
  have HR := of_tr e1
  have eM : timeM (id, view, chg, top, vs, cg, (k, f, v, q, op, cs), log) = outR (timeR (id, view, chg, top, vs, cg, (k, f, v, q, op, cs), log)) := if_pos HR
  have R0 := ROk.of HR ok
  have KO := R0.time
  have hvw : InR 0 7 view := HR.2.1
  refine bs_d (fun e7 => ⟨_, _, _, _, _, _, _, _, _, _, _, _, _, _, _, _, _, _, _, _, _, _, _, _, _, _, l13Ill_spec _ _, ill _ 9 (.refl _) hw (eM.trans (congrArg outR (if_pos e7)))⟩) (fun e7 => ?_)
  obtain ⟨_, g1, A1, V, C, N, L, X, rfl⟩ := l13Copy_spec h hw id view top k f v q chg vs cg op cs log a1 c1 a2 c2 a3 c3 a4 c4 h1 h2 h3 h4 sm.2.2.2.2.1.1 sm.2.2.2.2.2.1 sm.2.2.2.2.2.2.1.2.2.2.2.2 sm.2.2.2.2.2.2.2.1
  have W0 := X.wk id view top k f v q chg op
  obtain ⟨le1, wf1, eV0, eC, eN, eL, _⟩ := X
  have le0 := le1.trans (AHeap.Le.push wf1 ⟨[(⟨id, view, chg, top, V, C, k, f, v, q, op, N, L, ⟨none, 0, [], []⟩⟩ : Wk).row], 14, true⟩)
  obtain ⟨w0, hw0⟩ : ∃ w : Wk, w = ⟨id, view, chg, top, V, C, k, f, v, q, op, N, L, ⟨none, 0, [], []⟩⟩ := ⟨_, rfl⟩
  have er0 : w0.rep = (id, view, chg, top, vs, cg, (k, f, v, q, op, cs), log) := by rw [hw0]; unfold Wk.rep; dsimp only; rw [eV0, eC, eN, eL]
  have es : w0.says.xs = [] := by rw [hw0]
  have ei0 : w0.id = id := by rw [hw0]
  have ev0 : w0.view = view := by rw [hw0]
  have RW : ROk 1000 0 (w0.rep, []) := by rw [er0]; exact R0
  have HV : VotsOk w0.votes.xs := RW.vs.H
  refine ⟨_, _, _, _, _, _, _, _, _, _, _, _, _, _, _, _, _, _, _, _, _, _, A1, ?_⟩
  have ep : ([.int .i64 id, .int .i64 view, .bool chg, .int .i64 top, .slice V.a V.xs.length V.c, .slice C.a C.xs.length C.c, .int .i64 k, .int .i64 f, .int .i64 v, .int .i64 q, .string op, .slice N.a N.xs.length N.c, .slice L.a L.xs.length L.c, .slice none 0 0] : List Value) = w0.row := by rw [hw0]; rfl
  rw [← hw0] at W0 le0
  simp only [ep]
  obtain ⟨gp, hgp⟩ : ∃ gp, gp = g1.push ⟨[w0.row], 14, true⟩ := ⟨_, rfl⟩
  rw [← hgp] at W0 le0 ⊢
  obtain ⟨l, hl⟩ : ∃ l, l = g1.n := ⟨_, rfl⟩
  rw [← hl] at W0 ⊢
  rw [← ei0, ← ev0]
  have wp0 := W0.wf
  have END : ∀ {ww : Wk} {gg : AHeap}, WkOk h.n l gg ww → Mv l w0 ww gp gg → timeR (id, view, chg, top, vs, cg, (k, f, v, q, op, cs), log) = .inr (ww.rep, ww.says.xs) → ∃ g5, ACall Tryz.prog 54 [.pointer (some ⟨l, 0, some 0⟩)] gg (.tuple #[]) g5 ∧ ∃ (i1 i2 : Int) (b1 : Bool) (i3 : Int) (b2 : Option Addr) (n2 d2 : Nat) (b3 : Option Addr) (n3 d3 : Nat) (i4 i5 i6 i7 : Int) (t1 : ByteArray) (b4 : Option Addr) (n4 d4 : Nat) (b5 : Option Addr) (n5 d5 : Nat) (b6 : Option Addr) (n6 d6 : Nat) (i8 : Int) (g6 : AHeap), ACall Tryz.prog 55 [.pointer (some ⟨l, 0, some 0⟩)] g5 (.agg #[.int .i64 i1, .int .i64 i2, .bool b1, .int .i64 i3, .slice b2 n2 d2, .slice b3 n3 d3, .int .i64 i4, .int .i64 i5, .int .i64 i6, .int .i64 i7, .string t1, .slice b4 n4 d4, .slice b5 n5 d5, .slice b6 n6 d6, .int .i64 i8]) g6 ∧ Q (.agg #[.int .i64 i1, .int .i64 i2, .bool b1, .int .i64 i3, .slice b2 n2 d2, .slice b3 n3 d3, .int .i64 i4, .int .i64 i5, .int .i64 i6, .int .i64 i7, .string t1, .slice b4 n4 d4, .slice b5 n5 d5, .slice b6 n6 d6, .int .i64 i8]) g6 := by
    intro ww gg WW MM e
    rw [e] at KO
    have KW : ROk 1000 8 (ww.rep, ww.says.xs) := KO
    obtain ⟨_, g5, A5, V2, S2, L2, rfl, est, eL2, W5, M5⟩ := follow_spec WW KW.vs.H KW.id KW.vw (Nat.le_trans KW.vs.n (by decide)) KW.hl
    refine ⟨g5, A5, _, _, _, _, _, _, _, _, _, _, _, _, _, _, _, _, _, _, _, _, _, _, _, _, _, _, out_spec W5, HQ _ _ ⟨(MM.trans wp0 M5).le W0 hw le0, W5.wf, ?_⟩⟩
    rw [eM, e]
    exact outOf_wk W5 est eL2
  obtain ⟨nv, hnv⟩ : ∃ nv : Nat, w0.view + 1 = nv := ⟨(w0.view + 1).toNat, by rw [ev0]; unfold InR at hvw; omega⟩
  have hn8 : nv ≤ 7 := by rw [ev0] at hnv; omega
  have ew : IntKind.i64.wrap (w0.view + 1) = w0.view + 1 := wrap_i64 (by rw [ev0]; unfold InR at hvw; omega)
  have W1 := W0.num (w0.view + 1) w0.chg w0.top
  have W2 : WkOk h.n l _ { w0 with view := w0.view + 1, chg := true } := W1.num (w0.view + 1) true w0.top
  have M2 := (Mv.num (g := gp) (w := w0) (w' := { w0 with view := w0.view + 1 }) rfl (some ⟨[({ w0 with view := w0.view + 1 } : Wk).row], 14, true⟩)).trans wp0 (Mv.num (l := l) (w := { w0 with view := w0.view + 1 }) (w' := { w0 with view := w0.view + 1, chg := true }) rfl (some ⟨[({ w0 with view := w0.view + 1, chg := true } : Wk).row], 14, true⟩))
  refine ⟨_, wk_wr W0.obj (by rw [ew]; rfl) (by simp), _, wk_wr W1.obj rfl (by simp), ?_⟩
  obtain ⟨g2, hg2⟩ : ∃ g2, g2 = (gp.put l (some ⟨[({ w0 with view := w0.view + 1 } : Wk).row], 14, true⟩)).put l (some ⟨[({ w0 with view := w0.view + 1, chg := true } : Wk).row], 14, true⟩) := ⟨_, rfl⟩
  rw [← hg2] at W2 M2
  have lp := AHeap.Le.push W2.wf ⟨[[.int .i64 (Int.ofNat 0), .int .i64 (Int.ofNat 0), .slice none 0 0]], 3, true⟩
  have wp := W2.wf.push ⟨[[.int .i64 (Int.ofNat 0), .int .i64 (Int.ofNat 0), .slice none 0 0]], 3, true⟩
  have Wp := W2.grow lp wp
  obtain ⟨_, _, A3, o, rfl, rfl, B, eo⟩ := l12Change_spec _ wp w0.votes.a w0.votes.c w0.votes.xs w0.id nv (by omega) Wp.V.sn.so.sl HV
  have hg := B.le.get _ _ (AHeap.get_push_eq (h := g2) (o := ⟨[[.int .i64 (Int.ofNat 0), .int .i64 (Int.ofNat 0), .slice none 0 0]], 3, true⟩))
  have leA := fun o' : Option AObj => (lp.trans B.le).put (W2.wf g2.n (Nat.le_refl _)) o'
  have wA := fun o' : Option AObj => B.wf.put (B.wf.lt hg) o'
  rw [← hnv] at A3
  obtain ⟨g3, hg3⟩ : ∃ g3, g3 = o.g.put g2.n (some ⟨[[.int .i64 w0.id, .int .i64 (w0.view + 1), .slice o.a o.xs.length o.c]], 3, true⟩) := ⟨_, rfl⟩
  have e3 : o.g.wr g2.n 0 0 [.int .i64 w0.id, .int .i64 (w0.view + 1), .slice o.a o.xs.length o.c] = some g3 := by
    rw [hg3]
    exact wr_field (i := 0) (k := 0) hg rfl (Nat.le_refl 3)
  have le3 : g2.Le g3 := by rw [hg3]; exact leA _
  have w3 : g3.wf := by rw [hg3]; exact wA _
  have q3 : g3.get g2.n = some ⟨[[.int .i64 w0.id, .int .i64 (w0.view + 1), .slice o.a o.xs.length o.c]], 3, true⟩ := by rw [hg3]; exact AHeap.get_put_eq
  have ob : ∀ z ∈ o.ids, g2.n + 1 ≤ z ∧ z < o.g.n := fun z hz => B.fr.bd z hz
  have S3 : Sn g3 proofSh o.xs (.slice o.a o.xs.length o.c) o.ids := by
    rw [hg3]
    exact B.sn.kp (kp_put _) (fun z hz h => by have := (ob z hz).1; have h2 : z = g2.n := List.mem_singleton.1 h; omega)
  have n3 : o.g.n = g3.n := by rw [hg3]; rfl
  have W3 := W2.grow le3 w3
  have ec : tmC w0.rep = (w0.id, w0.view + 1, o.xs) := by
    rw [eo, show nv = (w0.view + 1).toNat by omega]; rfl
  have hv : ¬ 7 ≤ w0.view := by rw [ev0]; omega
  have CW := tmC_w RW (show (show Int from w0.rep.2.1) < 7 from (by show w0.view < 7; omega))
  rw [ec] at CW
  have lp4 := AHeap.Le.push w3 ⟨[[.int .i64 w0.id, .int .i64 (w0.view + 1), .slice o.a o.xs.length o.c]], 3, true⟩
  have wp4 := w3.push ⟨[[.int .i64 w0.id, .int .i64 (w0.view + 1), .slice o.a o.xs.length o.c]], 3, true⟩
  have W4 := W3.grow lp4 wp4
  obtain ⟨_, g4, A4, a5, c5, js, rfl, B5⟩ := l13CopyChanges_sob _ wp4 [(w0.id, w0.view + 1, o.xs)] (some ⟨g3.n, 0, some 3⟩) 2 (sl_one AHeap.get_push_eq (S3.so.sl.mono lp4)) ⟨by simp, fun c hc => by rw [List.mem_singleton.1 hc]; exact CW.2.2.2.1⟩
  have W4' := W4.grow B5.le B5.wf
  have lp5 := AHeap.Le.push B5.wf ⟨[[.int .i64 4, .int .i64 w0.id, .int .i64 (w0.view + 1), .int .i64 0, .string ⟨#[]⟩, .slice a5 1 c5]], 6, true⟩
  have wp5 := B5.wf.push ⟨[[.int .i64 4, .int .i64 w0.id, .int .i64 (w0.view + 1), .int .i64 0, .string ⟨#[]⟩, .slice a5 1 c5]], 6, true⟩
  have W5' := W4'.grow lp5 wp5
  obtain ⟨S', g6, eS, e6, e7', W5, M5⟩ := W4.say B5.le B5.wf (k := 4) (f := w0.id) (v := w0.view + 1) (q := 0) (op := ⟨#[]⟩) B5.sn B5.fr
  obtain ⟨g5, hg5⟩ : ∃ g5, g5 = g6.put l (some ⟨[({ w0 with view := w0.view + 1, chg := true, says := S' } : Wk).row], 14, true⟩) := ⟨_, rfl⟩
  have W5 : WkOk h.n l g5 { w0 with view := w0.view + 1, chg := true, says := S' } := by rw [hg5]; exact W5
  have M5 : Mv l { w0 with view := w0.view + 1, chg := true } { w0 with view := w0.view + 1, chg := true, says := S' } (g3.push ⟨[[.int .i64 w0.id, .int .i64 (w0.view + 1), .slice o.a o.xs.length o.c]], 3, true⟩) g5 := by rw [hg5]; exact M5
  have f7 : g6.wr l 0 13 [.slice S'.a S'.xs.length S'.c] = some g5 := by rw [hg5]; exact e7'
  have al : ∀ z ∈ ({ w0 with view := w0.view + 1, chg := true } : Wk).all l, z < g2.n := fun z hz => by
    obtain ⟨b, hb, hzb⟩ := List.mem_flatten.1 hz
    exact W2.lt b hb z hzb
  have q5 := M5.kp.get _ _ (fun h => by have := al _ h; omega) (lp4.get _ _ q3)
  have el : ∀ {gg : AHeap}, gg.get g2.n = some ⟨[[.int .i64 w0.id, .int .i64 (w0.view + 1), .slice o.a o.xs.length o.c]], 3, true⟩ → gg.ld g2.n 0 0 3 = some [.int .i64 w0.id, .int .i64 (w0.view + 1), .slice o.a o.xs.length o.c] := fun h => by rw [AHeap.ld, h]; rfl
  have et : tmR w0.rep = (({ w0 with view := w0.view + 1, chg := true, says := S' } : Wk).rep, S'.xs) := by
    unfold tmR
    rw [ec, eS]
    show _ = (_, w0.says.xs ++ _)
    rw [es]
    rfl
  have R5 : ROk 1000 1 (({ w0 with view := w0.view + 1, chg := true, says := S' } : Wk).rep, S'.xs) := by rw [← et]; exact RW.tm hv
  have SX : ∀ g', Kp (({ w0 with view := w0.view + 1, chg := true, says := S' } : Wk).all l) g5 g' → Sl g' proofSh o.xs (.slice o.a o.xs.length o.c) := fun g' kp => by
    have s4 := S3.kp (J := []) (.of_le lp4) (by simp)
    have s5 := s4.kp M5.kp (fun z hz h => by have := (ob z hz).1; have := al z h; omega)
    exact (s5.kp kp (fun z hz h => by
      have h1 := ob z hz
      rcases M5.ids z h with h2 | h2
      · have := al z h2; omega
      · have := lp4.n; omega)).so.sl
  obtain ⟨_, g7, A7, w', W6, M6, hr⟩ := sChange_spec W5 R5 (by decide) w0.id (w0.view + 1) o.xs o.a o.c CW ⟨by rw [ev0]; unfold InR at hvw; omega, by omega⟩ SX
  have MM := ((((M2.trans wp0 (.of_le le3)).trans wp0 (.of_le lp4)).trans wp0 M5).trans wp0 M6)
  rw [← et, ← ec, ← timeR_lt hv, er0] at hr
  subst hg2
  refine ⟨_, _, _, Wp.ld (i := 4) (n := 1) rfl (by decide), _, Wp.ld (i := 1) (n := 1) rfl (by decide), _, _, _, _, _, _, A3, ⟨hg.trans AHeap.get_push_eq.symm, B.le.n⟩, g3, e3, _, _, _, W3.ld (i := 13) (n := 1) rfl (by decide), _, W3.ld (i := 1) (n := 1) rfl (by decide), _, _, _, _, _, el q3, ⟨_, W4.ld (i := 1) (n := 1) rfl (by decide), rfl⟩, trivial, ⟨_, _, _, W4.ld (i := 13) (n := 1) rfl (by decide), rfl⟩, _, _, _, g4, A4, ⟨_, W4'.ld (i := 1) (n := 1) rfl (by decide), rfl⟩, trivial, ⟨_, _, _, W4'.ld (i := 13) (n := 1) rfl (by decide), rfl⟩, ⟨_, _, _, W5'.ld (i := 13) (n := 1) rfl (by decide), rfl⟩, _, rowsV_push, rfl, by rw [es]; simp, _, _, _, g6, e6, _, f7, _, _, _, _, _, el q5, ?_⟩
  rcases hr with ⟨e, he, rfl⟩ | ⟨he, rfl⟩
  · have he9 : e = 9 := chgR_err ((timeR_lt (r := (id, view, chg, top, vs, cg, (k, f, v, q, op, cs), log)) e7).symm.trans he)
    subst he9
    exact ⟨_, _, A7, bs_nb (fun _ => ⟨_, _, _, _, _, _, _, _, _, _, _, _, _, _, _, _, _, _, _, _, _, _, _, _, _, _, l13Ill_spec _ _, ill _ 9 (MM.le W0 hw le0) W6.wf (eM.trans (congrArg outR he))⟩) (fun h => by cases h)⟩
  · obtain ⟨g5', A5', i1, i2, b1, i3, b2, n2, d2, b3, n3, d3, i4, i5, i6, i7, t1, b4, n4, d4, b5, n5, d5, b6, n6, d6, i8, g8, A6, q⟩ := END W6 MM he
    exact ⟨_, _, A7, bs_nb (fun h => by cases h) (fun _ => ⟨_, A5', _, _, _, _, _, _, _, _, _, _, _, _, _, _, _, _, _, _, _, _, _, _, _, _, _, _, A6, q⟩)⟩
end Go.Proofs.YtpgfjadjhliohaaGreat
end
section
namespace Go.Proofs.YtpgfjadjhliohaaGreat
open Go.Abs Go.Dat
set_option maxRecDepth 100000
set_option maxHeartbeats 8000000
end Go.Proofs.YtpgfjadjhliohaaGreat
end
