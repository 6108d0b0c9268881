/- Contracts: snapshots read from bytes. -/
import Derived.Test.YtdcijleeoihlfaaV8R6
namespace Go.Dat
open Go.Abs
theorem BrkSz.ok {ts : List topicSh.T} {rs : List replySh.T} (H : BrkSz ts rs) : brokerSh.ok (ts, rs) := by
  refine ⟨⟨by have := H.tl; show ts.length ≤ _; omega, fun t ht => ?_⟩, ⟨by have := H.rl; show rs.length ≤ _; omega, fun r hr => ?_⟩⟩
  · have hz := H.ts t ht
    obtain ⟨nm, (b : Int), (hs : List Sh.str.T), (gs : List groupSh.T)⟩ := t
    have h1 : nm.size ≤ 20 := hz.nm
    have h2 : 0 ≤ b ∧ b ≤ 1000000000 := hz.bs
    have h3 : hs.length ≤ 20 := hz.hl
    have h4 : gs.length ≤ 4 := hz.gl
    refine ⟨by show nm.size ≤ _; omega, by show _ ≤ b ∧ b ≤ _; omega, ⟨by show hs.length ≤ _; omega, fun m hm => ?_⟩, ⟨by show gs.length ≤ _; omega, fun g hg => ?_⟩⟩
    · have := hz.hs m hm
      show ByteArray.size m ≤ _; omega
    · obtain ⟨gn, (gk : Int)⟩ := g
      have h5 := hz.gs _ hg
      have h6 : gn.size ≤ 20 := h5.1
      have h7 : 0 ≤ gk ∧ gk ≤ 2000000000 := h5.2
      exact ⟨by show gn.size ≤ _; omega, by show _ ≤ gk ∧ gk ≤ _; omega⟩
  · have hz := H.rs r hr
    obtain ⟨(c : Int), (n : Int), (t : ByteArray)⟩ := r
    have h1 : 1 ≤ c ∧ c ≤ 9 := hz.1
    have h2 : 1 ≤ n ∧ n ≤ 1000000000 := hz.2.1
    have h3 : t.size ≤ 900 := hz.2.2
    exact ⟨by show _ ≤ c ∧ c ≤ _; omega, by show _ ≤ n ∧ n ≤ _; omega, by show t.size ≤ _; omega⟩
theorem BrkSz.cv {ts : List topicSh.T} {rs : List replySh.T} (H : BrkSz ts rs) : brokerSh.cv (ts, rs) ≤ 1000 := by
  have h1 : (Sh.sl topicSh).cn ts ≤ 4 * 60 := Sh.cn_sl (e := topicSh) H.tl (fun t ht => by
    have hz := H.ts t ht
    have h3 : (Sh.sl Sh.str).cn t.2.2.1 ≤ 20 * 1 := Sh.cn_sl (e := Sh.str) hz.hl (fun _ _ => Nat.le_refl _)
    have h4 : (Sh.sl groupSh).cn t.2.2.2 ≤ 4 * 2 := Sh.cn_sl (e := groupSh) hz.gl (fun _ _ => Nat.le_refl _)
    show 1 + (1 + ((Sh.sl Sh.str).cn t.2.2.1 + (Sh.sl groupSh).cn t.2.2.2)) ≤ 60
    omega)
  have h2 : (Sh.sl replySh).cn rs ≤ 9 * 3 := Sh.cn_sl (e := replySh) H.rl (fun _ _ => Nat.le_refl _)
  show (Sh.sl topicSh).cn ts + (Sh.sl replySh).cn rs ≤ 1000
  omega
theorem brkDec_spec {t : ByteArray} {ts : List topicSh.T} {rs : List replySh.T} (h : brkDec t = some (ts, rs)) : BrokerOk ts rs ∧ t = brkB ts rs := by
  unfold brkDec at h
  cases hp : pBrk t 0 with
  | none => rw [hp] at h; cases h
  | some z =>
    obtain ⟨x, e⟩ := z
    rw [hp] at h
    dsimp only at h
    cases hc : tr (e = t.size ∧ BrokerOk x.1 x.2) with
    | false => rw [hc] at h; cases h
    | true =>
      rw [hc] at h
      obtain rfl := Option.some.inj h
      obtain ⟨h1, h2⟩ := of_tr hc
      obtain ⟨_, _, p3, _⟩ := pBrk_enc hp
      exact ⟨h2, by rw [← p3, h1, extract_all]⟩
noncomputable def snapReadM (t : ByteArray) : snapOutSh.T :=
  if 20000 < t.size then ((0, [], []), 2) else match pNum t 0 with
  | none => ((0, [], []), 3)
  | some (a, e1) => match pWord t e1 with
    | none => ((0, [], []), 3)
    | some (s, e2) => match brkDec s with
      | none => ((0, [], []), 3)
      | some x => bif tr (e2 = t.size ∧ 0 ≤ a ∧ a ≤ 1000000000) then ((a, x.1, x.2), 0) else ((0, [], []), 3)
theorem zok : Sh.int.ok (0 : Int) := ⟨by decide, by decide⟩
theorem nok {s : Sh} : (Sh.sl s).ok [] := ⟨Nat.zero_le _, fun x hx => absurd hx List.not_mem_nil⟩
theorem snapReadM_cases (t : ByteArray) : (∃ c : Int, (0 ≤ c ∧ c ≤ 100) ∧ snapReadM t = ((0, [], []), c)) ∨ ∃ (a : Int) (ts : List topicSh.T) (rs : List replySh.T), snapReadM t = ((a, ts, rs), 0) ∧ (0 ≤ a ∧ a ≤ 1000000000) ∧ BrokerOk ts rs := by
  unfold snapReadM
  split
  · exact .inl ⟨2, by decide, rfl⟩
  cases h1 : pNum t 0 with
  | none => exact .inl ⟨3, by decide, rfl⟩
  | some p =>
    cases h2 : pWord t p.2 with
    | none => simp only [h2]; exact .inl ⟨3, by decide, rfl⟩
    | some q =>
      cases h3 : brkDec q.1 with
      | none => simp only [h2, h3]; exact .inl ⟨3, by decide, rfl⟩
      | some x =>
        simp only [h2, h3]
        cases hc : tr (q.2 = t.size ∧ 0 ≤ p.1 ∧ p.1 ≤ 1000000000) with
        | false => exact .inl ⟨3, by decide, rfl⟩
        | true => exact .inr ⟨p.1, x.1, x.2, rfl, (of_tr hc).2, (brkDec_spec h3).1⟩
theorem snapReadM_ok (t : ByteArray) (_ : t.size ≤ 9223372036854775807) : snapOutSh.ok (snapReadM t) := by
  rcases snapReadM_cases t with ⟨c, hc, e⟩ | ⟨a, ts, rs, e, ha, hb⟩
  · rw [e]; exact ⟨⟨zok, nok, nok⟩, by show _ ≤ c ∧ c ≤ _; omega⟩
  · rw [e]; exact ⟨⟨by show (-9223372036854775808 : Int) ≤ a ∧ a ≤ 9223372036854775807; omega, hb.sz.ok⟩, zok⟩
theorem snapReadM_cn (t : ByteArray) (_ : t.size ≤ 9223372036854775807) : (snapOutSh.cv (snapReadM t) : Int) ≤ 900000000000 := by
  rcases snapReadM_cases t with ⟨c, hc, e⟩ | ⟨a, ts, rs, e, ha, hb⟩
  · rw [e]; show ((0 : Nat) : Int) ≤ _; omega
  · rw [e]
    have := hb.sz.cv
    show ((0 + brokerSh.cv (ts, rs) + 0 : Nat) : Int) ≤ _
    omega
theorem so_nil {h : AHeap} {s : Sh} : So h s [] (.slice none 0 0) [] := Sn.nil.so
end Go.Dat
namespace Go.Proofs.Ytdcijleeoihlfaa
open Go.Abs Go.Dat
set_option maxRecDepth 100000
set_option maxHeartbeats 8000000
def BrkRes2 (h : AHeap) (t : ByteArray) (v : Value) (h' : AHeap) : Prop :=
  (brkDec t = none ∧ v = .tuple #[.agg #[.slice none 0 0, .slice none 0 0], .bool false]) ∨ ∃ (ts : List topicSh.T) (rs : List replySh.T) (y1 y2 : Value) (j1 j2 : List Nat), brkDec t = some (ts, rs) ∧ v = .tuple #[.agg #[y1, y2], .bool true] ∧ Sn h' topicSh ts y1 j1 ∧ Sn h' replySh rs y2 j2 ∧ Fresh h.n h'.n (j1 ++ j2) ∧ brokerSh.ok (ts, rs)
theorem brokerRead_spec (h : AHeap) (hw : h.wf) (t : ByteArray) (ht : t.size ≤ 20000) : ∃ v h', ACall Try.prog 67 [.string t] h v h' ∧ h.Le h' ∧ h'.wf ∧ BrkRes2 h t v h' := by
  have wp := hw.push (rdO t 0 false)
  have lp := AHeap.Le.push hw (rdO t 0 false)
  have hg0 : (h.push (rdO t 0 false)).get h.n = some (rdO t 0 false) := AHeap.get_push_eq
  obtain ⟨_, g, A, w, k, ts, rs, y1, y2, j1, j2, a', b', rfl, S1, S2, F, ok, hg, R⟩ := rbroker_spec _ wp h.n t 0 false ht (Nat.zero_le _) hg0
  obtain ⟨u1, e1, rfl⟩ := S1.so.sl.isSlice
  obtain ⟨u2, e2, rfl⟩ := S2.so.sl.isSlice
  obtain ⟨_, f2, f3, _⟩ := rd_ld hg
  have le : h.Le g := ((Kp.of_le lp).trans k).le hw (fun z hz => by simp at hz; omega)
  have F0 : Fresh h.n g.n (j1 ++ j2) := F.widen (Nat.le_succ _) (Nat.le_refl _)
  refine acall_q fun Q HQ => ?_
  refine acall_vc (fun t => t == 8) (fun _ => []) (fun _ => .none) mixed Try.func67 rfl rfl rfl (Nat.le_of_ble_eq_true rfl) (by refine vc_mp (by kernel_rfl : (True ∧ True ∧ True ∧ (True ∧ (True ∧ True) ∧ True) ∧ True ∧ True) = _) ?_; simp only [and_self]) ?_
  refine vc_mp (by kernel_rfl : (∃ (a : Option Addr), ∃ (n : Nat), ∃ (c : Nat), ∃ (a_1 : Option Addr), ∃ (n_1 : Nat), ∃ (c_1 : Nat), ∃ (h' : AHeap), ACall Try.prog (120 : Nat) [Value.pointer (some (Addr.mk (AHeap.n h) (0 : Nat) (some (0 : Nat))))] (AHeap.push h (AObj.mk [[Value.string t, Value.int IntKind.i64 (Int.ofNat (0 : Nat)), Value.bool false]] (3 : Nat) true)) (Value.agg (Array.mk [Value.slice a n c, Value.slice a_1 n_1 c_1])) h' ∧ ∃ (x : Bool), AHeap.ld h' (AHeap.n h) (0 : Nat) (2 : Nat) (1 : Nat) = some [Value.bool x] ∧ bs x (Q (Value.tuple (Array.mk [Value.agg (Array.mk [Value.slice none (0 : Nat) (0 : Nat), Value.slice none (0 : Nat) (0 : Nat)]), Value.bool false])) h') (∃ (x : Int), AHeap.ld h' (AHeap.n h) (0 : Nat) (1 : Nat) (1 : Nat) = some [Value.int IntKind.i64 x] ∧ bs (!decide (x = (↑(ByteArray.size t) : Int))) (Q (Value.tuple (Array.mk [Value.agg (Array.mk [Value.slice none (0 : Nat) (0 : Nat), Value.slice none (0 : Nat) (0 : Nat)]), Value.bool false])) h') (∃ (x : Bool), ∃ (h'_1 : AHeap), ACall Try.prog (77 : Nat) [Value.agg (Array.mk [Value.slice a n c, Value.slice a_1 n_1 c_1])] h' (Value.bool x) h'_1 ∧ bs (!x) (Q (Value.tuple (Array.mk [Value.agg (Array.mk [Value.slice none (0 : Nat) (0 : Nat), Value.slice none (0 : Nat) (0 : Nat)]), Value.bool false])) h'_1) (Q (Value.tuple (Array.mk [Value.agg (Array.mk [Value.slice a n c, Value.slice a_1 n_1 c_1]), Value.bool true])) h'_1)))) = _) ?_
  refine ⟨_, _, _, _, _, _, _, A, _, f3, ?_⟩
  cases b' with
  | true => exact HQ _ _ ⟨le, w, .inl ⟨brkDec_none (R.no rfl rfl), rfl⟩⟩
  | false =>
    have pb := R.ok rfl rfl
    refine ⟨_, f2, bs_dn (fun h1 => ?_) (fun h1 => ?_)⟩
    · exact HQ _ _ ⟨le, w, .inl ⟨brkDec_no pb (fun H => h1 (by rw [H.1])), rfl⟩⟩
    · obtain ⟨_, g2, A2, le2, w2, rfl⟩ := isBroker_spec g w ts rs u1 e1 u2 e2 S1.so.sl S2.so.sl ok
      refine ⟨_, _, A2, bs_nb (fun e => ?_) (fun e => ?_)⟩
      · exact HQ _ _ ⟨le.trans le2, w2, .inl ⟨brkDec_no pb (fun H => of_trn e H.2), rfl⟩⟩
      · exact HQ _ _ ⟨le.trans le2, w2, .inr ⟨ts, rs, _, _, j1, j2, brkDec_ok pb ⟨by omega, of_tr e⟩, rfl, S1.le le2, S2.le le2, F0.widen (Nat.le_refl _) le2.n, ok⟩⟩
theorem xiSnapRead (h : AHeap) (hw : h.wf) (t : ByteArray) (_ : t.size ≤ 9223372036854775807) : ∃ v h', ACall Try.prog 23 [.string t] h v h' ∧ h.Le h' ∧ h'.wf ∧ ∃ (y1 y2 : Value) (j1 j2 : List Nat), v = .agg #[.int .i64 (snapReadM t).1.1, y1, y2, .int .i64 (snapReadM t).2] ∧ So h' topicSh (snapReadM t).1.2.1 y1 j1 ∧ So h' replySh (snapReadM t).1.2.2 y2 j2 ∧ Fresh h.n h'.n (j1 ++ j2) := by
  obtain ⟨M, hM⟩ : ∃ M, M = snapReadM t := ⟨_, rfl⟩
  rw [← hM]
  refine acall_q fun Q HQ => ?_
  have bad : ∀ (c : Int) (g : AHeap), M = ((0, [], []), c) → h.Le g → g.wf → Q (.agg #[.int .i64 (Int.ofNat 0), .slice none 0 0, .slice none 0 0, .int .i64 c]) g := fun c g e le w => HQ _ _ ⟨le, w, _, _, [], [], by rw [e]; rfl, by rw [e]; exact so_nil, by rw [e]; exact so_nil, .nil⟩
  unfold snapReadM at hM
  refine acall_vc (fun t => t == 15) (fun _ => []) (fun _ => .none) mixed Try.func23 rfl rfl rfl (Nat.le_of_ble_eq_true rfl) (by refine vc_mp (by kernel_rfl : (True ∧ (True ∧ (True ∧ True) ∧ True) ∧ True ∧ True ∧ True ∧ True ∧ (True ∧ (True ∧ True) ∧ True) ∧ True ∧ True) = _) ?_; simp only [and_self]) ?_
  refine vc_mp (by kernel_rfl : (bs (decide ((↑(ByteArray.size t) : Int) > (20000 : Int))) (Q (Value.agg (Array.mk [Value.int IntKind.i64 (Int.ofNat (0 : Nat)), Value.slice none (0 : Nat) (0 : Nat), Value.slice none (0 : Nat) (0 : Nat), Value.int IntKind.i64 (2 : Int)])) h) (∃ (x : Int), ∃ (h' : AHeap), ACall Try.prog (65 : Nat) [Value.pointer (some (Addr.mk (AHeap.n h) (0 : Nat) (some (0 : Nat))))] (AHeap.push h (AObj.mk [[Value.string t, Value.int IntKind.i64 (Int.ofNat (0 : Nat)), Value.bool false]] (3 : Nat) true)) (Value.int IntKind.i64 x) h' ∧ ∃ (x_1 : ByteArray), ∃ (h'_1 : AHeap), ACall Try.prog (66 : Nat) [Value.pointer (some (Addr.mk (AHeap.n h) (0 : Nat) (some (0 : Nat))))] h' (Value.string x_1) h'_1 ∧ ∃ (a : Option Addr), ∃ (n : Nat), ∃ (c : Nat), ∃ (a_1 : Option Addr), ∃ (n_1 : Nat), ∃ (c_1 : Nat), ∃ (x_2 : Bool), ∃ (h' : AHeap), ACall Try.prog (67 : Nat) [Value.string x_1] h'_1 (Value.tuple (Array.mk [Value.agg (Array.mk [Value.slice a n c, Value.slice a_1 n_1 c_1]), Value.bool x_2])) h' ∧ ∃ (x_3 : Bool), AHeap.ld h' (AHeap.n h) (0 : Nat) (2 : Nat) (1 : Nat) = some [Value.bool x_3] ∧ bs x_3 (Q (Value.agg (Array.mk [Value.int IntKind.i64 (Int.ofNat (0 : Nat)), Value.slice none (0 : Nat) (0 : Nat), Value.slice none (0 : Nat) (0 : Nat), Value.int IntKind.i64 (3 : Int)])) h') (∃ (x_4 : Int), AHeap.ld h' (AHeap.n h) (0 : Nat) (1 : Nat) (1 : Nat) = some [Value.int IntKind.i64 x_4] ∧ bs (!decide (x_4 = (↑(ByteArray.size t) : Int))) (Q (Value.agg (Array.mk [Value.int IntKind.i64 (Int.ofNat (0 : Nat)), Value.slice none (0 : Nat) (0 : Nat), Value.slice none (0 : Nat) (0 : Nat), Value.int IntKind.i64 (3 : Int)])) h') (bs (!x_2) (Q (Value.agg (Array.mk [Value.int IntKind.i64 (Int.ofNat (0 : Nat)), Value.slice none (0 : Nat) (0 : Nat), Value.slice none (0 : Nat) (0 : Nat), Value.int IntKind.i64 (3 : Int)])) h') (∃ (x_5 : Bool), ∃ (h'_2 : AHeap), ACall Try.prog (33 : Nat) [Value.agg (Array.mk [Value.int IntKind.i64 x, Value.slice a n c, Value.slice a_1 n_1 c_1])] h' (Value.bool x_5) h'_2 ∧ bs (!x_5) (Q (Value.agg (Array.mk [Value.int IntKind.i64 (Int.ofNat (0 : Nat)), Value.slice none (0 : Nat) (0 : Nat), Value.slice none (0 : Nat) (0 : Nat), Value.int IntKind.i64 (3 : Int)])) h'_2) (Q (Value.agg (Array.mk [Value.int IntKind.i64 x, Value.slice a n c, Value.slice a_1 n_1 c_1, Value.int IntKind.i64 (Int.ofNat (0 : Nat))])) h'_2)))))) = _) ?_
  refine bs_d (fun h1 => bad 2 h (by rw [hM, if_pos (by omega)]) (.refl _) hw) (fun h1 => ?_)
  rw [if_neg (by omega)] at hM
  have wp := hw.push (rdO t 0 false)
  have lp := AHeap.Le.push hw (rdO t 0 false)
  have hg0 : (h.push (rdO t 0 false)).get h.n = some (rdO t 0 false) := AHeap.get_push_eq
  obtain ⟨_, g1, A1, w1, o1, x, a1, b1, rfl, hx, hg1, R1⟩ := rnum_spec _ wp h.n t 0 false (by omega) (Nat.zero_le _) hg0
  obtain ⟨_, g2, A2, w2, o2, s, a2, b2, rfl, hs, hg2, R2⟩ := rword_spec g1 w1 h.n t a1 b1 (by omega) R1.le hg1
  obtain ⟨v, g3, A3, le3, w3, hv⟩ := brokerRead_spec g2 w2 s hs
  have k2 : Kp [h.n] h g2 := (Kp.of_le lp).trans (o1.kp.trans o2.kp)
  have le2 : h.Le g2 := k2.le hw (fun z hz => by simp at hz; omega)
  have le : h.Le g3 := le2.trans le3
  obtain ⟨_, f2, f3, _⟩ := rd_ld (le3.get _ _ hg2)
  have hbad : b2 = true → M = ((0, [], []), 3) := fun e => by
    rw [hM]
    cases hb : b1 with
    | true => rw [R1.no rfl hb]
    | false => rw [R1.ok rfl hb]; dsimp only; rw [R2.no hb e]
  have hgood : b2 = false → M = (match brkDec s with | none => ((0, [], []), 3) | some y => bif tr (a2 = t.size ∧ 0 ≤ x ∧ x ≤ 1000000000) then ((x, y.1, y.2), 0) else ((0, [], []), 3)) := fun e => by
    have hb : b1 = false := by
      cases hb : b1 with
      | false => rfl
      | true => rw [R2.bad hb] at e; cases e
    rw [hM, R1.ok rfl hb]; dsimp only; rw [R2.ok hb e]
  rcases hv with ⟨hd, rfl⟩ | ⟨ts, rs, y1, y2, j1, j2, hd, rfl, S1, S2, F, okb⟩
  · refine ⟨_, _, A1, _, _, A2, _, _, _, _, _, _, _, _, A3, _, f3, ?_⟩
    cases b2 with
    | true => exact bad 3 g3 (hbad rfl) le w3
    | false =>
      have e3 : M = ((0, [], []), 3) := by rw [hgood rfl, hd]
      exact ⟨_, f2, bs_dn (fun _ => bad 3 g3 e3 le w3) (fun _ => bad 3 g3 e3 le w3)⟩
  · obtain ⟨u1, e1, rfl⟩ := S1.so.sl.isSlice
    obtain ⟨u2, e2, rfl⟩ := S2.so.sl.isSlice
    refine ⟨_, _, A1, _, _, A2, _, _, _, _, _, _, _, _, A3, _, f3, ?_⟩
    cases b2 with
    | true => exact bad 3 g3 (hbad rfl) le w3
    | false =>
      have hM2 := hgood rfl
      rw [hd] at hM2
      dsimp only at hM2
      refine ⟨_, f2, bs_dn (fun h2 => bad 3 g3 ?_ le w3) (fun h2 => ?_)⟩
      · rw [hM2, ← tr_false (fun H => h2 (by rw [H.1]))]; rfl
      · obtain ⟨_, g4, A4, le4, w4, rfl⟩ := isSnap_spec g3 w3 x ts rs u1 e1 u2 e2 S1.so.sl S2.so.sl okb
        refine ⟨_, _, A4, bs_nb (fun e => ?_) (fun e => ?_)⟩
        · refine bad 3 g4 ?_ (le.trans le4) w4
          rw [hM2, ← tr_false (fun H => of_trn e ⟨H.2, (brkDec_spec hd).1⟩)]; rfl
        · have e5 : M = ((x, ts, rs), 0) := by rw [hM2, ← tr_true ⟨by omega, (of_tr e).1⟩]; rfl
          refine HQ _ _ ⟨le.trans le4, w4, _, _, j1, j2, by rw [e5]; rfl, by rw [e5]; exact (S1.le le4).so, by rw [e5]; exact (S2.le le4).so, F.widen le2.n le4.n⟩
theorem xsSnapRead (h : AHeap) (hw : h.wf) (t : ByteArray) (_ : t.size ≤ 9223372036854775807) : ∃ v h', ACall Try.prog 22 [.string t] h v h' ∧ h.Le h' ∧ h'.wf ∧ ∃ (y1 y2 : Value), v = .agg #[.int .i64 (snapReadM t).1.1, y1, y2, .int .i64 (snapReadM t).2] ∧ Sl h' topicSh (snapReadM t).1.2.1 y1 ∧ Sl h' replySh (snapReadM t).1.2.2 y2 := by
  obtain ⟨M, hM⟩ : ∃ M, M = snapReadM t := ⟨_, rfl⟩
  rw [← hM]
  refine acall_q fun Q HQ => ?_
  have bad : ∀ (c : Int) (g : AHeap), M = ((0, [], []), c) → h.Le g → g.wf → Q (.agg #[.int .i64 (Int.ofNat 0), .slice none 0 0, .slice none 0 0, .int .i64 c]) g := fun c g e le w => HQ _ _ ⟨le, w, _, _, by rw [e]; rfl, by rw [e]; exact Sn.nil.so.sl, by rw [e]; exact Sn.nil.so.sl⟩
  unfold snapReadM at hM
  refine acall_vc (fun t => t == 12) (fun _ => []) (fun _ => .none) mixed Try.func22 rfl rfl rfl (Nat.le_of_ble_eq_true rfl) (by refine vc_mp (by kernel_rfl : (True ∧ (True ∧ (True ∧ True) ∧ True) ∧ True ∧ True ∧ True ∧ True ∧ (True ∧ (True ∧ True) ∧ True) ∧ True ∧ True) = _) ?_; simp only [and_self]) ?_
  refine vc_mp (by kernel_rfl : (bs (decide ((↑(ByteArray.size t) : Int) > (20000 : Int))) (Q (Value.agg (Array.mk [Value.int IntKind.i64 (Int.ofNat (0 : Nat)), Value.slice none (0 : Nat) (0 : Nat), Value.slice none (0 : Nat) (0 : Nat), Value.int IntKind.i64 (2 : Int)])) h) (∃ (x : Int), ∃ (h' : AHeap), ACall Try.prog (62 : Nat) [Value.pointer (some (Addr.mk (AHeap.n h) (0 : Nat) (some (0 : Nat))))] (AHeap.push h (AObj.mk [[Value.string t, Value.int IntKind.i64 (Int.ofNat (0 : Nat)), Value.bool false]] (3 : Nat) true)) (Value.int IntKind.i64 x) h' ∧ ∃ (x_1 : ByteArray), ∃ (h'_1 : AHeap), ACall Try.prog (64 : Nat) [Value.pointer (some (Addr.mk (AHeap.n h) (0 : Nat) (some (0 : Nat))))] h' (Value.string x_1) h'_1 ∧ ∃ (a : Option Addr), ∃ (n : Nat), ∃ (c : Nat), ∃ (a_1 : Option Addr), ∃ (n_1 : Nat), ∃ (c_1 : Nat), ∃ (x_2 : ByteArray), ∃ (x_3 : Int), ∃ (h' : AHeap), ACall Try.prog (63 : Nat) [Value.string x_1] h'_1 (Value.agg (Array.mk [Value.slice a n c, Value.slice a_1 n_1 c_1, Value.string x_2, Value.int IntKind.i64 x_3])) h' ∧ ∃ (x_4 : Bool), AHeap.ld h' (AHeap.n h) (0 : Nat) (2 : Nat) (1 : Nat) = some [Value.bool x_4] ∧ bs x_4 (Q (Value.agg (Array.mk [Value.int IntKind.i64 (Int.ofNat (0 : Nat)), Value.slice none (0 : Nat) (0 : Nat), Value.slice none (0 : Nat) (0 : Nat), Value.int IntKind.i64 (3 : Int)])) h') (bs (!decide (x_3 = (0 : Int))) (Q (Value.agg (Array.mk [Value.int IntKind.i64 (Int.ofNat (0 : Nat)), Value.slice none (0 : Nat) (0 : Nat), Value.slice none (0 : Nat) (0 : Nat), Value.int IntKind.i64 (3 : Int)])) h') (∃ (x_5 : ByteArray), ∃ (h'_2 : AHeap), ACall Try.prog (8 : Nat) [Value.agg (Array.mk [Value.int IntKind.i64 x, Value.slice a n c, Value.slice a_1 n_1 c_1])] h' (Value.string x_5) h'_2 ∧ bs (!decide (x_5 = t)) (Q (Value.agg (Array.mk [Value.int IntKind.i64 (Int.ofNat (0 : Nat)), Value.slice none (0 : Nat) (0 : Nat), Value.slice none (0 : Nat) (0 : Nat), Value.int IntKind.i64 (3 : Int)])) h'_2) (Q (Value.agg (Array.mk [Value.int IntKind.i64 x, Value.slice a n c, Value.slice a_1 n_1 c_1, Value.int IntKind.i64 (Int.ofNat (0 : Nat))])) h'_2))))) = _) ?_
  refine bs_d (fun h1 => bad 2 h (by rw [hM, if_pos (by omega)]) (.refl _) hw) (fun h1 => ?_)
  rw [if_neg (by omega)] at hM
  have wp := hw.push (rdO t 0 false)
  have lp := AHeap.Le.push hw (rdO t 0 false)
  have hg0 : (h.push (rdO t 0 false)).get h.n = some (rdO t 0 false) := AHeap.get_push_eq
  obtain ⟨_, g1, A1, w1, o1, x, a1, b1, rfl, hx, hg1, R1⟩ := srnum_spec _ wp h.n t 0 false (by omega) (Nat.zero_le _) hg0
  obtain ⟨_, g2, A2, w2, o2, s, a2, b2, rfl, hs, hg2, R2⟩ := srtext_spec g1 w1 h.n t a1 b1 (by omega) R1.le hg1
  obtain ⟨v, g3, A3, le3, w3, hv⟩ := specBrokerRead g2 w2 s hs
  have k2 : Kp [h.n] h g2 := (Kp.of_le lp).trans (o1.kp.trans o2.kp)
  have le2 : h.Le g2 := k2.le hw (fun z hz => by simp at hz; omega)
  have le : h.Le g3 := le2.trans le3
  obtain ⟨_, f2, f3, _⟩ := rd_ld (le3.get _ _ hg2)
  have hbad : b2 = true → M = ((0, [], []), 3) := fun e => by
    rw [hM]
    cases hb : b1 with
    | true => rw [R1.no rfl hb]
    | false => rw [R1.ok rfl hb]; dsimp only; rw [R2.no hb e]
  have hgood : b2 = false → M = (match brkDec s with | none => ((0, [], []), 3) | some y => bif tr (a2 = t.size ∧ 0 ≤ x ∧ x ≤ 1000000000) then ((x, y.1, y.2), 0) else ((0, [], []), 3)) := fun e => by
    have hb : b1 = false := by
      cases hb : b1 with
      | false => rfl
      | true => rw [R2.bad hb] at e; cases e
    rw [hM, R1.ok rfl hb]; dsimp only; rw [R2.ok hb e]
  rcases hv with ⟨hd, c, hc1, hc2, rfl⟩ | ⟨ts, rs, y1, y2, j1, j2, hd, rfl, S1, S2, F, okb⟩
  · refine ⟨_, _, A1, _, _, A2, _, _, _, _, _, _, _, _, _, A3, _, f3, ?_⟩
    cases b2 with
    | true => exact bad 3 g3 (hbad rfl) le w3
    | false =>
      have e3 : M = ((0, [], []), 3) := by rw [hgood rfl, hd]
      exact bs_dn (fun _ => bad 3 g3 e3 le w3) (fun h => absurd h (by omega))
  · obtain ⟨u1, e1, rfl⟩ := S1.so.sl.isSlice
    obtain ⟨u2, e2, rfl⟩ := S2.so.sl.isSlice
    refine ⟨_, _, A1, _, _, A2, _, _, _, _, _, _, _, _, _, A3, _, f3, ?_⟩
    cases b2 with
    | true => exact bad 3 g3 (hbad rfl) le w3
    | false =>
      have hM2 := hgood rfl
      rw [hd] at hM2
      dsimp only at hM2
      have hb1 : b1 = false := by
        cases hb : b1 with
        | false => rfl
        | true => have := R2.bad hb; cases this
      obtain ⟨p1, p2, p3, p4⟩ := pNum_enc (R1.ok rfl hb1)
      obtain ⟨q1, q2, q3, q4⟩ := pWord_enc (R2.ok hb1 rfl)
      obtain ⟨hok, hse⟩ := brkDec_spec hd
      have enc : t.extract 0 a2 = snapB x ts rs := by
        rw [extract_split (b := a1) (by omega) (by omega), p3, q3, hse]; rfl
      have hsz : (t.extract 0 a2).size = a2 := by rw [ByteArray.size_extract]; omega
      have hbr := okb
      obtain ⟨_, g4, A4, le4, w4, rfl⟩ := xsSnapBytes' g3 w3 x ts rs u1 e1 u2 e2 S1.so.sl S2.so.sl hok.sz.ok
      change bs (!decide ((0 : Int) = 0)) _ _
      refine bs_dn (fun h => absurd rfl h) (fun _ => ⟨_, _, A4, bs_dn (fun h2 => ?_) (fun h2 => ?_)⟩)
      · refine bad 3 g4 ?_ (le.trans le4) w4
        rw [hM2, ← tr_false (fun H => h2 ?_)]; rfl
        rw [snapBytesM_ok ⟨H.2, hok⟩, ← enc, H.1, extract_all]
      · have hso : SnapOk x ts rs := by
          refine Classical.byContradiction fun hn => ?_
          rw [snapBytesM_no hn] at h2
          rw [← h2] at q2
          have : a2 ≤ 0 := q2
          omega
        rw [snapBytesM_ok hso, ← enc] at h2
        have e5 : M = ((x, ts, rs), 0) := by rw [hM2, ← tr_true ⟨by rw [← hsz, h2], hso.1⟩]; rfl
        exact HQ _ _ ⟨le.trans le4, w4, _, _, by rw [e5]; rfl, by rw [e5]; exact (S1.le le4).so.sl, by rw [e5]; exact (S2.le le4).so.sl⟩
end Go.Proofs.Ytdcijleeoihlfaa
