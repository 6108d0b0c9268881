/- Contracts: what is read as a say. -/
import Derived.Test.YtdcijleeoihlfaaV9T7
import Derived.Test.YtdcijleeoihlfaaV9R7
namespace Go.Dat
open Go.Abs
noncomputable def sayReadM (t : ByteArray) : sayOutSh.T :=
  if 20000 < t.size then ((0, 0, 0, 0, ⟨#[]⟩, []), 2) else match sayDec t with
  | none => ((0, 0, 0, 0, ⟨#[]⟩, []), 3)
  | some x => (x, 0)
theorem sayReadM_cases (t : ByteArray) : (∃ c : Int, (0 ≤ c ∧ c ≤ 100) ∧ sayReadM t = ((0, 0, 0, 0, ⟨#[]⟩, []), c)) ∨ ∃ (k f v q : Int) (op : ByteArray) (cs : List changeSh.T), sayReadM t = ((k, f, v, q, op, cs), 0) ∧ SayOk k f v q op cs := by
  unfold sayReadM
  split
  · exact .inl ⟨2, by decide, rfl⟩
  cases h1 : sayDec t with
  | none => exact .inl ⟨3, by decide, rfl⟩
  | some x => exact .inr ⟨x.1, x.2.1, x.2.2.1, x.2.2.2.1, x.2.2.2.2.1, x.2.2.2.2.2, rfl, sayDec_spec h1⟩
theorem inr_ok {lo hi n : Int} (h : InR lo hi n) (h1 : -9223372036854775808 ≤ lo) (h2 : hi ≤ 9223372036854775807) : Sh.int.ok n := by
  show (-9223372036854775808 : Int) ≤ n ∧ n ≤ 9223372036854775807
  unfold InR at h; omega
theorem QuoOk.okk {l : List Sh.int.T} (H : QuoOk l) : (Sh.sl Sh.int).ok l := ⟨by have := H.len; show l.length ≤ _; omega, fun x hx => inr_ok (H.1.mem hx) (by omega) (by omega)⟩
theorem ChgOk.okk {f v : Int} {ps : List proofSh.T} (H : ChgOk f v ps) : changeSh.ok (f, v, ps) := by
  have hl := H.len
  refine ⟨inr_ok H.1 (by omega) (by omega), inr_ok H.2.1 (by omega) (by omega), by show ps.length ≤ _; omega, fun p hp => ?_⟩
  obtain ⟨h1, h2, h3, h4⟩ := (Asc.mem H.2.2 hp).1
  exact ⟨inr_ok h1 (by omega) (by omega), inr_ok h2 (by omega) (by omega), by show ByteArray.size p.2.2.1 ≤ _; omega, h4.okk⟩
theorem SayOk.okk {k f v q : Int} {op : ByteArray} {cs : List changeSh.T} (H : SayOk k f v q op cs) : saySh.ok (k, f, v, q, op, cs) := by
  obtain ⟨h1, h2, h3, h4, h5, h6⟩ := H.nums
  exact ⟨inr_ok h1 (by omega) (by omega), inr_ok h2 (by omega) (by omega), inr_ok h3 (by omega) (by omega), inr_ok h4 (by omega) (by omega), by show op.size ≤ _; omega, by show cs.length ≤ _; omega, fun c hc => (Asc.mem H.2.2.1 hc).1.okk⟩
theorem SayOk.cv {k f v q : Int} {op : ByteArray} {cs : List changeSh.T} (H : SayOk k f v q op cs) : (Sh.sl changeSh).cn cs ≤ 1000 := by
  have h1 : (Sh.sl changeSh).cn cs ≤ 4 * 100 := Sh.cn_sl (e := changeSh) (ChgsOk.len H.2.2.1) (fun c hc => by
    have hx := (Asc.mem H.2.2.1 hc).1
    have h2 : (Sh.sl proofSh).cn c.2.2 ≤ 6 * 12 := Sh.cn_sl (e := proofSh) hx.len (fun p hp => by
      have hq := (Asc.mem hx.2.2 hp).1.2.2.2
      have h3 : (Sh.sl Sh.int).cn p.2.2.2 ≤ 4 * 1 := Sh.cn_sl (e := Sh.int) hq.len (fun _ _ => Nat.le_refl _)
      show 1 + (1 + (1 + (Sh.sl Sh.int).cn p.2.2.2)) ≤ 12
      omega)
    show 1 + (1 + (Sh.sl proofSh).cn c.2.2) ≤ 100
    omega)
  omega
theorem sayReadM_ok (t : ByteArray) (_ : t.size ≤ 9223372036854775807) : sayOutSh.ok (sayReadM t) := by
  rcases sayReadM_cases t with ⟨c, hc, e⟩ | ⟨k, f, v, q, op, cs, e, hb⟩
  · rw [e]; exact ⟨⟨zok, zok, zok, zok, Nat.zero_le _, nok⟩, by show _ ≤ c ∧ c ≤ _; omega⟩
  · rw [e]; exact ⟨hb.okk, zok⟩
theorem sayReadM_cn (t : ByteArray) (_ : t.size ≤ 9223372036854775807) : (sayOutSh.cv (sayReadM t) : Int) ≤ 900000000000 := by
  rcases sayReadM_cases t with ⟨c, hc, e⟩ | ⟨k, f, v, q, op, cs, e, hb⟩
  · rw [e]; show ((0 : Nat) : Int) ≤ _; omega
  · rw [e]
    have := hb.cv
    show ((0 + (0 + (0 + (0 + (0 + (Sh.sl changeSh).cn cs)))) + 0 : Nat) : Int) ≤ _
    omega
end Go.Dat
namespace Go.Proofs.Ytdcijleeoihlfaa
open Go.Abs Go.Dat
set_option maxRecDepth 100000
set_option maxHeartbeats 8000000
theorem xsSayRead (h : AHeap) (hw : h.wf) (t : ByteArray) (_ : t.size ≤ 9223372036854775807) : ∃ v h', ACall Try.prog 12 [.string t] h v h' ∧ h.Le h' ∧ h'.wf ∧ ∃ (y1 : Value), v = .agg #[.int .i64 (sayReadM t).1.1, .int .i64 (sayReadM t).1.2.1, .int .i64 (sayReadM t).1.2.2.1, .int .i64 (sayReadM t).1.2.2.2.1, .string (sayReadM t).1.2.2.2.2.1, y1, .int .i64 (sayReadM t).2] ∧ Sl h' changeSh (sayReadM t).1.2.2.2.2.2 y1 := by
  obtain ⟨M, hM⟩ : ∃ M, M = sayReadM t := ⟨_, rfl⟩
  rw [← hM]
  refine acall_q fun Q HQ => ?_
  have bad : ∀ (c : Int) (g : AHeap), M = ((0, 0, 0, 0, ⟨#[]⟩, []), c) → h.Le g → g.wf → Q (.agg #[.int .i64 (Int.ofNat 0), .int .i64 (Int.ofNat 0), .int .i64 (Int.ofNat 0), .int .i64 (Int.ofNat 0), .string ⟨#[]⟩, .slice none 0 0, .int .i64 c]) g := fun c g e le w => HQ _ _ ⟨le, w, _, by rw [e]; rfl, by rw [e]; exact Sn.nil.so.sl⟩
  unfold sayReadM at hM
  refine acall_vc (fun _ => false) (fun _ => []) (fun _ => .none) mixed Try.func12 rfl rfl rfl (Nat.le_of_ble_eq_true rfl) (by refine vc_mp (by kernel_rfl : (True ∧ (True ∧ (True ∧ True) ∧ True) ∧ True ∧ (True ∧ (True ∧ True) ∧ True) ∧ True ∧ True) = _) ?_; simp only [and_self]) ?_
  refine vc_mp (by kernel_rfl : (bs (decide ((↑(ByteArray.size t) : Int) > (20000 : Int))) (Q (Value.agg (Array.mk [Value.int IntKind.i64 (Int.ofNat (0 : Nat)), Value.int IntKind.i64 (Int.ofNat (0 : Nat)), Value.int IntKind.i64 (Int.ofNat (0 : Nat)), Value.int IntKind.i64 (Int.ofNat (0 : Nat)), Value.string (ByteArray.mk (Array.mk [])), Value.slice none (0 : Nat) (0 : Nat), Value.int IntKind.i64 (2 : Int)])) h) (∃ (x : Int), ∃ (x_1 : Int), ∃ (x_2 : Int), ∃ (x_3 : Int), ∃ (x_4 : ByteArray), ∃ (a : Option Addr), ∃ (n : Nat), ∃ (c : Nat), ∃ (x_5 : Bool), ∃ (h' : AHeap), ACall Try.prog (36 : Nat) [Value.string t] h (Value.tuple (Array.mk [Value.agg (Array.mk [Value.int IntKind.i64 x, Value.int IntKind.i64 x_1, Value.int IntKind.i64 x_2, Value.int IntKind.i64 x_3, Value.string x_4, Value.slice a n c]), Value.bool x_5])) h' ∧ bs (!x_5) (Q (Value.agg (Array.mk [Value.int IntKind.i64 (Int.ofNat (0 : Nat)), Value.int IntKind.i64 (Int.ofNat (0 : Nat)), Value.int IntKind.i64 (Int.ofNat (0 : Nat)), Value.int IntKind.i64 (Int.ofNat (0 : Nat)), Value.string (ByteArray.mk (Array.mk [])), Value.slice none (0 : Nat) (0 : Nat), Value.int IntKind.i64 (3 : Int)])) h') (Q (Value.agg (Array.mk [Value.int IntKind.i64 x, Value.int IntKind.i64 x_1, Value.int IntKind.i64 x_2, Value.int IntKind.i64 x_3, Value.string x_4, Value.slice a n c, Value.int IntKind.i64 (Int.ofNat (0 : Nat))])) h'))) = _) ?_
  refine bs_d (fun h1 => bad 2 h (by rw [hM, if_pos (by omega)]) (.refl _) hw) (fun h1 => ?_)
  rw [if_neg (by omega)] at hM
  obtain ⟨v, g3, A3, le3, w3, hv⟩ := l10Read_spec h hw t (by omega)
  rcases hv with ⟨hd, x1, x2, x3, x4, x5, u, n, c, rfl⟩ | ⟨x1, x2, x3, x4, x5, x6, y, j, hd, rfl, S1, F⟩
  · rw [hd] at hM
    refine ⟨_, _, _, _, _, _, _, _, _, _, A3, ?_⟩
    exact bad 3 g3 hM le3 w3
  · obtain ⟨u1, e1, rfl⟩ := S1.so.sl.isSlice
    rw [hd] at hM
    refine ⟨_, _, _, _, _, _, _, _, _, _, A3, ?_⟩
    exact HQ _ _ ⟨le3, w3, _, by rw [hM]; rfl, by rw [hM]; exact S1.so.sl⟩
theorem xiSayRead (h : AHeap) (hw : h.wf) (t : ByteArray) (_ : t.size ≤ 9223372036854775807) : ∃ v h', ACall Try.prog 13 [.string t] h v h' ∧ h.Le h' ∧ h'.wf ∧ ∃ (y1 : Value) (j1 : List Nat), v = .agg #[.int .i64 (sayReadM t).1.1, .int .i64 (sayReadM t).1.2.1, .int .i64 (sayReadM t).1.2.2.1, .int .i64 (sayReadM t).1.2.2.2.1, .string (sayReadM t).1.2.2.2.2.1, y1, .int .i64 (sayReadM t).2] ∧ So h' changeSh (sayReadM t).1.2.2.2.2.2 y1 j1 ∧ Fresh h.n h'.n j1 := by
  obtain ⟨M, hM⟩ : ∃ M, M = sayReadM t := ⟨_, rfl⟩
  rw [← hM]
  refine acall_q fun Q HQ => ?_
  have bad : ∀ (c : Int) (g : AHeap), M = ((0, 0, 0, 0, ⟨#[]⟩, []), c) → h.Le g → g.wf → Q (.agg #[.int .i64 (Int.ofNat 0), .int .i64 (Int.ofNat 0), .int .i64 (Int.ofNat 0), .int .i64 (Int.ofNat 0), .string ⟨#[]⟩, .slice none 0 0, .int .i64 c]) g := fun c g e le w => HQ _ _ ⟨le, w, _, [], by rw [e]; rfl, by rw [e]; exact so_nil, .nil⟩
  unfold sayReadM at hM
  refine acall_vc (fun t => t == 11) (fun _ => []) (fun _ => .none) mixed Try.func13 rfl rfl rfl (Nat.le_of_ble_eq_true rfl) (by refine vc_mp (by kernel_rfl : (True ∧ (True ∧ (True ∧ True) ∧ True) ∧ True ∧ True ∧ (True ∧ (True ∧ True) ∧ True) ∧ True ∧ True) = _) ?_; simp only [and_self]) ?_
  refine vc_mp (by kernel_rfl : (bs (decide ((↑(ByteArray.size t) : Int) > (20000 : Int))) (Q (Value.agg (Array.mk [Value.int IntKind.i64 (Int.ofNat (0 : Nat)), Value.int IntKind.i64 (Int.ofNat (0 : Nat)), Value.int IntKind.i64 (Int.ofNat (0 : Nat)), Value.int IntKind.i64 (Int.ofNat (0 : Nat)), Value.string (ByteArray.mk (Array.mk [])), Value.slice none (0 : Nat) (0 : Nat), Value.int IntKind.i64 (2 : Int)])) h) (∃ (x : Int), ∃ (x_1 : Int), ∃ (x_2 : Int), ∃ (x_3 : Int), ∃ (x_4 : ByteArray), ∃ (a : Option Addr), ∃ (n : Nat), ∃ (c : Nat), ∃ (h' : AHeap), ACall Try.prog (37 : Nat) [Value.pointer (some (Addr.mk (AHeap.n h) (0 : Nat) (some (0 : Nat))))] (AHeap.push h (AObj.mk [[Value.string t, Value.int IntKind.i64 (Int.ofNat (0 : Nat)), Value.bool false]] (3 : Nat) true)) (Value.agg (Array.mk [Value.int IntKind.i64 x, Value.int IntKind.i64 x_1, Value.int IntKind.i64 x_2, Value.int IntKind.i64 x_3, Value.string x_4, Value.slice a n c])) h' ∧ ∃ (x_5 : Bool), AHeap.ld h' (AHeap.n h) (0 : Nat) (2 : Nat) (1 : Nat) = some [Value.bool x_5] ∧ bs x_5 (Q (Value.agg (Array.mk [Value.int IntKind.i64 (Int.ofNat (0 : Nat)), Value.int IntKind.i64 (Int.ofNat (0 : Nat)), Value.int IntKind.i64 (Int.ofNat (0 : Nat)), Value.int IntKind.i64 (Int.ofNat (0 : Nat)), Value.string (ByteArray.mk (Array.mk [])), Value.slice none (0 : Nat) (0 : Nat), Value.int IntKind.i64 (3 : Int)])) h') (∃ (x_6 : Int), AHeap.ld h' (AHeap.n h) (0 : Nat) (1 : Nat) (1 : Nat) = some [Value.int IntKind.i64 x_6] ∧ bs (!decide (x_6 = (↑(ByteArray.size t) : Int))) (Q (Value.agg (Array.mk [Value.int IntKind.i64 (Int.ofNat (0 : Nat)), Value.int IntKind.i64 (Int.ofNat (0 : Nat)), Value.int IntKind.i64 (Int.ofNat (0 : Nat)), Value.int IntKind.i64 (Int.ofNat (0 : Nat)), Value.string (ByteArray.mk (Array.mk [])), Value.slice none (0 : Nat) (0 : Nat), Value.int IntKind.i64 (3 : Int)])) h') (∃ (x_7 : Bool), ∃ (h'_1 : AHeap), ACall Try.prog (38 : Nat) [Value.agg (Array.mk [Value.int IntKind.i64 x, Value.int IntKind.i64 x_1, Value.int IntKind.i64 x_2, Value.int IntKind.i64 x_3, Value.string x_4, Value.slice a n c])] h' (Value.bool x_7) h'_1 ∧ bs (!x_7) (Q (Value.agg (Array.mk [Value.int IntKind.i64 (Int.ofNat (0 : Nat)), Value.int IntKind.i64 (Int.ofNat (0 : Nat)), Value.int IntKind.i64 (Int.ofNat (0 : Nat)), Value.int IntKind.i64 (Int.ofNat (0 : Nat)), Value.string (ByteArray.mk (Array.mk [])), Value.slice none (0 : Nat) (0 : Nat), Value.int IntKind.i64 (3 : Int)])) h'_1) (Q (Value.agg (Array.mk [Value.int IntKind.i64 x, Value.int IntKind.i64 x_1, Value.int IntKind.i64 x_2, Value.int IntKind.i64 x_3, Value.string x_4, Value.slice a n c, Value.int IntKind.i64 (Int.ofNat (0 : Nat))])) h'_1))))) = _) ?_
  refine bs_d (fun h1 => bad 2 h (by rw [hM, if_pos (by omega)]) (.refl _) hw) (fun h1 => ?_)
  rw [if_neg (by omega)] at hM
  have wp := hw.push (rdO t 0 false)
  have lp := AHeap.Le.push hw (rdO t 0 false)
  have hg0 : (h.push (rdO t 0 false)).get h.n = some (rdO t 0 false) := AHeap.get_push_eq
  obtain ⟨_, g1, A1, w1, k1, x1, x2, x3, x4, x5, x6, y, j, a', b', rfl, S1, F1, ok1, hg1, R1⟩ := rsay_spec _ wp h.n t 0 false (by omega) (Nat.zero_le _) hg0
  obtain ⟨u, e, rfl⟩ := S1.so.sl.isSlice
  have le1 : h.Le g1 := ((Kp.of_le lp).trans k1).le hw (fun z hz => by simp at hz; omega)
  obtain ⟨_, f2, f3, _⟩ := rd_ld hg1
  refine ⟨_, _, _, _, _, _, _, _, _, A1, _, f3, ?_⟩
  cases b' with
  | true => exact bad 3 g1 (by rw [hM, sayDec_none (R1.no rfl rfl)]) le1 w1
  | false =>
    have hp := R1.ok rfl rfl
    refine ⟨_, f2, bs_dn (fun h2 => bad 3 g1 (by rw [hM, sayDec_no hp (fun H => h2 (by rw [H.1]))]) le1 w1) (fun h2 => ?_)⟩
    refine ⟨_, _, isSay_spec g1 x1 x2 x3 x4 x5 x6 u e S1.so.sl ok1.2.2.2.2.2, bs_nb (fun e => bad 3 g1 (by rw [hM, sayDec_no hp (fun H => of_trn e H.2)]) le1 w1) (fun e => ?_)⟩
    rw [sayDec_ok hp ⟨by omega, of_tr e⟩] at hM
    exact HQ _ _ ⟨le1, w1, _, j, by rw [hM]; rfl, by rw [hM]; exact S1.so, F1.widen (Nat.le_succ _) (Nat.le_refl _)⟩
end Go.Proofs.Ytdcijleeoihlfaa
