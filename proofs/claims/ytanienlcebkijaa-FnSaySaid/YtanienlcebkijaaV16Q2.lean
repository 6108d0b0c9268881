/- R6, R7, T8, Q1, Q2. -/
import Derived.Test.YtanienlcebkijaaV16T6
import Derived.Test.YtanienlcebkijaaV16T7
import Derived.Test.YtanienlcebkijaaV16Z2
import Derived.Test.YtanienlcebkijaaV16S1
section
namespace Go.Dat
open Go.Abs
def PreH (t : ByteArray) (a : Nat) (nm : ByteArray) (bs : Int) (N3 a3 : Nat) (b3 : Bool) : Prop := ∃ a1 b1 a2 b2, Rd (pWord t a) t false nm a1 b1 ∧ Rd (pNum t a1) t b1 bs a2 b2 ∧ Rd (pMany 20 t a2) t b2 N3 a3 b3
def PreG (t : ByteArray) (a : Nat) (nm : ByteArray) (bs : Int) (hs : List Sh.str.T) (N5 a5 : Nat) (b5 : Bool) : Prop := ∃ N3 a3 b3 a4 b4, PreH t a nm bs N3 a3 b3 ∧ Rd (pRep (pWord t) N3 a3 []) t b3 hs a4 b4 ∧ Rd (pMany 4 t a4) t b4 N5 a5 b5
theorem PreG.top {t : ByteArray} {a : Nat} {nm : ByteArray} {bs : Int} {hs : List Sh.str.T} {gs : List groupSh.T} {N5 a5 a6 : Nat} {b5 b6 : Bool} (p : PreG t a nm bs hs N5 a5 b5) (r : Rd (pRep (pGrp t) N5 a5 []) t b5 gs a6 b6) : Rd (pTop t a) t false (nm, bs, hs, gs) a6 b6 := by
  obtain ⟨N3, a3, b3, a4, b4, ⟨a1, b1, a2, b2, r1, r2, r3⟩, r4, r5⟩ := p
  exact r1.top r2 r3 r4 r5 r
end Go.Dat
namespace Go.Proofs.Ytanienlcebkijaa
open Go.Abs Go.Dat
set_option maxRecDepth 100000
set_option maxHeartbeats 8000000
end Go.Proofs.Ytanienlcebkijaa
end
section
namespace Go.Dat
open Go.Abs
theorem BrkSz.ok {ts : List topicSh.T} {rs : List replySh.T} (H : BrkSz ts rs) : brokerSh.ok (ts, rs) := by
  refine ⟨⟨by have := H.tl; show ts.length ≤ _; omega, fun t ht => ?_⟩, ⟨by have := H.rl; show rs.length ≤ _; omega, fun r hr => ?_⟩⟩
  · have hz := H.ts t ht
    obtain ⟨nm, (b : Int), (hs : List Sh.str.T), (gs : List groupSh.T)⟩ := t
    have h1 : nm.size ≤ 20 := hz.nm
    have h2 : 0 ≤ b ∧ b ≤ 1000000000 := hz.bs
    have h3 : hs.length ≤ 20 := hz.hl
    have h4 : gs.length ≤ 4 := hz.gl
    refine ⟨by show nm.size ≤ _; omega, by show _ ≤ b ∧ b ≤ _; omega, ⟨by show hs.length ≤ _; omega, fun m hm => ?_⟩, ⟨by show gs.length ≤ _; omega, fun g hg => ?_⟩⟩
    · have := hz.hs m hm
      show ByteArray.size m ≤ _; omega
    · obtain ⟨gn, (gk : Int)⟩ := g
      have h5 := hz.gs _ hg
      have h6 : gn.size ≤ 20 := h5.1
      have h7 : 0 ≤ gk ∧ gk ≤ 2000000000 := h5.2
      exact ⟨by show gn.size ≤ _; omega, by show _ ≤ gk ∧ gk ≤ _; omega⟩
  · have hz := H.rs r hr
    obtain ⟨(c : Int), (n : Int), (t : ByteArray)⟩ := r
    have h1 : 1 ≤ c ∧ c ≤ 9 := hz.1
    have h2 : 1 ≤ n ∧ n ≤ 1000000000 := hz.2.1
    have h3 : t.size ≤ 900 := hz.2.2
    exact ⟨by show _ ≤ c ∧ c ≤ _; omega, by show _ ≤ n ∧ n ≤ _; omega, by show t.size ≤ _; omega⟩
theorem BrkSz.cv {ts : List topicSh.T} {rs : List replySh.T} (H : BrkSz ts rs) : brokerSh.cv (ts, rs) ≤ 1000 := by
  have h1 : (Sh.sl topicSh).cn ts ≤ 4 * 60 := Sh.cn_sl (e := topicSh) H.tl (fun t ht => by
    have hz := H.ts t ht
    have h3 : (Sh.sl Sh.str).cn t.2.2.1 ≤ 20 * 1 := Sh.cn_sl (e := Sh.str) hz.hl (fun _ _ => Nat.le_refl _)
    have h4 : (Sh.sl groupSh).cn t.2.2.2 ≤ 4 * 2 := Sh.cn_sl (e := groupSh) hz.gl (fun _ _ => Nat.le_refl _)
    show 1 + (1 + ((Sh.sl Sh.str).cn t.2.2.1 + (Sh.sl groupSh).cn t.2.2.2)) ≤ 60
    omega)
  have h2 : (Sh.sl replySh).cn rs ≤ 9 * 3 := Sh.cn_sl (e := replySh) H.rl (fun _ _ => Nat.le_refl _)
  show (Sh.sl topicSh).cn ts + (Sh.sl replySh).cn rs ≤ 1000
  omega
theorem so_nil {h : AHeap} {s : Sh} : So h s [] (.slice none 0 0) [] := Sn.nil.so
end Go.Dat
namespace Go.Proofs.Ytanienlcebkijaa
open Go.Abs Go.Dat
set_option maxRecDepth 100000
set_option maxHeartbeats 8000000
end Go.Proofs.Ytanienlcebkijaa
end
section
namespace Go.Dat
open Go.Abs
noncomputable def sayReadM (t : ByteArray) : sayOutSh.T :=
  if 20000 < t.size then ((0, 0, 0, 0, ⟨#[]⟩, []), 2) else match sayDec t with
  | none => ((0, 0, 0, 0, ⟨#[]⟩, []), 3)
  | some x => (x, 0)
theorem inr_ok {lo hi n : Int} (h : InR lo hi n) (h1 : -9223372036854775808 ≤ lo) (h2 : hi ≤ 9223372036854775807) : Sh.int.ok n := by
  show (-9223372036854775808 : Int) ≤ n ∧ n ≤ 9223372036854775807
  unfold InR at h; omega
theorem QuoOk.okk {l : List Sh.int.T} (H : QuoOk l) : (Sh.sl Sh.int).ok l := ⟨by have := H.len; show l.length ≤ _; omega, fun x hx => inr_ok (H.1.mem hx) (by omega) (by omega)⟩
theorem ChgOk.okk {f v : Int} {ps : List proofSh.T} (H : ChgOk f v ps) : changeSh.ok (f, v, ps) := by
  have hl := H.len
  refine ⟨inr_ok H.1 (by omega) (by omega), inr_ok H.2.1 (by omega) (by omega), by show ps.length ≤ _; omega, fun p hp => ?_⟩
  obtain ⟨h1, h2, h3, h4⟩ := (Asc.mem H.2.2 hp).1
  exact ⟨inr_ok h1 (by omega) (by omega), inr_ok h2 (by omega) (by omega), by show ByteArray.size p.2.2.1 ≤ _; omega, h4.okk⟩
theorem SayOk.okk {k f v q : Int} {op : ByteArray} {cs : List changeSh.T} (H : SayOk k f v q op cs) : saySh.ok (k, f, v, q, op, cs) := by
  obtain ⟨h1, h2, h3, h4, h5, h6⟩ := H.nums
  exact ⟨inr_ok h1 (by omega) (by omega), inr_ok h2 (by omega) (by omega), inr_ok h3 (by omega) (by omega), inr_ok h4 (by omega) (by omega), by show op.size ≤ _; omega, by show cs.length ≤ _; omega, fun c hc => (Asc.mem H.2.2.1 hc).1.okk⟩
theorem SayOk.cv {k f v q : Int} {op : ByteArray} {cs : List changeSh.T} (H : SayOk k f v q op cs) : (Sh.sl changeSh).cn cs ≤ 1000 := by
  have h1 : (Sh.sl changeSh).cn cs ≤ 4 * 100 := Sh.cn_sl (e := changeSh) (ChgsOk.len H.2.2.1) (fun c hc => by
    have hx := (Asc.mem H.2.2.1 hc).1
    have h2 : (Sh.sl proofSh).cn c.2.2 ≤ 6 * 12 := Sh.cn_sl (e := proofSh) hx.len (fun p hp => by
      have hq := (Asc.mem hx.2.2 hp).1.2.2.2
      have h3 : (Sh.sl Sh.int).cn p.2.2.2 ≤ 4 * 1 := Sh.cn_sl (e := Sh.int) hq.len (fun _ _ => Nat.le_refl _)
      show 1 + (1 + (1 + (Sh.sl Sh.int).cn p.2.2.2)) ≤ 12
      omega)
    show 1 + (1 + (Sh.sl proofSh).cn c.2.2) ≤ 100
    omega)
  omega
end Go.Dat
namespace Go.Proofs.Ytanienlcebkijaa
open Go.Abs Go.Dat
set_option maxRecDepth 100000
set_option maxHeartbeats 8000000
theorem xsSayRead (h : AHeap) (hw : h.wf) (t : ByteArray) (_ : t.size ≤ 9223372036854775807) : ∃ v h', ACall Try.prog 48 [.string t] h v h' ∧ h.Le h' ∧ h'.wf ∧ ∃ (y1 : Value), v = .agg #[.int .i64 (sayReadM t).1.1, .int .i64 (sayReadM t).1.2.1, .int .i64 (sayReadM t).1.2.2.1, .int .i64 (sayReadM t).1.2.2.2.1, .string (sayReadM t).1.2.2.2.2.1, y1, .int .i64 (sayReadM t).2] ∧ Sl h' changeSh (sayReadM t).1.2.2.2.2.2 y1 := by
  obtain ⟨M, hM⟩ : ∃ M, M = sayReadM t := ⟨_, rfl⟩
  rw [← hM]
  refine acall_q fun Q HQ => ?_
  have bad : ∀ (c : Int) (g : AHeap), M = ((0, 0, 0, 0, ⟨#[]⟩, []), c) → h.Le g → g.wf → Q (.agg #[.int .i64 (Int.ofNat 0), .int .i64 (Int.ofNat 0), .int .i64 (Int.ofNat 0), .int .i64 (Int.ofNat 0), .string ⟨#[]⟩, .slice none 0 0, .int .i64 c]) g := fun c g e le w => HQ _ _ ⟨le, w, _, by rw [e]; rfl, by rw [e]; exact Sn.nil.so.sl⟩
  unfold sayReadM at hM
  refine acall_vc (fun _ => false) (fun _ => []) (fun _ => .none) mixed Try.func48 rfl rfl rfl (Nat.le_of_ble_eq_true rfl) (by refine vc_mp (by kernel_rfl : (True ∧ (True ∧ (True ∧ True) ∧ True) ∧ True ∧ (True ∧ (True ∧ True) ∧ True) ∧ True ∧ True) = _) ?_; simp only [and_self]) ?_
  refine vc_mp (by kernel_rfl : (bs (decide ((↑(ByteArray.size t) : Int) > (20000 : Int))) (Q (Value.agg (Array.mk [Value.int IntKind.i64 (Int.ofNat (0 : Nat)), Value.int IntKind.i64 (Int.ofNat (0 : Nat)), Value.int IntKind.i64 (Int.ofNat (0 : Nat)), Value.int IntKind.i64 (Int.ofNat (0 : Nat)), Value.string (ByteArray.mk (Array.mk [])), Value.slice none (0 : Nat) (0 : Nat), Value.int IntKind.i64 (2 : Int)])) h) (∃ (x : Int), ∃ (x_1 : Int), ∃ (x_2 : Int), ∃ (x_3 : Int), ∃ (x_4 : ByteArray), ∃ (a : Option Addr), ∃ (n : Nat), ∃ (c : Nat), ∃ (x_5 : Bool), ∃ (h' : AHeap), ACall Try.prog (112 : Nat) [Value.string t] h (Value.tuple (Array.mk [Value.agg (Array.mk [Value.int IntKind.i64 x, Value.int IntKind.i64 x_1, Value.int IntKind.i64 x_2, Value.int IntKind.i64 x_3, Value.string x_4, Value.slice a n c]), Value.bool x_5])) h' ∧ bs (!x_5) (Q (Value.agg (Array.mk [Value.int IntKind.i64 (Int.ofNat (0 : Nat)), Value.int IntKind.i64 (Int.ofNat (0 : Nat)), Value.int IntKind.i64 (Int.ofNat (0 : Nat)), Value.int IntKind.i64 (Int.ofNat (0 : Nat)), Value.string (ByteArray.mk (Array.mk [])), Value.slice none (0 : Nat) (0 : Nat), Value.int IntKind.i64 (3 : Int)])) h') (Q (Value.agg (Array.mk [Value.int IntKind.i64 x, Value.int IntKind.i64 x_1, Value.int IntKind.i64 x_2, Value.int IntKind.i64 x_3, Value.string x_4, Value.slice a n c, Value.int IntKind.i64 (Int.ofNat (0 : Nat))])) h'))) = _) ?_
  refine bs_d (fun h1 => bad 2 h (by rw [hM, if_pos (by omega)]) (.refl _) hw) (fun h1 => ?_)
  rw [if_neg (by omega)] at hM
  obtain ⟨v, g3, A3, le3, w3, hv⟩ := l10Read_spec h hw t (by omega)
  rcases hv with ⟨hd, x1, x2, x3, x4, x5, u, n, c, rfl⟩ | ⟨x1, x2, x3, x4, x5, x6, y, j, hd, rfl, S1, F⟩
  · rw [hd] at hM
    refine ⟨_, _, _, _, _, _, _, _, _, _, A3, ?_⟩
    exact bad 3 g3 hM le3 w3
  · obtain ⟨u1, e1, rfl⟩ := S1.so.sl.isSlice
    rw [hd] at hM
    refine ⟨_, _, _, _, _, _, _, _, _, _, A3, ?_⟩
    exact HQ _ _ ⟨le3, w3, _, by rw [hM]; rfl, by rw [hM]; exact S1.so.sl⟩
theorem xiSayRead (h : AHeap) (hw : h.wf) (t : ByteArray) (_ : t.size ≤ 9223372036854775807) : ∃ v h', ACall Try.prog 33 [.string t] h v h' ∧ h.Le h' ∧ h'.wf ∧ ∃ (y1 : Value) (j1 : List Nat), v = .agg #[.int .i64 (sayReadM t).1.1, .int .i64 (sayReadM t).1.2.1, .int .i64 (sayReadM t).1.2.2.1, .int .i64 (sayReadM t).1.2.2.2.1, .string (sayReadM t).1.2.2.2.2.1, y1, .int .i64 (sayReadM t).2] ∧ So h' changeSh (sayReadM t).1.2.2.2.2.2 y1 j1 ∧ Fresh h.n h'.n j1 := by
  obtain ⟨M, hM⟩ : ∃ M, M = sayReadM t := ⟨_, rfl⟩
  rw [← hM]
  refine acall_q fun Q HQ => ?_
  have bad : ∀ (c : Int) (g : AHeap), M = ((0, 0, 0, 0, ⟨#[]⟩, []), c) → h.Le g → g.wf → Q (.agg #[.int .i64 (Int.ofNat 0), .int .i64 (Int.ofNat 0), .int .i64 (Int.ofNat 0), .int .i64 (Int.ofNat 0), .string ⟨#[]⟩, .slice none 0 0, .int .i64 c]) g := fun c g e le w => HQ _ _ ⟨le, w, _, [], by rw [e]; rfl, by rw [e]; exact so_nil, .nil⟩
  unfold sayReadM at hM
  refine acall_vc (fun t => t == 11) (fun _ => []) (fun _ => .none) mixed Try.func33 rfl rfl rfl (Nat.le_of_ble_eq_true rfl) (by refine vc_mp (by kernel_rfl : (True ∧ (True ∧ (True ∧ True) ∧ True) ∧ True ∧ True ∧ (True ∧ (True ∧ True) ∧ True) ∧ True ∧ True) = _) ?_; simp only [and_self]) ?_
  refine vc_mp (by kernel_rfl : (bs (decide ((↑(ByteArray.size t) : Int) > (20000 : Int))) (Q (Value.agg (Array.mk [Value.int IntKind.i64 (Int.ofNat (0 : Nat)), Value.int IntKind.i64 (Int.ofNat (0 : Nat)), Value.int IntKind.i64 (Int.ofNat (0 : Nat)), Value.int IntKind.i64 (Int.ofNat (0 : Nat)), Value.string (ByteArray.mk (Array.mk [])), Value.slice none (0 : Nat) (0 : Nat), Value.int IntKind.i64 (2 : Int)])) h) (∃ (x : Int), ∃ (x_1 : Int), ∃ (x_2 : Int), ∃ (x_3 : Int), ∃ (x_4 : ByteArray), ∃ (a : Option Addr), ∃ (n : Nat), ∃ (c : Nat), ∃ (h' : AHeap), ACall Try.prog (100 : Nat) [Value.pointer (some (Addr.mk (AHeap.n h) (0 : Nat) (some (0 : Nat))))] (AHeap.push h (AObj.mk [[Value.string t, Value.int IntKind.i64 (Int.ofNat (0 : Nat)), Value.bool false]] (3 : Nat) true)) (Value.agg (Array.mk [Value.int IntKind.i64 x, Value.int IntKind.i64 x_1, Value.int IntKind.i64 x_2, Value.int IntKind.i64 x_3, Value.string x_4, Value.slice a n c])) h' ∧ ∃ (x_5 : Bool), AHeap.ld h' (AHeap.n h) (0 : Nat) (2 : Nat) (1 : Nat) = some [Value.bool x_5] ∧ bs x_5 (Q (Value.agg (Array.mk [Value.int IntKind.i64 (Int.ofNat (0 : Nat)), Value.int IntKind.i64 (Int.ofNat (0 : Nat)), Value.int IntKind.i64 (Int.ofNat (0 : Nat)), Value.int IntKind.i64 (Int.ofNat (0 : Nat)), Value.string (ByteArray.mk (Array.mk [])), Value.slice none (0 : Nat) (0 : Nat), Value.int IntKind.i64 (3 : Int)])) h') (∃ (x_6 : Int), AHeap.ld h' (AHeap.n h) (0 : Nat) (1 : Nat) (1 : Nat) = some [Value.int IntKind.i64 x_6] ∧ bs (!decide (x_6 = (↑(ByteArray.size t) : Int))) (Q (Value.agg (Array.mk [Value.int IntKind.i64 (Int.ofNat (0 : Nat)), Value.int IntKind.i64 (Int.ofNat (0 : Nat)), Value.int IntKind.i64 (Int.ofNat (0 : Nat)), Value.int IntKind.i64 (Int.ofNat (0 : Nat)), Value.string (ByteArray.mk (Array.mk [])), Value.slice none (0 : Nat) (0 : Nat), Value.int IntKind.i64 (3 : Int)])) h') (∃ (x_7 : Bool), ∃ (h'_1 : AHeap), ACall Try.prog (97 : Nat) [Value.agg (Array.mk [Value.int IntKind.i64 x, Value.int IntKind.i64 x_1, Value.int IntKind.i64 x_2, Value.int IntKind.i64 x_3, Value.string x_4, Value.slice a n c])] h' (Value.bool x_7) h'_1 ∧ bs (!x_7) (Q (Value.agg (Array.mk [Value.int IntKind.i64 (Int.ofNat (0 : Nat)), Value.int IntKind.i64 (Int.ofNat (0 : Nat)), Value.int IntKind.i64 (Int.ofNat (0 : Nat)), Value.int IntKind.i64 (Int.ofNat (0 : Nat)), Value.string (ByteArray.mk (Array.mk [])), Value.slice none (0 : Nat) (0 : Nat), Value.int IntKind.i64 (3 : Int)])) h'_1) (Q (Value.agg (Array.mk [Value.int IntKind.i64 x, Value.int IntKind.i64 x_1, Value.int IntKind.i64 x_2, Value.int IntKind.i64 x_3, Value.string x_4, Value.slice a n c, Value.int IntKind.i64 (Int.ofNat (0 : Nat))])) h'_1))))) = _) ?_
  refine bs_d (fun h1 => bad 2 h (by rw [hM, if_pos (by omega)]) (.refl _) hw) (fun h1 => ?_)
  rw [if_neg (by omega)] at hM
  have wp := hw.push (rdO t 0 false)
  have lp := AHeap.Le.push hw (rdO t 0 false)
  have hg0 : (h.push (rdO t 0 false)).get h.n = some (rdO t 0 false) := AHeap.get_push_eq
  obtain ⟨_, g1, A1, w1, k1, x1, x2, x3, x4, x5, x6, y, j, a', b', rfl, S1, F1, ok1, hg1, R1⟩ := rsay_spec _ wp h.n t 0 false (by omega) (Nat.zero_le _) hg0
  obtain ⟨u, e, rfl⟩ := S1.so.sl.isSlice
  have le1 : h.Le g1 := ((Kp.of_le lp).trans k1).le hw (fun z hz => by simp at hz; omega)
  obtain ⟨_, f2, f3, _⟩ := rd_ld hg1
  refine ⟨_, _, _, _, _, _, _, _, _, A1, _, f3, ?_⟩
  cases b' with
  | true => exact bad 3 g1 (by rw [hM, sayDec_none (R1.no rfl rfl)]) le1 w1
  | false =>
    have hp := R1.ok rfl rfl
    refine ⟨_, f2, bs_dn (fun h2 => bad 3 g1 (by rw [hM, sayDec_no hp (fun H => h2 (by rw [H.1]))]) le1 w1) (fun h2 => ?_)⟩
    refine ⟨_, _, isSay_spec g1 x1 x2 x3 x4 x5 x6 u e S1.so.sl ok1.2.2.2.2.2, bs_nb (fun e => bad 3 g1 (by rw [hM, sayDec_no hp (fun H => of_trn e H.2)]) le1 w1) (fun e => ?_)⟩
    rw [sayDec_ok hp ⟨by omega, of_tr e⟩] at hM
    exact HQ _ _ ⟨le1, w1, _, j, by rw [hM]; rfl, by rw [hM]; exact S1.so, F1.widen (Nat.le_succ _) (Nat.le_refl _)⟩
end Go.Proofs.Ytanienlcebkijaa
end
section
namespace Go.Proofs.Ytanienlcebkijaa
open Go.Abs Go.Dat
set_option maxRecDepth 100000
set_option maxHeartbeats 8000000
theorem _root_.Go.Dat.At.cons {t : ByteArray} {a : Nat} {x : ByteArray} {xs : List ByteArray} (h : At t a (cat (x :: xs))) : At t a x ∧ At t (a + x.size) (cat xs) := At.split (x := x) (y := cat xs) h
theorem _root_.Go.Dat.At.app {t : ByteArray} {a : Nat} {xs ys : List ByteArray} (h : At t a (cat (xs ++ ys))) : At t a (cat xs) ∧ At t (a + (cat xs).size) (cat ys) := by
  rw [cat_append] at h; exact h.split
theorem pRep_fwd {α : Type} {p : Nat → Option (α × Nat)} {t : ByteArray} {enc : α → ByteArray} : ∀ (xs ys : List α) (a : Nat), (∀ x ∈ xs, ∀ a, At t a (enc x) → p a = some (x, a + (enc x).size)) → At t a (cat (xs.map enc)) → pRep p xs.length a ys = some (ys ++ xs, a + (cat (xs.map enc)).size)
  | [], ys, a, _, _ => by rw [List.append_nil]; rfl
  | x :: xs, ys, a, hp, h => by
    obtain ⟨h1, h2⟩ := At.cons (x := enc x) (xs := xs.map enc) h
    show (p a).bind (fun z => pRep p xs.length z.2 (ys ++ [z.1])) = _
    rw [hp x List.mem_cons_self a h1]
    show pRep p xs.length (a + (enc x).size) (ys ++ [x]) = _
    rw [pRep_fwd xs (ys ++ [x]) _ (fun y hy => hp y (List.mem_cons_of_mem _ hy)) h2, List.append_assoc]
    show some (ys ++ ([x] ++ xs), _) = some (_, a + (enc x ++ cat (xs.map enc)).size)
    rw [ByteArray.size_append, Nat.add_assoc]; rfl
abbrev In64 (n : Int) : Prop := -9223372036854775808 ≤ n ∧ n ≤ 9223372036854775807
theorem pPrf_fwd {t : ByteArray} {a : Nat} {x : proofSh.T} (H : PrfOk x.1 x.2.1 x.2.2.1 x.2.2.2) (h : At t a (prfB x)) : pPrf t a = some (x, a + (prfB x).size) := by
  obtain ⟨(v : Int), (q : Int), (op : ByteArray), (l : List Int)⟩ := x
  obtain ⟨b1, b2, b3, b4⟩ := H
  dsimp only at *
  have len := b4.len
  have mem : ∀ y ∈ l, In64 y := fun y hy => by have := b4.1.mem hy; exact ⟨by have := this.1; omega, by have := this.2; omega⟩
  have e : prfB (v, q, op, l) = cat ([nb v, nb q, vt op, nb (l.length : Int)] ++ l.map nb) := by
    show cat ([nb v, nb q, vt op, nb (l.length : Int)] ++ (l.take l.length).map nb) = _
    rw [List.take_length]
  rw [e] at h ⊢
  obtain ⟨hA, hB⟩ := h.app
  obtain ⟨k1, hA⟩ := hA.cons
  obtain ⟨k2, hA⟩ := hA.cons
  obtain ⟨k3, hA⟩ := hA.cons
  obtain ⟨k4, _⟩ := hA.cons
  have es : (cat [nb v, nb q, vt op, nb (l.length : Int)]).size = (nb v).size + ((nb q).size + ((vt op).size + ((nb (l.length : Int)).size + 0))) := by
    simp only [cat, ByteArray.size_append]; rfl
  have f := pRep_fwd (p := pNum t) (enc := nb) l [] (a + (cat [nb v, nb q, vt op, nb (l.length : Int)]).size) (fun y hy a ha => pNum_fwd (mem y hy) ha) hB
  rw [cat_append, ByteArray.size_append]
  unfold pPrf
  rw [pNum_fwd (by have := b1.1; have := b1.2; omega) k1]
  simp only [Option.bind_some]
  rw [show vb (foldN v) = nb v from rfl, pNum_fwd (by have := b2.1; have := b2.2; omega) k2]
  simp only [Option.bind_some]
  rw [show vb (foldN q) = nb q from rfl, pWord_fwd (by omega) k3]
  simp only [Option.bind_some]
  rw [pMany_fwd (n := l.length) (by omega) (by omega) k4]
  simp only [Option.bind_some]
  rw [show a + (nb v).size + (nb q).size + (vt op).size + (vb (foldN (l.length : Int))).size = a + (cat [nb v, nb q, vt op, nb (l.length : Int)]).size by rw [es]; show _ + (nb (l.length : Int)).size = _; omega, f]
  simp only [Option.bind_some, List.nil_append, Nat.add_assoc]
theorem pChg_fwd {t : ByteArray} {a : Nat} {x : changeSh.T} (H : ChgOk x.1 x.2.1 x.2.2) (h : At t a (chgB x)) : pChg t a = some (x, a + (chgB x).size) := by
  obtain ⟨(f : Int), (v : Int), (l : List proofSh.T)⟩ := x
  have len := H.len
  obtain ⟨b1, b2, b4⟩ := H
  dsimp only at *
  have mem : ∀ y ∈ l, PrfOk y.1 y.2.1 y.2.2.1 y.2.2.2 := fun y hy => (b4.mem hy).1
  have e : chgB (f, v, l) = cat ([nb f, nb v, nb (l.length : Int)] ++ l.map prfB) := by
    show cat ([nb f, nb v, nb (l.length : Int)] ++ (l.take l.length).map prfB) = _
    rw [List.take_length]
  rw [e] at h ⊢
  obtain ⟨hA, hB⟩ := h.app
  obtain ⟨k1, hA⟩ := hA.cons
  obtain ⟨k2, hA⟩ := hA.cons
  obtain ⟨k4, _⟩ := hA.cons
  have es : (cat [nb f, nb v, nb (l.length : Int)]).size = (nb f).size + ((nb v).size + ((nb (l.length : Int)).size + 0)) := by
    simp only [cat, ByteArray.size_append]; rfl
  have g := pRep_fwd (p := pPrf t) (enc := prfB) l [] (a + (cat [nb f, nb v, nb (l.length : Int)]).size) (fun y hy a ha => pPrf_fwd (mem y hy) ha) hB
  rw [cat_append, ByteArray.size_append]
  unfold pChg
  rw [pNum_fwd (by have := b1.1; have := b1.2; omega) k1]
  simp only [Option.bind_some]
  rw [show vb (foldN f) = nb f from rfl, pNum_fwd (by have := b2.1; have := b2.2; omega) k2]
  simp only [Option.bind_some]
  rw [show vb (foldN v) = nb v from rfl, pMany_fwd (n := l.length) (by omega) (by omega) k4]
  simp only [Option.bind_some]
  rw [show a + (nb f).size + (nb v).size + (vb (foldN (l.length : Int))).size = a + (cat [nb f, nb v, nb (l.length : Int)]).size by rw [es]; show _ + (nb (l.length : Int)).size = _; omega, g]
  simp only [Option.bind_some, List.nil_append, Nat.add_assoc]
theorem pSay_fwd {t : ByteArray} {a : Nat} {k f v q : Int} {op : ByteArray} {cs : List changeSh.T} (H : SayOk k f v q op cs) (h : At t a (sayB k f v q op cs)) : pSay t a = some ((k, f, v, q, op, cs), a + (sayB k f v q op cs).size) := by
  obtain ⟨c1, c2, c3, c4, c5, len⟩ := H.nums
  obtain ⟨_, _, b4, _⟩ := H
  have mem : ∀ y ∈ cs, ChgOk y.1 y.2.1 y.2.2 := fun y hy => (b4.mem hy).1
  have e : sayB k f v q op cs = cat ([nb k, nb f, nb v, nb q, vt op, nb (cs.length : Int)] ++ cs.map chgB) := by
    show cat ([nb k, nb f, nb v, nb q, vt op, nb (cs.length : Int)] ++ (cs.take cs.length).map chgB) = _
    rw [List.take_length]
  rw [e] at h ⊢
  obtain ⟨hA, hB⟩ := h.app
  obtain ⟨k1, hA⟩ := hA.cons
  obtain ⟨k2, hA⟩ := hA.cons
  obtain ⟨k3, hA⟩ := hA.cons
  obtain ⟨k4, hA⟩ := hA.cons
  obtain ⟨k5, hA⟩ := hA.cons
  obtain ⟨k6, _⟩ := hA.cons
  have es : (cat [nb k, nb f, nb v, nb q, vt op, nb (cs.length : Int)]).size = (nb k).size + ((nb f).size + ((nb v).size + ((nb q).size + ((vt op).size + ((nb (cs.length : Int)).size + 0))))) := by
    simp only [cat, ByteArray.size_append]; rfl
  have g := pRep_fwd (p := pChg t) (enc := chgB) cs [] (a + (cat [nb k, nb f, nb v, nb q, vt op, nb (cs.length : Int)]).size) (fun y hy a ha => pChg_fwd (mem y hy) ha) hB
  rw [cat_append, ByteArray.size_append]
  unfold pSay
  rw [pNum_fwd (by have := c1.1; have := c1.2; omega) k1]
  simp only [Option.bind_some]
  rw [show vb (foldN k) = nb k from rfl, pNum_fwd (by have := c2.1; have := c2.2; omega) k2]
  simp only [Option.bind_some]
  rw [show vb (foldN f) = nb f from rfl, pNum_fwd (by have := c3.1; have := c3.2; omega) k3]
  simp only [Option.bind_some]
  rw [show vb (foldN v) = nb v from rfl, pNum_fwd (by have := c4.1; have := c4.2; omega) k4]
  simp only [Option.bind_some]
  rw [show vb (foldN q) = nb q from rfl, pWord_fwd (by omega) k5]
  simp only [Option.bind_some]
  rw [pMany_fwd (n := cs.length) (by omega) (by omega) k6]
  simp only [Option.bind_some]
  rw [show a + (nb k).size + (nb f).size + (nb v).size + (nb q).size + (vt op).size + (vb (foldN (cs.length : Int))).size = a + (cat [nb k, nb f, nb v, nb q, vt op, nb (cs.length : Int)]).size by rw [es]; show _ + (nb (cs.length : Int)).size = _; omega, g]
  simp only [Option.bind_some, List.nil_append, Nat.add_assoc]
theorem sayRead_bytes {k f v q : Int} {op : ByteArray} {cs : List changeSh.T} (H : SayOk k f v q op cs) : sayReadM (sayB k f v q op cs) = ((k, f, v, q, op, cs), 0) := by
  have hs := sayPre_size H cs.length
  have hs' : (sayB k f v q op cs).size ≤ 5200 := hs
  have hp := pSay_fwd H (At.self (sayB k f v q op cs))
  rw [Nat.zero_add] at hp
  unfold sayReadM
  rw [if_neg (by omega), sayDec_ok hp ⟨rfl, H⟩]
theorem bytes_sayRead {t : ByteArray} {k f v q : Int} {op : ByteArray} {cs : List changeSh.T} (h : sayReadM t = ((k, f, v, q, op, cs), 0)) : SayOk k f v q op cs ∧ sayB k f v q op cs = t := by
  unfold sayReadM at h
  split at h
  · have : (2 : Int) = 0 := congrArg (fun x : sayOutSh.T => (show Int from x.2)) h
    omega
  cases hd : sayDec t with
  | none =>
    rw [hd] at h
    have : (3 : Int) = 0 := congrArg (fun x : sayOutSh.T => (show Int from x.2)) h
    omega
  | some y =>
    rw [hd] at h
    obtain rfl : y = (k, f, v, q, op, cs) := congrArg (fun x : sayOutSh.T => (show saySh.T from x.1)) h
    refine ⟨sayDec_spec hd, ?_⟩
    unfold sayDec at hd
    cases hp : pSay t 0 with
    | none => rw [hp] at hd; cases hd
    | some z =>
      obtain ⟨y, e⟩ := z
      rw [hp] at hd
      dsimp only at hd
      cases hc : tr (e = t.size ∧ SOk y) with
      | false => rw [hc] at hd; cases hd
      | true =>
        rw [hc] at hd
        obtain rfl := Option.some.inj hd
        exact (pSay_all hp).2 (of_tr hc).1
end Go.Proofs.Ytanienlcebkijaa
end
section
namespace Go.Dat
open Go.Abs
theorem sl_intl {h : AHeap} (xs : List Int) (n c : Nat) (hn : xs.length = n) : Sl (h.push ⟨xs.map (fun t => [Value.int .i64 t]), 1, true⟩) Sh.int xs (.slice (some ⟨h.n, 0, some 1⟩) n c) := by
  refine ⟨_, _, _, xs.map (fun t => [Value.int .i64 t]), rfl, .inr ⟨h.n, 0, rfl⟩, ?_, hn, fun i x row h1 h2 => ?_⟩
  · show (h.push _).rowsOf (.slice (some ⟨h.n, 0, some 1⟩) n c) = _
    rw [get_rowsOf AHeap.get_push_eq (by simp; omega), List.drop_zero, List.take_of_length_le (by simp; omega)]
  · rw [List.getElem?_map, h1] at h2
    exact (Option.some.inj h2).symm
end Go.Dat
namespace Go.Proofs.Ytanienlcebkijaa
open Go.Abs Go.Dat
set_option maxRecDepth 100000
set_option maxHeartbeats 8000000
theorem sizeProof_spec (h : AHeap) (a : Option Addr) (n c : Nat) : ACall Try.prog 160 [.slice a n c] h (.int .i64 n) h := by
  refine acall_out (acall_vc (fun _ => false) (fun _ => []) (fun _ => .none) mixed Try.func160 rfl rfl rfl (Nat.le_of_ble_eq_true rfl) (by refine vc_mp (by kernel_rfl : (True ∧ True ∧ True) = _) ?_; simp only [and_self]) ?_)
  refine vc_mp (by kernel_rfl : (Value.int IntKind.i64 (↑n : Int) = Value.int IntKind.i64 (↑n : Int) ∧ h = h) = _) ?_
  exact ⟨rfl, rfl⟩
theorem sizeInt_spec (h : AHeap) (a : Option Addr) (n c : Nat) : ACall Try.prog 161 [.slice a n c] h (.int .i64 n) h := by
  refine acall_out (acall_vc (fun _ => false) (fun _ => []) (fun _ => .none) mixed Try.func161 rfl rfl rfl (Nat.le_of_ble_eq_true rfl) (by refine vc_mp (by kernel_rfl : (True ∧ True ∧ True) = _) ?_; simp only [and_self]) ?_)
  refine vc_mp (by kernel_rfl : (Value.int IntKind.i64 (↑n : Int) = Value.int IntKind.i64 (↑n : Int) ∧ h = h) = _) ?_
  exact ⟨rfl, rfl⟩
theorem kNums {h g : AHeap} (le : h.Le g) (wf : g.wf) (xs : List Int) (n c : Nat) (hn : xs.length = n) (hb : ∀ x ∈ xs, In64 x) (h1 : n ≤ 1000) {K : ByteArray → AHeap → Prop} (hK : ∀ g', h.Le g' → g'.wf → K (cat (xs.map nb)) g') :
    ∃ t g', ACall Try.prog 157 [.slice (some ⟨g.n, 0, some 1⟩) n c] (g.push ⟨xs.map (fun t => [Value.int .i64 t]), 1, true⟩) (.string t) g' ∧ K t g' := by
  obtain ⟨_, g', A, le', wf', rfl⟩ := putNums_spec _ (wf.push _) (some ⟨g.n, 0, some 1⟩) n c xs (sl_intl xs n c hn) ⟨by omega, fun x hx => hb x hx⟩ (by omega)
  exact ⟨_, g', A, hK g' (le.trans ((AHeap.Le.push wf _).trans le')) wf'⟩
theorem kNum {h g : AHeap} (le : h.Le g) (wf : g.wf) (x : Int) (hb : In64 x) {K : ByteArray → AHeap → Prop} (hK : ∀ g', h.Le g' → g'.wf → K (nb x) g') :
    ∃ t g', ACall Try.prog 159 [.int .i64 x] g (.string t) g' ∧ K t g' := by
  obtain ⟨_, g', A, le', wf', rfl⟩ := putNum_spec g wf x hb
  exact ⟨_, g', A, hK g' (le.trans le') wf'⟩
theorem kText {h g : AHeap} (le : h.Le g) (wf : g.wf) (x : ByteArray) (hb : x.size ≤ 1000000) {K : ByteArray → AHeap → Prop} (hK : ∀ g', h.Le g' → g'.wf → K (vt x) g') :
    ∃ t g', ACall Try.prog 158 [.string x] g (.string t) g' ∧ K t g' := by
  obtain ⟨_, g', A, le', wf', rfl⟩ := putText_spec g wf x (by omega)
  exact ⟨_, g', A, hK g' (le.trans le') wf'⟩
def isbL (h : AHeap) (k f v q : Int) (op : ByteArray) (cs : List changeSh.T) (a : Option Addr) (c : Nat) : Nat → LSpec
  | 0 => {
    ι := Nat × AHeap
    κ := AHeap
    I := fun i => i.1 ≤ cs.length ∧ h.Le i.2 ∧ i.2.wf
    μ := fun i => cs.length - i.1
    head := fun i => ⟨[(3, .string (cat (sayPre k f v q op cs i.1))), (28, .slice a cs.length c), (29, .int .i64 cs.length), (30, .int .i64 i.1)], [], i.2⟩
    post := fun j => ⟨[(3, .string (cat (sayPre k f v q op cs cs.length)))], [], j⟩
    R := fun _ j => h.Le j ∧ j.wf
    ret := fun _ _ _ => False }
  | _ => {
    ι := Nat × Nat × changeSh.T × Option Addr × Nat × AHeap
    κ := Nat × ByteArray × AHeap
    I := fun i => (cs[i.1]? = some i.2.2.1 ∧ Sl h proofSh i.2.2.1.2.2 (.slice i.2.2.2.1 (List.length (α := proofSh.T) i.2.2.1.2.2) i.2.2.2.2.1)) ∧ i.2.1 ≤ List.length (α := proofSh.T) i.2.2.1.2.2 ∧ h.Le i.2.2.2.2.2 ∧ i.2.2.2.2.2.wf
    μ := fun i => List.length (α := proofSh.T) i.2.2.1.2.2 - i.2.1
    head := fun i => ⟨[(3, .string (cat (sayPre k f v q op cs i.1) ++ cat (chgPre i.2.2.1 i.2.1))), (28, .slice a cs.length c), (29, .int .i64 cs.length), (30, .int .i64 i.1), (46, .slice i.2.2.2.1 (List.length (α := proofSh.T) i.2.2.1.2.2) i.2.2.2.2.1), (47, .int .i64 (List.length (α := proofSh.T) i.2.2.1.2.2)), (48, .int .i64 i.2.1)], [], i.2.2.2.2.2⟩
    post := fun j => ⟨[(3, .string j.2.1), (28, .slice a cs.length c), (29, .int .i64 cs.length), (30, .int .i64 j.1)], [], j.2.2⟩
    R := fun i j => j.1 = i.1 ∧ j.2.1 = cat (sayPre k f v q op cs i.1) ++ chgB i.2.2.1 ∧ h.Le j.2.2 ∧ j.2.2.wf
    ret := fun _ _ _ => False }
theorem implSayB_spec (h : AHeap) (hw : h.wf) (k f v q : Int) (op : ByteArray) (cs : List changeSh.T) (a : Option Addr) (c : Nat) (h1 : Sl h changeSh cs (.slice a cs.length c)) (H : SayOk k f v q op cs) :
    ∃ r h', ACall Try.prog 98 [.agg #[.int .i64 k, .int .i64 f, .int .i64 v, .int .i64 q, .string op, .slice a cs.length c]] h r h' ∧ h.Le h' ∧ h'.wf ∧ r = .string (sayB k f v q op cs) := by
  refine acall_q fun Q HQ => ?_
  have sz : ∀ a b : ByteArray, (Append.append a b).size = a.size + b.size := fun a b => ByteArray.size_append
  have hs := fun j => sayPre_size H j
  obtain ⟨n1, n2, n3, n4, n5, n6⟩ := H.nums
  obtain ⟨_, _, b4, _⟩ := H
  unfold InR at n1 n2 n3 n4
  refine acall_vc (fun _ => false) (fun r => match r with | 1 => [(0, 0, []), (2, 0, []), (4, 0, []), (6, 0, []), (10, 0, []), (14, 0, []), (1, 1, []), (3, 1, []), (5, 1, []), (7, 1, []), (11, 1, []), (15, 1, []), (8, 3, [11, 15]), (9, 3, [11, 15]), (12, 3, [15]), (13, 0, []), (16, 3, []), (17, 3, []), (18, 0, []), (19, 0, [])] | 5 => [(0, 0, []), (1, 0, []), (3, 0, []), (5, 0, []), (2, 1, []), (4, 1, []), (6, 1, []), (7, 3, [2, 4]), (8, 3, []), (9, 3, []), (10, 0, []), (11, 3, [])] | 9 => [(0, 0, []), (1, 0, []), (3, 0, []), (7, 0, []), (11, 0, []), (16, 0, []), (2, 1, []), (4, 1, []), (8, 1, []), (12, 1, []), (17, 1, []), (5, 3, [8, 12, 17]), (6, 3, [8, 12, 17]), (9, 3, [12, 17]), (10, 0, []), (13, 3, [17]), (14, 3, [17]), (15, 0, []), (18, 3, []), (19, 0, []), (20, 0, []), (21, 3, [])] | _ => []) (isbL h k f v q op cs a c) mixed Try.func98 rfl rfl rfl (Nat.le_of_ble_eq_true rfl) ?_ ?_
  · refine vc_mp (by kernel_rfl : (True ∧ True ∧ (True ∧ (∀ (i : Nat × AHeap), Prod.fst i ≤ List.length cs ∧ AHeap.Le h (Prod.snd i) ∧ AHeap.wf (Prod.snd i) → bs (decide ((↑(Prod.fst i) : Int) < (↑(List.length cs) : Int))) (∃ (l : Nat), ∃ (r : Nat), a = some (Addr.mk l r (some (3 : Nat))) ∧ (0 : Int) ≤ (↑(Prod.fst i) : Int) ∧ (↑(Prod.fst i) : Int) < (↑(List.length cs) : Int) ∧ ∃ (x : Int), ∃ (x_1 : Int), ∃ (a_2 : Option Addr), ∃ (n : Nat), ∃ (c_1 : Nat), AHeap.ld (Prod.snd i) l (r + Int.toNat (↑(Prod.fst i) : Int)) (0 : Nat) (3 : Nat) = some [Value.int IntKind.i64 x, Value.int IntKind.i64 x_1, Value.slice a_2 n c_1] ∧ ∃ (x_2 : Int), ∃ (h' : AHeap), ACall Try.prog (160 : Nat) [Value.slice a_2 n c_1] (Prod.snd i) (Value.int IntKind.i64 x_2) h' ∧ Value.int IntKind.i64 x_1 = Value.int IntKind.i64 x_1 ∧ Value.int IntKind.i64 x = Value.int IntKind.i64 x ∧ ∃ (x_3 : ByteArray), ∃ (h'_1 : AHeap), ACall Try.prog (157 : Nat) [Value.slice (some (Addr.mk (AHeap.n h') (0 : Nat) (some (1 : Nat)))) (3 : Nat) (4 : Nat)] (AHeap.push h' (AObj.mk [[Value.int IntKind.i64 x], [Value.int IntKind.i64 x_1], [Value.int IntKind.i64 x_2]] (1 : Nat) true)) (Value.string x_3) h'_1 ∧ ByteArray.size (cat (sayPre k f v q op cs (Prod.fst i))) + ByteArray.size x_3 ≤ (9223372036854775807 : Nat) ∧ ∃ (i_1 : Nat × Nat × Sh.T changeSh × Option Addr × Nat × AHeap), Value.string (Append.append (cat (sayPre k f v q op cs (Prod.fst i))) x_3) = Value.string (Append.append (cat (sayPre k f v q op cs (Prod.fst i_1))) (cat (chgPre (Prod.fst (Prod.snd (Prod.snd i_1))) (Prod.fst (Prod.snd i_1))))) ∧ Value.slice a (List.length cs) c = Value.slice a (List.length cs) c ∧ Value.int IntKind.i64 (↑(List.length cs) : Int) = Value.int IntKind.i64 (↑(List.length cs) : Int) ∧ Value.int IntKind.i64 (↑(Prod.fst i) : Int) = Value.int IntKind.i64 (↑(Prod.fst i_1) : Int) ∧ Value.slice a_2 n c_1 = Value.slice (Prod.fst (Prod.snd (Prod.snd (Prod.snd i_1)))) (List.length (Prod.snd (Prod.snd (Prod.fst (Prod.snd (Prod.snd i_1)))))) (Prod.fst (Prod.snd (Prod.snd (Prod.snd (Prod.snd i_1))))) ∧ Value.int IntKind.i64 (↑n : Int) = Value.int IntKind.i64 (↑(List.length (Prod.snd (Prod.snd (Prod.fst (Prod.snd (Prod.snd i_1)))))) : Int) ∧ Value.int IntKind.i64 (0 : Int) = Value.int IntKind.i64 (↑(Prod.fst (Prod.snd i_1)) : Int) ∧ Prod.snd (Prod.snd (Prod.snd (Prod.snd (Prod.snd i_1)))) = h'_1 ∧ ((cs[Prod.fst i_1]? = some (Prod.fst (Prod.snd (Prod.snd i_1))) ∧ Sl h proofSh (Prod.snd (Prod.snd (Prod.fst (Prod.snd (Prod.snd i_1))))) (Value.slice (Prod.fst (Prod.snd (Prod.snd (Prod.snd i_1)))) (List.length (Prod.snd (Prod.snd (Prod.fst (Prod.snd (Prod.snd i_1)))))) (Prod.fst (Prod.snd (Prod.snd (Prod.snd (Prod.snd i_1))))))) ∧ Prod.fst (Prod.snd i_1) ≤ List.length (Prod.snd (Prod.snd (Prod.fst (Prod.snd (Prod.snd i_1))))) ∧ AHeap.Le h (Prod.snd (Prod.snd (Prod.snd (Prod.snd (Prod.snd i_1))))) ∧ AHeap.wf (Prod.snd (Prod.snd (Prod.snd (Prod.snd (Prod.snd i_1)))))) ∧ (∀ (j : Nat × ByteArray × AHeap), Prod.fst j = Prod.fst i_1 ∧ Prod.fst (Prod.snd j) = Append.append (cat (sayPre k f v q op cs (Prod.fst i_1))) (chgB (Prod.fst (Prod.snd (Prod.snd i_1)))) ∧ AHeap.Le h (Prod.snd (Prod.snd j)) ∧ AHeap.wf (Prod.snd (Prod.snd j)) → ∃ (j_1 : Nat × AHeap), Value.string (Prod.fst (Prod.snd j)) = Value.string (cat (sayPre k f v q op cs (Prod.fst j_1))) ∧ Value.slice a (List.length cs) c = Value.slice a (List.length cs) c ∧ Value.int IntKind.i64 (↑(List.length cs) : Int) = Value.int IntKind.i64 (↑(List.length cs) : Int) ∧ Value.int IntKind.i64 (IntKind.wrap IntKind.i64 ((↑(Prod.fst j) : Int) + (1 : Int))) = Value.int IntKind.i64 (↑(Prod.fst j_1) : Int) ∧ Prod.snd j_1 = Prod.snd (Prod.snd j) ∧ (Prod.fst j_1 ≤ List.length cs ∧ AHeap.Le h (Prod.snd j_1) ∧ AHeap.wf (Prod.snd j_1)) ∧ List.length cs - Prod.fst j_1 < List.length cs - Prod.fst i ∧ (∀ (k : AHeap), AHeap.Le h k ∧ AHeap.wf k → AHeap.Le h k ∧ AHeap.wf k) ∧ ∀ (v : Value) (h : AHeap), False → False) ∧ ∀ (v : Value) (h : AHeap), False → False) (∃ (j : AHeap), Value.string (cat (sayPre k f v q op cs (Prod.fst i))) = Value.string (cat (sayPre k f v q op cs (List.length cs))) ∧ j = Prod.snd i ∧ AHeap.Le h j ∧ AHeap.wf j)) ∧ True ∧ (True ∧ True) ∧ (True ∧ True ∧ True ∧ (∀ (i : Nat × Nat × Sh.T changeSh × Option Addr × Nat × AHeap), (cs[Prod.fst i]? = some (Prod.fst (Prod.snd (Prod.snd i))) ∧ Sl h proofSh (Prod.snd (Prod.snd (Prod.fst (Prod.snd (Prod.snd i))))) (Value.slice (Prod.fst (Prod.snd (Prod.snd (Prod.snd i)))) (List.length (Prod.snd (Prod.snd (Prod.fst (Prod.snd (Prod.snd i)))))) (Prod.fst (Prod.snd (Prod.snd (Prod.snd (Prod.snd i))))))) ∧ Prod.fst (Prod.snd i) ≤ List.length (Prod.snd (Prod.snd (Prod.fst (Prod.snd (Prod.snd i))))) ∧ AHeap.Le h (Prod.snd (Prod.snd (Prod.snd (Prod.snd (Prod.snd i))))) ∧ AHeap.wf (Prod.snd (Prod.snd (Prod.snd (Prod.snd (Prod.snd i))))) → bs (decide ((↑(Prod.fst (Prod.snd i)) : Int) < (↑(List.length (Prod.snd (Prod.snd (Prod.fst (Prod.snd (Prod.snd i)))))) : Int))) (∃ (l : Nat), ∃ (r : Nat), Prod.fst (Prod.snd (Prod.snd (Prod.snd i))) = some (Addr.mk l r (some (4 : Nat))) ∧ (0 : Int) ≤ (↑(Prod.fst (Prod.snd i)) : Int) ∧ (↑(Prod.fst (Prod.snd i)) : Int) < (↑(List.length (Prod.snd (Prod.snd (Prod.fst (Prod.snd (Prod.snd i)))))) : Int) ∧ ∃ (x : Int), ∃ (x_1 : Int), ∃ (x_2 : ByteArray), ∃ (a_2 : Option Addr), ∃ (n : Nat), ∃ (c_1 : Nat), AHeap.ld (Prod.snd (Prod.snd (Prod.snd (Prod.snd (Prod.snd i))))) l (r + Int.toNat (↑(Prod.fst (Prod.snd i)) : Int)) (0 : Nat) (4 : Nat) = some [Value.int IntKind.i64 x, Value.int IntKind.i64 x_1, Value.string x_2, Value.slice a_2 n c_1] ∧ Value.slice a_2 n c_1 = Value.slice a_2 n c_1 ∧ Value.slice a_2 n c_1 = Value.slice a_2 n c_1 ∧ Value.string x_2 = Value.string x_2 ∧ ∃ (x_3 : ByteArray), ∃ (h' : AHeap), ACall Try.prog (157 : Nat) [Value.slice (some (Addr.mk (AHeap.n (Prod.snd (Prod.snd (Prod.snd (Prod.snd (Prod.snd i)))))) (0 : Nat) (some (1 : Nat)))) (2 : Nat) (3 : Nat)] (AHeap.push (Prod.snd (Prod.snd (Prod.snd (Prod.snd (Prod.snd i))))) (AObj.mk [[Value.int IntKind.i64 x], [Value.int IntKind.i64 x_1]] (1 : Nat) true)) (Value.string x_3) h' ∧ Value.slice a_2 n c_1 = Value.slice a_2 n c_1 ∧ Value.slice a_2 n c_1 = Value.slice a_2 n c_1 ∧ Value.string x_2 = Value.string x_2 ∧ ∃ (x : ByteArray), ∃ (h'_1 : AHeap), ACall Try.prog (158 : Nat) [Value.string x_2] h' (Value.string x) h'_1 ∧ Value.slice a_2 n c_1 = Value.slice a_2 n c_1 ∧ Value.slice a_2 n c_1 = Value.slice a_2 n c_1 ∧ ByteArray.size x_3 + ByteArray.size x ≤ (9223372036854775807 : Nat) ∧ ∃ (x_4 : Int), ∃ (h' : AHeap), ACall Try.prog (161 : Nat) [Value.slice a_2 n c_1] h'_1 (Value.int IntKind.i64 x_4) h' ∧ Value.slice a_2 n c_1 = Value.slice a_2 n c_1 ∧ ∃ (x_5 : ByteArray), ∃ (h'_2 : AHeap), ACall Try.prog (159 : Nat) [Value.int IntKind.i64 x_4] h' (Value.string x_5) h'_2 ∧ Value.slice a_2 n c_1 = Value.slice a_2 n c_1 ∧ ByteArray.size (Append.append x_3 x) + ByteArray.size x_5 ≤ (9223372036854775807 : Nat) ∧ ∃ (x_6 : ByteArray), ∃ (h' : AHeap), ACall Try.prog (157 : Nat) [Value.slice a_2 n c_1] h'_2 (Value.string x_6) h' ∧ ByteArray.size (Append.append (Append.append x_3 x) x_5) + ByteArray.size x_6 ≤ (9223372036854775807 : Nat) ∧ ByteArray.size (Append.append (cat (sayPre k f v q op cs (Prod.fst i))) (cat (chgPre (Prod.fst (Prod.snd (Prod.snd i))) (Prod.fst (Prod.snd i))))) + ByteArray.size (Append.append (Append.append (Append.append x_3 x) x_5) x_6) ≤ (9223372036854775807 : Nat) ∧ ∃ (j : Nat × Nat × Sh.T changeSh × Option Addr × Nat × AHeap), Value.string (Append.append (Append.append (cat (sayPre k f v q op cs (Prod.fst i))) (cat (chgPre (Prod.fst (Prod.snd (Prod.snd i))) (Prod.fst (Prod.snd i))))) (Append.append (Append.append (Append.append x_3 x) x_5) x_6)) = Value.string (Append.append (cat (sayPre k f v q op cs (Prod.fst j))) (cat (chgPre (Prod.fst (Prod.snd (Prod.snd j))) (Prod.fst (Prod.snd j))))) ∧ Value.slice a (List.length cs) c = Value.slice a (List.length cs) c ∧ Value.int IntKind.i64 (↑(List.length cs) : Int) = Value.int IntKind.i64 (↑(List.length cs) : Int) ∧ Value.int IntKind.i64 (↑(Prod.fst i) : Int) = Value.int IntKind.i64 (↑(Prod.fst j) : Int) ∧ Value.slice (Prod.fst (Prod.snd (Prod.snd (Prod.snd i)))) (List.length (Prod.snd (Prod.snd (Prod.fst (Prod.snd (Prod.snd i)))))) (Prod.fst (Prod.snd (Prod.snd (Prod.snd (Prod.snd i))))) = Value.slice (Prod.fst (Prod.snd (Prod.snd (Prod.snd j)))) (List.length (Prod.snd (Prod.snd (Prod.fst (Prod.snd (Prod.snd j)))))) (Prod.fst (Prod.snd (Prod.snd (Prod.snd (Prod.snd j))))) ∧ Value.int IntKind.i64 (↑(List.length (Prod.snd (Prod.snd (Prod.fst (Prod.snd (Prod.snd i)))))) : Int) = Value.int IntKind.i64 (↑(List.length (Prod.snd (Prod.snd (Prod.fst (Prod.snd (Prod.snd j)))))) : Int) ∧ Value.int IntKind.i64 (IntKind.wrap IntKind.i64 ((↑(Prod.fst (Prod.snd i)) : Int) + (1 : Int))) = Value.int IntKind.i64 (↑(Prod.fst (Prod.snd j)) : Int) ∧ Prod.snd (Prod.snd (Prod.snd (Prod.snd (Prod.snd j)))) = h' ∧ ((cs[Prod.fst j]? = some (Prod.fst (Prod.snd (Prod.snd j))) ∧ Sl h proofSh (Prod.snd (Prod.snd (Prod.fst (Prod.snd (Prod.snd j))))) (Value.slice (Prod.fst (Prod.snd (Prod.snd (Prod.snd j)))) (List.length (Prod.snd (Prod.snd (Prod.fst (Prod.snd (Prod.snd j)))))) (Prod.fst (Prod.snd (Prod.snd (Prod.snd (Prod.snd j))))))) ∧ Prod.fst (Prod.snd j) ≤ List.length (Prod.snd (Prod.snd (Prod.fst (Prod.snd (Prod.snd j))))) ∧ AHeap.Le h (Prod.snd (Prod.snd (Prod.snd (Prod.snd (Prod.snd j))))) ∧ AHeap.wf (Prod.snd (Prod.snd (Prod.snd (Prod.snd (Prod.snd j)))))) ∧ List.length (Prod.snd (Prod.snd (Prod.fst (Prod.snd (Prod.snd j))))) - Prod.fst (Prod.snd j) < List.length (Prod.snd (Prod.snd (Prod.fst (Prod.snd (Prod.snd i))))) - Prod.fst (Prod.snd i) ∧ (∀ (k_1 : Nat × ByteArray × AHeap), Prod.fst k_1 = Prod.fst j ∧ Prod.fst (Prod.snd k_1) = Append.append (cat (sayPre k f v q op cs (Prod.fst j))) (chgB (Prod.fst (Prod.snd (Prod.snd j)))) ∧ AHeap.Le h (Prod.snd (Prod.snd k_1)) ∧ AHeap.wf (Prod.snd (Prod.snd k_1)) → Prod.fst k_1 = Prod.fst i ∧ Prod.fst (Prod.snd k_1) = Append.append (cat (sayPre k f v q op cs (Prod.fst i))) (chgB (Prod.fst (Prod.snd (Prod.snd i)))) ∧ AHeap.Le h (Prod.snd (Prod.snd k_1)) ∧ AHeap.wf (Prod.snd (Prod.snd k_1))) ∧ ∀ (v : Value) (h : AHeap), False → False) (∃ (j : Nat × ByteArray × AHeap), Value.string (Append.append (cat (sayPre k f v q op cs (Prod.fst i))) (cat (chgPre (Prod.fst (Prod.snd (Prod.snd i))) (Prod.fst (Prod.snd i))))) = Value.string (Prod.fst (Prod.snd j)) ∧ Value.slice a (List.length cs) c = Value.slice a (List.length cs) c ∧ Value.int IntKind.i64 (↑(List.length cs) : Int) = Value.int IntKind.i64 (↑(List.length cs) : Int) ∧ Value.int IntKind.i64 (↑(Prod.fst i) : Int) = Value.int IntKind.i64 (↑(Prod.fst j) : Int) ∧ Prod.snd (Prod.snd j) = Prod.snd (Prod.snd (Prod.snd (Prod.snd (Prod.snd i)))) ∧ Prod.fst j = Prod.fst i ∧ Prod.fst (Prod.snd j) = Append.append (cat (sayPre k f v q op cs (Prod.fst i))) (chgB (Prod.fst (Prod.snd (Prod.snd i)))) ∧ AHeap.Le h (Prod.snd (Prod.snd j)) ∧ AHeap.wf (Prod.snd (Prod.snd j)))) ∧ True ∧ (True ∧ True) ∧ (True ∧ True) ∧ True) ∧ True) ∧ True ∧ True) = _) ?_
    simp only [true_and, and_true]
    refine ⟨?_, ?_⟩
    · rintro ⟨i, g⟩ ⟨hi, le, wf⟩
      dsimp only at *
      refine bs_d (fun hlt => ?_) (fun hge => ⟨g, by rw [show i = cs.length by omega], rfl, le, wf⟩)
      obtain ⟨⟨cf, cv, cp⟩, hat⟩ : ∃ y : Int × Int × List proofSh.T, cs[i]? = some y := ⟨_, List.getElem?_eq_getElem (by omega)⟩
      obtain ⟨lo, r, row, ha, _, hrd, hld⟩ := h1.elem hat
      obtain ⟨v1, rfl, s1⟩ := rd_change.1 hrd
      dsimp only at hld s1
      obtain ⟨a2, c2, rfl⟩ := s1.isSlice
      have hx : ChgOk cf cv cp := (Asc.mem b4 (List.mem_of_getElem? hat)).1
      have hsi := hs i
      have hl6 := hx.len
      obtain ⟨x1, x2, _⟩ := hx
      unfold InR at x1 x2
      have q1 := nb_size (n := cf) (by omega)
      have q2 := nb_size (n := cv) (by omega)
      have q3 := nb_size (n := (cp.length : Int)) (by omega)
      refine ⟨lo, r, ha, Int.natCast_nonneg _, hlt, _, _, _, _, _, le.ld hld, _, _, sizeProof_spec _ _ _ _, ?_⟩
      refine kNums le wf [cf, cv, (cp.length : Int)] 3 4 rfl (fun x hx => ?_) (by omega) fun g1 le1 w1 => ?_
      · simp only [List.mem_cons, List.not_mem_nil, or_false] at hx
        rcases hx with rfl | rfl | rfl <;> exact ⟨by omega, by omega⟩
      · have q4 : (cat ([cf, cv, (cp.length : Int)].map nb)).size ≤ 30 := by
          simp only [List.map_cons, List.map_nil, cat_size_cons, cat_size_nil]; omega
        refine ⟨by omega, (i, 0, (cf, cv, cp), a2, c2, g1), rfl, rfl, rfl, rfl, rfl, rfl, ⟨⟨hat, s1⟩, Nat.zero_le _, le1, w1⟩, fun ⟨i', out, g2⟩ ⟨e1, e2, le2, w2⟩ => ?_, fun _ _ h => h⟩
        dsimp only at e1 e2 le2 w2 ⊢
        subst e1
        refine ⟨(i' + 1, g2), ?_, by rw [wrap_i64 (by omega)]; rfl, rfl, ⟨by dsimp only; omega, le2, w2⟩, by dsimp only; omega, fun _ h => h, fun _ _ h => h⟩
        rw [e2, app1]
        dsimp only
        rw [sayPre_step hat]; try rfl
    · rintro ⟨i, j, y, a', c', g⟩ ⟨⟨hat, hsl⟩, hj, le, wf⟩
      dsimp only at *
      obtain ⟨cf, cv, (cp : List proofSh.T)⟩ := y
      dsimp only at *
      refine bs_d (fun hlt => ?_) (fun hge => ⟨(i, _, g), rfl, rfl, rfl, rfl, by rw [show j = cp.length by omega]; rfl, le, wf⟩)
      have hx : ChgOk cf cv cp := (Asc.mem b4 (List.mem_of_getElem? hat)).1
      have hl6 := hx.len
      obtain ⟨⟨pv, pq, pop, (pl : List Int)⟩, hatp⟩ : ∃ y : Int × Int × ByteArray × List Int, cp[j]? = some y := ⟨_, List.getElem?_eq_getElem (by omega)⟩
      obtain ⟨lo, r, row, ha, _, hrd, hld⟩ := hsl.elem hatp
      obtain ⟨v1, rfl, s1⟩ := rd_proof.1 hrd
      dsimp only at hld s1
      obtain ⟨a2, c2, rfl⟩ := s1.isSlice
      have hp : PrfOk pv pq pop pl := (hx.2.2.mem (List.mem_of_getElem? hatp)).1
      have hsi := hs i
      have hcj := chgPre_size hx j
      have hpj : (prfB (pv, pq, pop, pl)).size ≤ 200 := prfPre_size hp pl.length
      obtain ⟨x1, x2, x3, x4⟩ := hp
      have l4 := x4.len
      have mem : ∀ y ∈ pl, In64 y := fun y hy => by have := x4.1.mem hy; exact ⟨by have := this.1; omega, by have := this.2; omega⟩
      unfold InR at x1 x2
      have q1 := nb_size (n := pv) (by omega)
      have q2 := nb_size (n := pq) (by omega)
      have q3 := nb_size (n := (pl.length : Int)) (by omega)
      have q5 := vt_size' (t := pop) (by omega)
      have q6 := vns_size pl (fun x hx => mem x hx)
      refine ⟨lo, r, ha, Int.natCast_nonneg _, hlt, _, _, _, _, _, _, le.ld hld, ?_⟩
      refine kNums le wf [pv, pq] 2 3 rfl (fun x hx => ?_) (by omega) fun g1 le1 w1 => ?_
      · simp only [List.mem_cons, List.not_mem_nil, or_false] at hx
        rcases hx with rfl | rfl <;> exact ⟨by omega, by omega⟩
      · have q4 : (cat ([pv, pq].map nb)).size ≤ 20 := by
          simp only [List.map_cons, List.map_nil, cat_size_cons, cat_size_nil]; omega
        refine kText le1 w1 pop (by omega) fun g2 le2 w2 => ⟨by omega, _, _, sizeInt_spec _ _ _ _, kNum le2 w2 (pl.length : Int) (by constructor <;> omega) fun g3 le3 w3 => ⟨by simp only [sz]; omega, ?_⟩⟩
        obtain ⟨_, g4, A4, le4, w4, rfl⟩ := putNums_spec g3 w3 a2 pl.length c2 pl (s1.mono le3) ⟨by omega, fun x hx => mem x hx⟩ (by omega)
        refine ⟨_, _, A4, by simp only [sz]; omega, by simp only [sz]; omega, ?_⟩
        refine ⟨(i, j + 1, (cf, cv, cp), a', c', g4), ?_, rfl, rfl, rfl, by rw [wrap_i64 (by omega)]; rfl, rfl, ⟨⟨hat, hsl⟩, by dsimp only; omega, le3.trans le4, w4⟩, by dsimp only; omega, fun _ h => h, fun _ _ h => h⟩
        have eP : Append.append (Append.append (Append.append (cat ([pv, pq].map nb)) (vt pop)) (nb (pl.length : Int))) (vns pl) = prfB (pv, pq, pop, pl) := by
          rw [app1, app1]
          show cat _ ++ cat (pl.map nb) = cat ([nb pv, nb pq, vt pop, nb (pl.length : Int)] ++ (pl.take pl.length).map nb)
          rw [← cat_append, List.take_length]; rfl
        rw [eP]
        dsimp only
        rw [chgPre_step hatp, ← cat_snoc]
        exact congrArg _ (ba_assoc _ _ _)
  refine vc_mp (by kernel_rfl : (Value.slice a (List.length cs) c = Value.slice a (List.length cs) c ∧ Value.string op = Value.string op ∧ ∃ (x : ByteArray), ∃ (h' : AHeap), ACall Try.prog (157 : Nat) [Value.slice (some (Addr.mk (AHeap.n h) (0 : Nat) (some (1 : Nat)))) (4 : Nat) (5 : Nat)] (AHeap.push h (AObj.mk [[Value.int IntKind.i64 k], [Value.int IntKind.i64 f], [Value.int IntKind.i64 v], [Value.int IntKind.i64 q]] (1 : Nat) true)) (Value.string x) h' ∧ Value.slice a (List.length cs) c = Value.slice a (List.length cs) c ∧ Value.string op = Value.string op ∧ ∃ (x_1 : ByteArray), ∃ (h'_1 : AHeap), ACall Try.prog (158 : Nat) [Value.string op] h' (Value.string x_1) h'_1 ∧ Value.slice a (List.length cs) c = Value.slice a (List.length cs) c ∧ ByteArray.size x + ByteArray.size x_1 ≤ (9223372036854775807 : Nat) ∧ ∃ (x_2 : Int), ∃ (h' : AHeap), ACall Try.prog (156 : Nat) [Value.slice a (List.length cs) c] h'_1 (Value.int IntKind.i64 x_2) h' ∧ ∃ (x_3 : ByteArray), ∃ (h'_2 : AHeap), ACall Try.prog (159 : Nat) [Value.int IntKind.i64 x_2] h' (Value.string x_3) h'_2 ∧ ByteArray.size (Append.append x x_1) + ByteArray.size x_3 ≤ (9223372036854775807 : Nat) ∧ ∃ (i : Nat × AHeap), Value.string (Append.append (Append.append x x_1) x_3) = Value.string (cat (sayPre k f v q op cs (Prod.fst i))) ∧ Value.slice a (List.length cs) c = Value.slice a (List.length cs) c ∧ Value.int IntKind.i64 (↑(List.length cs) : Int) = Value.int IntKind.i64 (↑(List.length cs) : Int) ∧ Value.int IntKind.i64 (0 : Int) = Value.int IntKind.i64 (↑(Prod.fst i) : Int) ∧ Prod.snd i = h'_2 ∧ (Prod.fst i ≤ List.length cs ∧ AHeap.Le h (Prod.snd i) ∧ AHeap.wf (Prod.snd i)) ∧ (∀ (j : AHeap), AHeap.Le h j ∧ AHeap.wf j → Q (Value.string (cat (sayPre k f v q op cs (List.length cs)))) j) ∧ ∀ (v : Value) (h : AHeap), False → Q v h) = _) ?_
  have q1 := nb_size (n := k) (by omega)
  have q2 := nb_size (n := f) (by omega)
  have q3 := nb_size (n := v) (by omega)
  have q4 := nb_size (n := q) (by omega)
  have q5 := vt_size' (t := op) (by omega)
  have q6 := nb_size (n := (cs.length : Int)) (by omega)
  refine ⟨rfl, rfl, kNums (.refl _) hw [k, f, v, q] 4 5 rfl (fun x hx => ?_) (by omega) fun g1 le1 w1 => ⟨rfl, rfl, kText le1 w1 op (by omega) fun g2 le2 w2 => ⟨rfl, ?_, _, _, sizeChange_spec _ _ _ _, kNum le2 w2 (cs.length : Int) (by constructor <;> omega) fun g3 le3 w3 => ⟨?_, (0, g3), ?_, rfl, rfl, rfl, rfl, ⟨Nat.zero_le _, le3, w3⟩, fun j ⟨le, wf⟩ => HQ _ _ ⟨le, wf, rfl⟩, fun _ _ h => h.elim⟩⟩⟩⟩
  · simp only [List.mem_cons, List.not_mem_nil, or_false] at hx
    rcases hx with rfl | rfl | rfl | rfl <;> exact ⟨by omega, by omega⟩
  · simp only [List.map_cons, List.map_nil, cat_size_cons, cat_size_nil]; omega
  · simp only [sz, List.map_cons, List.map_nil, cat_size_cons, cat_size_nil]; omega
  · rw [app1, app1]; rfl
noncomputable def sayT (k f v q : Int) (op : ByteArray) (cs : List changeSh.T) : ByteArray := bif tr (SayOk k f v q op cs) then sayB k f v q op cs else ⟨#[]⟩
theorem implSayBytes_spec (h : AHeap) (hw : h.wf) (k f v q : Int) (op : ByteArray) (cs : List changeSh.T) (a : Option Addr) (c : Nat) (h1 : Sl h changeSh cs (.slice a cs.length c)) (ok : (Sh.sl changeSh).ok cs) :
    ∃ r h', ACall Try.prog 31 [.agg #[.int .i64 k, .int .i64 f, .int .i64 v, .int .i64 q, .string op, .slice a cs.length c]] h r h' ∧ h.Le h' ∧ h'.wf ∧ r = .string (sayT k f v q op cs) := by
  refine acall_q fun Q HQ => ?_
  refine acall_vc (fun _ => false) (fun _ => []) (fun _ => .none) mixed Try.func31 rfl rfl rfl (Nat.le_of_ble_eq_true rfl) (by refine vc_mp (by kernel_rfl : (True ∧ (True ∧ (True ∧ True) ∧ True) ∧ True ∧ True) = _) ?_; simp only [and_self]) ?_
  refine vc_mp (by kernel_rfl : (∃ (x : Bool), ∃ (h' : AHeap), ACall Try.prog (97 : Nat) [Value.agg (Array.mk [Value.int IntKind.i64 k, Value.int IntKind.i64 f, Value.int IntKind.i64 v, Value.int IntKind.i64 q, Value.string op, Value.slice a (List.length cs) c])] h (Value.bool x) h' ∧ bs (!x) (Q (Value.string (ByteArray.mk (Array.mk []))) h') (∃ (x : ByteArray), ∃ (h'_1 : AHeap), ACall Try.prog (98 : Nat) [Value.agg (Array.mk [Value.int IntKind.i64 k, Value.int IntKind.i64 f, Value.int IntKind.i64 v, Value.int IntKind.i64 q, Value.string op, Value.slice a (List.length cs) c])] h' (Value.string x) h'_1 ∧ Q (Value.string x) h'_1)) = _) ?_
  refine ⟨_, _, isSay_spec h k f v q op cs a c h1 ok, bs_nb (fun e => ?_) (fun e => ?_)⟩
  · exact HQ _ _ ⟨.refl _, hw, by unfold sayT; rw [e]; rfl⟩
  · obtain ⟨_, g1, A1, le1, w1, rfl⟩ := implSayB_spec h hw k f v q op cs a c h1 (of_tr e)
    exact ⟨_, _, A1, HQ _ _ ⟨le1, w1, by unfold sayT; rw [e]; rfl⟩⟩
theorem implSayRight_spec (h : AHeap) (k f v q : Int) (op : ByteArray) (cs : List changeSh.T) (a : Option Addr) (c : Nat) (h1 : Sl h changeSh cs (.slice a cs.length c)) (ok : (Sh.sl changeSh).ok cs) :
    ACall Try.prog 38 [.agg #[.int .i64 k, .int .i64 f, .int .i64 v, .int .i64 q, .string op, .slice a cs.length c]] h (.bool (tr (SayOk k f v q op cs))) h := by
  refine acall_out (acall_vc (fun _ => false) (fun _ => []) (fun _ => .none) mixed Try.func38 rfl rfl rfl (Nat.le_of_ble_eq_true rfl) (by refine vc_mp (by kernel_rfl : (True ∧ True ∧ True) = _) ?_; simp only [and_self]) ?_)
  refine vc_mp (by kernel_rfl : (∃ (x : Bool), ∃ (h' : AHeap), ACall Try.prog (97 : Nat) [Value.agg (Array.mk [Value.int IntKind.i64 k, Value.int IntKind.i64 f, Value.int IntKind.i64 v, Value.int IntKind.i64 q, Value.string op, Value.slice a (List.length cs) c])] h (Value.bool x) h' ∧ Value.bool x = Value.bool (tr (SayOk k f v q op cs)) ∧ h' = h) = _) ?_
  exact ⟨_, _, isSay_spec h k f v q op cs a c h1 ok, rfl, rfl⟩
theorem implProofRight_spec (h : AHeap) (v q : Int) (op : ByteArray) (l : List Sh.int.T) (a : Option Addr) (c : Nat) (h1 : Sl h Sh.int l (.slice a l.length c)) (ok : (Sh.sl Sh.int).ok l) :
    ACall Try.prog 40 [.agg #[.int .i64 v, .int .i64 q, .string op, .slice a l.length c]] h (.bool (tr (PrfOk v q op l))) h := by
  refine acall_out (acall_vc (fun _ => false) (fun _ => []) (fun _ => .none) mixed Try.func40 rfl rfl rfl (Nat.le_of_ble_eq_true rfl) (by refine vc_mp (by kernel_rfl : (True ∧ True ∧ True) = _) ?_; simp only [and_self]) ?_)
  refine vc_mp (by kernel_rfl : (∃ (x : Bool), ∃ (h' : AHeap), ACall Try.prog (108 : Nat) [Value.agg (Array.mk [Value.int IntKind.i64 v, Value.int IntKind.i64 q, Value.string op, Value.slice a (List.length l) c])] h (Value.bool x) h' ∧ Value.bool x = Value.bool (tr (PrfOk v q op l)) ∧ h' = h) = _) ?_
  exact ⟨_, _, isProof_spec h v q op l a c h1 ok, rfl, rfl⟩
theorem implChangeRight_spec (h : AHeap) (f v : Int) (ps : List proofSh.T) (a : Option Addr) (c : Nat) (h1 : Sl h proofSh ps (.slice a ps.length c)) (ok : (Sh.sl proofSh).ok ps) :
    ACall Try.prog 42 [.agg #[.int .i64 f, .int .i64 v, .slice a ps.length c]] h (.bool (tr (ChgOk f v ps))) h := by
  refine acall_out (acall_vc (fun _ => false) (fun _ => []) (fun _ => .none) mixed Try.func42 rfl rfl rfl (Nat.le_of_ble_eq_true rfl) (by refine vc_mp (by kernel_rfl : (True ∧ True ∧ True) = _) ?_; simp only [and_self]) ?_)
  refine vc_mp (by kernel_rfl : (∃ (x : Bool), ∃ (h' : AHeap), ACall Try.prog (110 : Nat) [Value.agg (Array.mk [Value.int IntKind.i64 f, Value.int IntKind.i64 v, Value.slice a (List.length ps) c])] h (Value.bool x) h' ∧ Value.bool x = Value.bool (tr (ChgOk f v ps)) ∧ h' = h) = _) ?_
  exact ⟨_, _, isChange_spec h f v ps a c h1 ok, rfl, rfl⟩
theorem implOpRight_spec (h : AHeap) (t : ByteArray) : ACall Try.prog 44 [.string t] h (.bool (tr (t.size ≤ 120))) h := by
  refine acall_out (acall_vc (fun _ => false) (fun _ => []) (fun _ => .none) mixed Try.func44 rfl rfl rfl (Nat.le_of_ble_eq_true rfl) (by refine vc_mp (by kernel_rfl : (True ∧ True ∧ True) = _) ?_; simp only [and_self]) ?_)
  refine vc_mp (by kernel_rfl : (∃ (x : Bool), ∃ (h' : AHeap), ACall Try.prog (111 : Nat) [Value.string t] h (Value.bool x) h' ∧ Value.bool x = Value.bool (tr (ByteArray.size t ≤ (120 : Nat))) ∧ h' = h) = _) ?_
  exact ⟨_, _, isOp_spec h t, rfl, rfl⟩
end Go.Proofs.Ytanienlcebkijaa
end
