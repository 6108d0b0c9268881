/- G1. -/
import Derived.Test.YtpgfjadjhliohaaGreatV17C3
namespace Go.Proofs.YtpgfjadjhliohaaGreat
open Go.Abs Go.Dat
set_option maxRecDepth 100000
set_option maxHeartbeats 4000000
def Qd (a b : Prop) := True ∧ a ∧ b ∧ True ∧ True
def Qe := True ∧ (True ∧ True) ∧ True
def Qf (a : Int) := Value.int IntKind.i64 a
def Qg (a : Bool) (b : Int) (c d : AHeap) (e : Prop) := bs a (Qf (-1) = Qf b ∧ c = d) e
def Qh (a : Int) (b : Nat) := a - (↑b : Int)
def Qi (a : Int) := IntKind.wrap IntKind.i64 a
theorem szInt64S_spec (h : AHeap) (a : Option Addr) (n c : Nat) (xs : List Sh.int.T) (left : Int) (hx : Sl h Sh.int xs (.slice a n c)) (hl : 0 ≤ left ∧ left ≤ 1048576) (ok : (Sh.sl Sh.int).ok xs) :
    ACall Tryz.prog 168 [.slice a n c, .int .i64 left] h (.int .i64 ((Sh.sl Sh.int).sz xs left)) h := by
  have en := hx.len
  have ok1 : xs.length ≤ 9223372036854775807 := ok.1
  have key : (Sh.sl Sh.int).sz xs left = (if left - (xs.length : Int) < 0 then -1 else szL Sh.int.sz xs (left - (xs.length : Int))) := rfl
  rw [key, en]
  refine acall_out (acall_vc (fun _ => false) (fun _ => []) (fun _ => .none) mixed Tryz.func168 rfl rfl rfl (Nat.le_of_ble_eq_true rfl) (by (refine vc_mp (by kernel_rfl : (Qd True Qe) = _) ?_; delta Qd Qe); simp only [and_self]) ?_)
  (refine vc_mp (by kernel_rfl : (Qg (decide (Qi (Qh left n) < 0)) (ite (Qh left n < 0) (-1) (szL (Sh.sz Sh.int) xs (Qh left n))) h h (Qf (Qi (Qh left n)) = Qf (ite (Qh left n < 0) (-1) (szL (Sh.sz Sh.int) xs (Qh left n))) ∧ h = h)) = _) ?_; delta Qf Qg Qh Qi)
  rw [wrap_i64 (by omega)]
  refine bs_d (fun e => ?_) (fun e => ?_)
  · rw [if_pos e]; exact ⟨rfl, rfl⟩
  · rw [if_neg e, szL_int _ _ (by omega)]; exact ⟨rfl, rfl⟩
def Qj (a : Prop) := Qd True (Qd a (True ∧ True ∧ True))
def Qk (a : AHeap × List (List Value) × List (List Nat)) := Prod.snd (Prod.snd a)
def Ql (a : AHeap × List (List Value) × List (List Nat)) := Prod.fst (Prod.snd a)
def Qm (a : List Value) (b : Nat) (c : AHeap) (d : List (Sh.T Sh.int)) (e : Nat) (f g h : AHeap × List (List Value) × List (List Nat)) := ToI Sh.int a b c d e (Prod.fst f) (Ql g) (Qk h)
def Qn := Qf 0
def Qo (a : Nat × AHeap × List (List Value) × List (List Nat)) := Prod.fst (Prod.snd a)
def Qp (a : AHeap) (b : Option Nat) (c d : Nat) := Value.slice (some (Addr.mk (AHeap.n a) 0 b)) c (d + 1)
def Qq (a : AHeap) (b : Sh) (c d : Nat) (e : AHeap) (f : Sh) (g h : Nat) := Qp a (some (Sh.cells b)) c d = Qp e (some (Sh.cells f)) g h
def Qr (a : Nat × AHeap × List (List Value) × List (List Nat)) := (↑(Prod.fst a) : Int)
def Qs (a : Prop) (b c : Nat × AHeap × List (List Value) × List (List Nat)) (d : Nat) (e : Prop) := a ∧ 0 ≤ Qr b ∧ Qr c < (↑d : Int) ∧ e
def Qt (a : Nat × AHeap × List (List Value) × List (List Nat)) (b c : Nat) (d : Nat × AHeap × List (List Value) × List (List Nat)) (e : Nat) (f : List Value) (g : Prop) := AHeap.ld (Qo a) b (c + Int.toNat (Qr d)) 0 e = some f ∧ g
def Qu (a : AHeap) (b c : Nat) (d : Nat × AHeap × List (List Value) × List (List Nat)) (e : List Value) (f : AHeap) (g : Prop) := AHeap.wr a b (c + Int.toNat (Qr d)) 0 e = some f ∧ g
def Qv (a : Option Addr) (b c : Nat) (d : Option Addr) (e f : Nat) (g : Prop) (h i : Int) (j k : AHeap) (l : Prop) (m n o p : Nat) (q r : Prop) := Value.slice a b c = Value.slice d e f ∧ g ∧ Qf (Qi (h + 1)) = Qf i ∧ j = k ∧ l ∧ m - n < o - p ∧ q ∧ r
def Qw (a : List Value) (b : Nat) (c : AHeap) (d : List (Sh.T Sh.int)) (e f g h : Nat × AHeap × List (List Value) × List (List Nat)) := ToI Sh.int a b c d (Prod.fst e) (Qo f) (Ql (Prod.snd g)) (Qk (Prod.snd h))
def Qx (a : Option Addr) (b c : Nat) := a = some (Addr.mk b c (some 1))
def Qy (a : AHeap) (b : Sh) := some (Addr.mk (AHeap.n a) 0 (some (Sh.cells b)))
def Qz (a b c d e : Nat) (f : Prop) := 0 ≤ (↑a : Int) ∧ (↑b : Int) ≤ (↑c : Int) ∧ (↑d : Int) * (↑e : Int) ≤ 140737488355328 ∧ f
def Q10 (a : Option Addr) (b c : Nat) (d : Option Addr) (e f : Nat) (g : Prop) (h : Int) (i j : AHeap) (k l m : Prop) := Value.slice a b c = Value.slice d e f ∧ g ∧ Qn = Qf h ∧ i = j ∧ k ∧ l ∧ m
def Q11 (a : Nat) := Int.toNat (↑a : Int)
def Q12 (a : Option Addr) (b c : Nat) (d : Option Addr) (e f : Nat) (g : Value) (h : AHeap) (i : Sh) (j k : Nat) (l m : Nat × AHeap × List (List Value) × List (List Nat)) (n : AHeap) (o : Nat) (p : List Value) (q : Nat) (r s t : Prop) := Q10 a b c d e f (g = Qp h (some (Sh.cells i)) j k) (Qr l) (Qo m) (AHeap.push n (AObj.mk (List.replicate (Q11 o) p) q true)) r s t
def Q13 (a b c : AHeap) (d : Prop) := False → AHeap.Le a b ∧ AHeap.wf c ∧ d
def Q14 (a b : Prop) (c d : AHeap) (e : List Nat) := a ∧ b ∧ Fresh (AHeap.n c) (AHeap.n d) e
def Q15 (a : AHeap) (b c : Nat) := Qp a (some 1) b c
def Q16 (a : Prop) (b : AHeap) (c d : AHeap × List (List Value) × List (List Nat)) (e : Prop) := a → AHeap.Le b (Prod.fst c) ∧ AHeap.wf (Prod.fst d) ∧ e
def Q17 (a : AHeap) (b : Sh) (c d : Nat) (e : Value) (f : Prop) (g : AHeap) (h : AHeap × List (List Value) × List (List Nat)) (i : List Nat) := Q14 (Qp a (some (Sh.cells b)) c d = e) f g (Prod.fst h) i
def Q18 := Qf (Int.ofNat 0)
theorem toInt64S_spec (h : AHeap) (a : Option Addr) (n c : Nat) (xs : List (Sh.T Sh.int)) (hw : h.wf) (hx : Sl h Sh.int xs (.slice a n c)) (ok : (Sh.sl Sh.int).small xs) :
    ∃ v h', ACall Tryz.prog 169 [.slice a n c] h v h' ∧ h.Le h' ∧ h'.wf ∧ ∃ ids, v = .slice (some ⟨h.n, 0, some 1⟩) n (n + 1) ∧ So h' Sh.int xs (.slice (some ⟨h.n, 0, some 1⟩) n (n + 1)) ids ∧ Fresh h.n h'.n ids := by
  have en := hx.len
  have ok1 : xs.length ≤ 1048576 := ok.1
  refine acall_vc (fun _ => false) (fun _ => []) (fun _ => toL Sh.int [.int .i64 0] a n c h xs) mixed Tryz.func169 rfl rfl rfl (Nat.le_of_ble_eq_true rfl) ?_ ?_
  · (refine vc_mp (by kernel_rfl : (Qj (∀ (i : Nat × AHeap × List (List Value) × List (List Nat)), Qw [Qn] n h xs i i i i → bs (decide (Qr i < (↑n : Int))) (∃ (l r : Nat), Qs (Qx a l r) i i n (∃ (x : Int), Qt i l r i 1 [Qf x] (∃ (l r : Nat), Qs (Qx (Qy h Sh.int) l r) i i n (∃ (h' : AHeap), Qu (Qo i) l r i [Qf x] h' (∃ (j : Nat × AHeap × List (List Value) × List (List Nat)), Qv a n c a n c (Qq h Sh.int n n h Sh.int n n) (Qr i) (Qr j) (Qo j) h' (Qw [Qn] n h xs j j j j) n (Prod.fst j) n (Prod.fst i) (∀ (k : AHeap × List (List Value) × List (List Nat)), Qm [Qn] n h xs n k k k → Qm [Qn] n h xs n k k k) (∀ (v : Value) (h : AHeap), False → False)))))) (∃ (j : AHeap × List (List Value) × List (List Nat)), Qq h Sh.int n n h Sh.int n n ∧ Prod.fst j = Qo i ∧ Qm [Qn] n h xs n j j j))) = _) ?_; delta Qd Qf Qi Qj Qk Ql Qm Qn Qo Qp Qq Qr Qs Qt Qu Qv Qw Qx Qy)
    simp only [true_and, and_true]
    rintro ⟨i, h1, rows, idss⟩ I
    dsimp only at *
    refine bs_d (fun hlt => ?_) (fun hge => ?_)
    · have hio : i < xs.length := by omega
      obtain ⟨l, r, row, ha, _, hrd, hld⟩ := (hx.mono I.le).elem (List.getElem?_eq_getElem hio)
      obtain rfl : row = [.int .i64 xs[i]] := hrd
      obtain ⟨h3, e3, I3⟩ := I.step (cs := [.int .i64 xs[i]]) (ids := []) (by omega) (List.getElem?_eq_getElem hio) (.refl _) I.wf ⟨rfl, rfl⟩ .nil
      refine ⟨l, r, ha, Int.natCast_nonneg _, hlt, _, hld, h.n, 0, rfl, Int.natCast_nonneg _, hlt, h3, e3, (i + 1, h3, _, _), by rw [wrap_i64 (by omega)] <;> rfl, rfl, I3, by dsimp only; omega, fun _ h => h, fun _ _ h => h⟩
    · have hi := I.hi
      have e : i = n := by omega
      subst e
      exact ⟨(h1, rows, idss), rfl, I⟩
  · (refine vc_mp (by kernel_rfl : (Qz n n n n 8 (∃ (i : Nat × AHeap × List (List Value) × List (List Nat)), Q12 a n c a n c (Q15 h (Q11 n) (Q11 n)) h Sh.int n n i i h n [Q18] 1 (Qw [Qn] n h xs i i i i) (∀ (j : AHeap × List (List Value) × List (List Nat)), Q16 (Qm [Qn] n h xs n j j j) h j j (∃ (ids : List Nat), Q17 h Sh.int n n (Q15 h n n) (So (Prod.fst j) Sh.int xs (Q15 h n n) ids) h j ids)) (∀ (v : Value) (h_1 : AHeap), Q13 h h_1 h_1 (∃ (ids : List Nat), Q14 (v = Q15 h n n) (So h_1 Sh.int xs (Q15 h n n) ids) h h_1 ids)))) = _) ?_; delta Qf Qk Ql Qm Qn Qo Qp Qr Qw Qz Q10 Q11 Q12 Q13 Q14 Q15 Q16 Q17 Q18)
    refine ⟨Int.natCast_nonneg _, Int.le_refl _, by omega, (0, _, _, _), rfl, rfl, rfl, rfl, ToI.start hw rfl, ?_, fun _ _ h => h.elim⟩
    rintro ⟨h1, rows, idss⟩ I
    obtain ⟨ids, h2, h3⟩ := ToI.finish I en (n + 1)
    exact ⟨I.le, I.wf, ids, rfl, h2, h3⟩
def Q19 (a : Prop) := Qd Qe (True ∧ a ∧ (True ∧ True ∧ True) ∧ Qe ∧ True)
def Q1a (a : Prop) (b c d : Nat) (e : Prop) := a ∧ 0 ≤ (↑b : Int) ∧ (↑c : Int) < (↑d : Int) ∧ e
def Q1b (a : AHeap) (b c d e : Nat) (f : List Value) (g : Prop) := AHeap.ld a b (c + Q11 d) 0 e = some f ∧ g
def Q1c (a b : Bool) (c d : AHeap) (e : Prop) := bs (not a) (Value.bool false = Value.bool b ∧ c = d) e
def Q1d (a : Option Addr) (b c : Nat) (d : Option Addr) (e f : Nat) (g : Option Addr) (h i : Nat) (j : Option Addr) (k l m n : Nat) (o p : AHeap) (q : Prop) (r s t u : Nat) (v w : Prop) := Qv a b c d e f (Value.slice g h i = Value.slice j k l) (↑m : Int) (↑n : Int) o p q r s t u v w
def Q1e (a : Value) (b : Bool) (c d : AHeap) (e : Value) (f : Bool) (g h : AHeap) := a = Value.bool b ∧ c = d → e = Value.bool f ∧ g = h
def Q1f (a : Option Addr) (b c : Nat) (d : Option Addr) (e f : Nat) (g : Option Addr) (h i : Nat) (j : Option Addr) (k l m : Nat) (n o : AHeap) (p q r : Prop) := Q10 a b c d e f (Value.slice g h i = Value.slice j k l) (↑m : Int) n o p q r
def Q1g (a : Bool) (b c : AHeap) := Value.bool true = Value.bool a ∧ b = c
theorem eqInt64S_spec (h : AHeap) (a : Option Addr) (n c : Nat) (a' : Option Addr) (n' c' : Nat) (xs ys : List (Sh.T Sh.int)) (hx : Sl h Sh.int xs (.slice a n c)) (hy : Sl h Sh.int ys (.slice a' n' c')) (hn : xs.length ≤ 9223372036854775807) :
    ACall Tryz.prog 170 [.slice a n c, .slice a' n' c'] h (.bool (eqb xs ys)) h := by
  have en := hx.len
  have en' := hy.len
  refine acall_out (acall_vc (fun _ => false) (fun _ => [(0, 0, []), (1, 0, []), (2, 0, []), (4, 0, []), (5, 0, []), (6, 0, []), (3, 1, []), (7, 1, []), (8, 0, [])]) (fun _ => eqLp h a n c a' n' c' xs ys) mixed Tryz.func170 rfl rfl rfl (Nat.le_of_ble_eq_true rfl) ?_ ?_)
  · (refine vc_mp (by kernel_rfl : (Q19 (∀ (i : Nat), EqI xs ys i → bs (decide ((↑i : Int) < (↑n : Int))) (∃ (l r : Nat), Q1a (Qx a l r) i i n (∃ (l_1 r_1 : Nat), Q1a (Qx a' l_1 r_1) i i n' (∃ (x : Int), Q1b h l r i 1 [Qf x] (∃ (x_1 : Int), Q1b h l_1 r_1 i 1 [Qf x_1] (Q1c (decide (x = x_1)) (eqb xs ys) h h (∃ (j : Nat), Q1d a n c a n c a' n' c' a' n' c' i j h h (EqI xs ys j) (List.length xs) j (List.length xs) i (∀ (k : Unit), xs = ys → xs = ys) (∀ (v : Value) (h_1 : AHeap), Q1e v (eqb xs ys) h_1 h v (eqb xs ys) h_1 h))))))) (∃ (j : Unit), h = h ∧ xs = ys))) = _) ?_; delta Qd Qe Qf Qi Qv Qx Q11 Q19 Q1a Q1b Q1c Q1d Q1e)
    simp only [true_and, and_true]
    rintro (i : Nat) I
    have hl := I.len
    have hi := I.hi
    refine bs_d (fun hlt => ?_) (fun hge => ?_)
    · have hxi : i < xs.length := by omega
      have hyi : i < ys.length := by omega
      obtain ⟨l, r, row, ha, hin, hrd, hld⟩ := hx.elem (List.getElem?_eq_getElem hxi)
      obtain ⟨l', r', row', ha', hin', hrd', hld'⟩ := hy.elem (List.getElem?_eq_getElem hyi)
      obtain rfl : row = [.int .i64 xs[i]] := hrd
      obtain rfl : row' = [.int .i64 ys[i]] := hrd'
      refine ⟨l, r, ha, Int.natCast_nonneg _, hlt, l', r', ha', Int.natCast_nonneg _, by omega, _, hld, _, hld', bs_dn (fun hb => ?_) (fun hb => ?_)⟩
      · exact congrArg _ (eqb_false fun e => hb (by subst e; rfl))
      · exact ⟨i + 1, by rw [wrap_i64 (by omega)] <;> rfl, I.step hxi hyi hb, by omega, fun _ h => h, fun _ _ h => h⟩
    · have e : i = xs.length := by omega
      subst e
      exact ⟨(), I.all⟩
  · (refine vc_mp (by kernel_rfl : (Q1c (decide ((↑n : Int) = (↑n' : Int))) (eqb xs ys) h h (∃ (i : Nat), Q1f a n c a n c a' n' c' a' n' c' i h h (EqI xs ys i) (∀ (j : Unit), xs = ys → Q1g (eqb xs ys) h h) (∀ (v : Value) (h_1 : AHeap), Q1e v (eqb xs ys) h_1 h v (eqb xs ys) h_1 h))) = _) ?_; delta Qf Qn Q10 Q1c Q1e Q1f Q1g)
    refine bs_dn (fun hne => ⟨congrArg _ (eqb_false fun e => hne (by rw [← en, ← en', e])), rfl⟩) (fun he => ?_)
    exact ⟨(0 : Nat), rfl, rfl, rfl, rfl, ⟨by omega, Nat.zero_le _, rfl⟩, fun j e => ⟨congrArg _ (eqb_true e), rfl⟩, fun _ _ h => h⟩
def Q1h (a : Prop) := True ∧ True ∧ Qe ∧ (True ∧ a ∧ (True ∧ True ∧ True) ∧ (True ∧ True ∧ (True ∧ True) ∧ True) ∧ True) ∧ True ∧ True
def Q1i (a : Nat × Int) (b : Int) (c d : AHeap) (e : Prop) := Qf (Prod.snd a) = Qf b ∧ c = d ∧ e
def Q1j (a : List (Sh.T Sh.str)) (b : Int) (c : Nat) := szL (Sh.sz Sh.str) a (Qh b c)
def Q1k (a : Nat × Int) := (↑(Prod.fst a) : Int)
def Q1l (a : Prop) (b c : Nat × Int) (d : Nat) (e : Prop) := a ∧ 0 ≤ Q1k b ∧ Q1k c < (↑d : Int) ∧ e
def Q1m (a : Value) (b : Int) (c d : AHeap) (e : Value) (f : Int) (g h : AHeap) := a = Qf b ∧ c = d → e = Qf f ∧ g = h
def Q1n (a : Nat × Int) (b : Nat) (c d : Nat × Int) (e f : Int) := Prod.fst a ≤ b ∧ 0 ≤ Prod.snd c ∧ Prod.snd d ≤ 1048576 ∧ e = f
def Q1o (a : Nat × Int) (b : List (Sh.T Sh.str)) (c : Nat × Int) := szL (Sh.sz Sh.str) (List.drop (Prod.fst a) b) (Prod.snd c)
def Q1p (a : Int) (b : Nat × Int) := Qf (Qi a) = Qf (Prod.snd b)
def Q1q (a : Int) (b : ByteArray) := Qh a (ByteArray.size b)
def Q1r (a : ByteArray) := [Value.string a]
def Q1s (a b : Int) (c d : AHeap) := Qf a = Qf b ∧ c = d
theorem szStringS_spec (h : AHeap) (a : Option Addr) (n c : Nat) (xs : List Sh.str.T) (left : Int) (hx : Sl h Sh.str xs (.slice a n c)) (hl : 0 ≤ left ∧ left ≤ 1048576) (ok : (Sh.sl Sh.str).ok xs) :
    ACall Tryz.prog 31 [.slice a n c, .int .i64 left] h (.int .i64 ((Sh.sl Sh.str).sz xs left)) h := by
  have en := hx.len
  have ok1 : xs.length ≤ 9223372036854775807 := ok.1
  have key : (Sh.sl Sh.str).sz xs left = (if left - (xs.length : Int) < 0 then -1 else szL Sh.str.sz xs (left - (xs.length : Int))) := rfl
  rw [key, en]
  refine acall_out (acall_vc (fun _ => false) (fun _ => []) (fun _ => szLp Sh.str a n c h xs (szL Sh.str.sz xs (left - n))) mixed Tryz.func31 rfl rfl rfl (Nat.le_of_ble_eq_true rfl) ?_ ?_)
  · (refine vc_mp (by kernel_rfl : (Q1h (∀ (i : Nat × Int), Q1n i n i i (Q1o i xs i) (Q1j xs left n) → bs (decide (Q1k i < (↑n : Int))) (∃ (l r : Nat), Q1l (Qx a l r) i i n (∃ (x : ByteArray), Q1b h l r (Prod.fst i) 1 (Q1r x) (Qg (decide (Qi (Q1q (Prod.snd i) x) < 0)) (Q1j xs left n) h h (∃ (j : Nat × Int), Qv a n c a n c (Q1p (Q1q (Prod.snd i) x) j) (Q1k i) (Q1k j) h h (Q1n j n j j (Q1o j xs j) (Q1j xs left n)) n (Prod.fst j) n (Prod.fst i) (∀ (k : Int), k = Q1j xs left n → k = Q1j xs left n) (∀ (v : Value) (h_1 : AHeap), Q1m v (Q1j xs left n) h_1 h v (Q1j xs left n) h_1 h))))) (∃ (j : Int), Q1i i j h h (j = Q1j xs left n)))) = _) ?_; delta Qe Qf Qg Qh Qi Qv Qx Q11 Q1b Q1h Q1i Q1j Q1k Q1l Q1m Q1n Q1o Q1p Q1q Q1r)
    simp only [true_and, and_true]
    rintro ⟨i, x⟩ ⟨hi, h0, h1, he⟩
    dsimp only at *
    refine bs_d (fun hlt => ?_) (fun hge => ?_)
    · have hio : i < xs.length := by omega
      obtain ⟨l, r, row, ha, _, hrd, hld⟩ := hx.elem (List.getElem?_eq_getElem hio)
      have hoi : (xs[i] : ByteArray).size ≤ 9223372036854775807 := ok.2 xs[i] (List.getElem_mem hio)
      obtain rfl : row = [.string xs[i]] := hrd
      rw [List.drop_eq_getElem_cons hio] at he
      have he : (if Sh.str.sz xs[i] x < 0 then -1 else szL Sh.str.sz (xs.drop (i + 1)) (Sh.str.sz xs[i] x)) = szL Sh.str.sz xs (left - n) := he
      refine ⟨l, r, ha, Int.natCast_nonneg _, hlt, _, hld, ?_⟩
      rw [wrap_i64 (by omega)]
      refine bs_d (fun hneg => ?_) (fun hpos => ?_)
      · rw [sz_strn hneg, if_pos (by omega)] at he; exact congrArg _ he
      · rw [sz_str hpos, if_neg hpos] at he
        exact ⟨(i + 1, x - ((xs[i] : ByteArray).size : Int)), rfl, by rw [wrap_i64 (by omega)] <;> rfl, ⟨by dsimp only; omega, by dsimp only; omega, by dsimp only; omega, he⟩, by dsimp only; omega, fun _ h => h, fun _ _ h => h⟩
    · have e : i = xs.length := by omega
      subst e
      rw [List.drop_length] at he
      exact ⟨x, rfl, he⟩
  · (refine vc_mp (by kernel_rfl : (Qg (decide (Qi (Qh left n) < 0)) (ite (Qh left n < 0) (-1) (Q1j xs left n)) h h (∃ (i : Nat × Int), Q10 a n c a n c (Q1p (Qh left n) i) (Q1k i) h h (Q1n i n i i (Q1o i xs i) (Q1j xs left n)) (∀ (j : Int), j = Q1j xs left n → Q1s j (ite (Qh left n < 0) (-1) (Q1j xs left n)) h h) (∀ (v : Value) (h_1 : AHeap), Q1m v (Q1j xs left n) h_1 h v (ite (Qh left n < 0) (-1) (Q1j xs left n)) h_1 h))) = _) ?_; delta Qf Qg Qh Qi Qn Q10 Q1j Q1k Q1m Q1n Q1o Q1p Q1s)
    rw [wrap_i64 (by omega)]
    refine bs_d (fun e => ?_) (fun e => ?_)
    · rw [if_pos e]; exact ⟨rfl, rfl⟩
    · rw [if_neg e]
      exact ⟨(0, left - n), rfl, rfl, rfl, rfl, ⟨Nat.zero_le _, by dsimp only; omega, by dsimp only; omega, rfl⟩, fun j hj => ⟨by rw [hj], rfl⟩, fun _ _ h => h⟩
def Q1t (a : List Value) (b : Nat) (c : AHeap) (d : List (Sh.T Sh.str)) (e : Nat) (f g h : AHeap × List (List Value) × List (List Nat)) := ToI Sh.str a b c d e (Prod.fst f) (Ql g) (Qk h)
def Q1u := Value.string (ByteArray.mk (Array.mk List.nil))
def Q1v (a : List Value) (b : Nat) (c : AHeap) (d : List (Sh.T Sh.str)) (e f g h : Nat × AHeap × List (List Value) × List (List Nat)) := ToI Sh.str a b c d (Prod.fst e) (Qo f) (Ql (Prod.snd g)) (Qk (Prod.snd h))
theorem toStringS_spec (h : AHeap) (a : Option Addr) (n c : Nat) (xs : List (Sh.T Sh.str)) (hw : h.wf) (hx : Sl h Sh.str xs (.slice a n c)) (ok : (Sh.sl Sh.str).small xs) :
    ∃ v h', ACall Tryz.prog 38 [.slice a n c] h v h' ∧ h.Le h' ∧ h'.wf ∧ ∃ ids, v = .slice (some ⟨h.n, 0, some 1⟩) n (n + 1) ∧ So h' Sh.str xs (.slice (some ⟨h.n, 0, some 1⟩) n (n + 1)) ids ∧ Fresh h.n h'.n ids := by
  have en := hx.len
  have ok1 : xs.length ≤ 1048576 := ok.1
  refine acall_vc (fun _ => false) (fun _ => []) (fun _ => toL Sh.str [.string ⟨#[]⟩] a n c h xs) mixed Tryz.func38 rfl rfl rfl (Nat.le_of_ble_eq_true rfl) ?_ ?_
  · (refine vc_mp (by kernel_rfl : (Qj (∀ (i : Nat × AHeap × List (List Value) × List (List Nat)), Q1v [Q1u] n h xs i i i i → bs (decide (Qr i < (↑n : Int))) (∃ (l r : Nat), Qs (Qx a l r) i i n (∃ (x : ByteArray), Qt i l r i 1 (Q1r x) (∃ (l r : Nat), Qs (Qx (Qy h Sh.str) l r) i i n (∃ (h' : AHeap), Qu (Qo i) l r i (Q1r x) h' (∃ (j : Nat × AHeap × List (List Value) × List (List Nat)), Qv a n c a n c (Qq h Sh.str n n h Sh.str n n) (Qr i) (Qr j) (Qo j) h' (Q1v [Q1u] n h xs j j j j) n (Prod.fst j) n (Prod.fst i) (∀ (k : AHeap × List (List Value) × List (List Nat)), Q1t [Q1u] n h xs n k k k → Q1t [Q1u] n h xs n k k k) (∀ (v : Value) (h : AHeap), False → False)))))) (∃ (j : AHeap × List (List Value) × List (List Nat)), Qq h Sh.str n n h Sh.str n n ∧ Prod.fst j = Qo i ∧ Q1t [Q1u] n h xs n j j j))) = _) ?_; delta Qd Qf Qi Qj Qk Ql Qo Qp Qq Qr Qs Qt Qu Qv Qx Qy Q1r Q1t Q1u Q1v)
    simp only [true_and, and_true]
    rintro ⟨i, h1, rows, idss⟩ I
    dsimp only at *
    refine bs_d (fun hlt => ?_) (fun hge => ?_)
    · have hio : i < xs.length := by omega
      obtain ⟨l, r, row, ha, _, hrd, hld⟩ := (hx.mono I.le).elem (List.getElem?_eq_getElem hio)
      obtain rfl : row = [.string xs[i]] := hrd
      obtain ⟨h3, e3, I3⟩ := I.step (cs := [.string xs[i]]) (ids := []) (by omega) (List.getElem?_eq_getElem hio) (.refl _) I.wf ⟨rfl, rfl⟩ .nil
      refine ⟨l, r, ha, Int.natCast_nonneg _, hlt, _, hld, h.n, 0, rfl, Int.natCast_nonneg _, hlt, h3, e3, (i + 1, h3, _, _), by rw [wrap_i64 (by omega)] <;> rfl, rfl, I3, by dsimp only; omega, fun _ h => h, fun _ _ h => h⟩
    · have hi := I.hi
      have e : i = n := by omega
      subst e
      exact ⟨(h1, rows, idss), rfl, I⟩
  · (refine vc_mp (by kernel_rfl : (Qz n n n n 16 (∃ (i : Nat × AHeap × List (List Value) × List (List Nat)), Q12 a n c a n c (Q15 h (Q11 n) (Q11 n)) h Sh.str n n i i h n [Q1u] 1 (Q1v [Q1u] n h xs i i i i) (∀ (j : AHeap × List (List Value) × List (List Nat)), Q16 (Q1t [Q1u] n h xs n j j j) h j j (∃ (ids : List Nat), Q17 h Sh.str n n (Q15 h n n) (So (Prod.fst j) Sh.str xs (Q15 h n n) ids) h j ids)) (∀ (v : Value) (h_1 : AHeap), Q13 h h_1 h_1 (∃ (ids : List Nat), Q14 (v = Q15 h n n) (So h_1 Sh.str xs (Q15 h n n) ids) h h_1 ids)))) = _) ?_; delta Qf Qk Ql Qn Qo Qp Qr Qz Q10 Q11 Q12 Q13 Q14 Q15 Q16 Q17 Q1t Q1u Q1v)
    refine ⟨Int.natCast_nonneg _, Int.le_refl _, by omega, (0, _, _, _), rfl, rfl, rfl, rfl, ToI.start hw rfl, ?_, fun _ _ h => h.elim⟩
    rintro ⟨h1, rows, idss⟩ I
    obtain ⟨ids, h2, h3⟩ := ToI.finish I en (n + 1)
    exact ⟨I.le, I.wf, ids, rfl, h2, h3⟩
theorem eqStringS_spec (h : AHeap) (a : Option Addr) (n c : Nat) (a' : Option Addr) (n' c' : Nat) (xs ys : List (Sh.T Sh.str)) (hx : Sl h Sh.str xs (.slice a n c)) (hy : Sl h Sh.str ys (.slice a' n' c')) (hn : xs.length ≤ 9223372036854775807) :
    ACall Tryz.prog 43 [.slice a n c, .slice a' n' c'] h (.bool (eqb xs ys)) h := by
  have en := hx.len
  have en' := hy.len
  refine acall_out (acall_vc (fun _ => false) (fun _ => [(0, 0, []), (1, 0, []), (2, 0, []), (4, 0, []), (5, 0, []), (6, 0, []), (3, 1, []), (7, 1, []), (8, 0, [])]) (fun _ => eqLp h a n c a' n' c' xs ys) mixed Tryz.func43 rfl rfl rfl (Nat.le_of_ble_eq_true rfl) ?_ ?_)
  · (refine vc_mp (by kernel_rfl : (Q19 (∀ (i : Nat), EqI xs ys i → bs (decide ((↑i : Int) < (↑n : Int))) (∃ (l r : Nat), Q1a (Qx a l r) i i n (∃ (l_1 r_1 : Nat), Q1a (Qx a' l_1 r_1) i i n' (∃ (x : ByteArray), Q1b h l r i 1 (Q1r x) (∃ (x_1 : ByteArray), Q1b h l_1 r_1 i 1 (Q1r x_1) (Q1c (decide (x = x_1)) (eqb xs ys) h h (∃ (j : Nat), Q1d a n c a n c a' n' c' a' n' c' i j h h (EqI xs ys j) (List.length xs) j (List.length xs) i (∀ (k : Unit), xs = ys → xs = ys) (∀ (v : Value) (h_1 : AHeap), Q1e v (eqb xs ys) h_1 h v (eqb xs ys) h_1 h))))))) (∃ (j : Unit), h = h ∧ xs = ys))) = _) ?_; delta Qd Qe Qf Qi Qv Qx Q11 Q19 Q1a Q1b Q1c Q1d Q1e Q1r)
    simp only [true_and, and_true]
    rintro (i : Nat) I
    have hl := I.len
    have hi := I.hi
    refine bs_d (fun hlt => ?_) (fun hge => ?_)
    · have hxi : i < xs.length := by omega
      have hyi : i < ys.length := by omega
      obtain ⟨l, r, row, ha, hin, hrd, hld⟩ := hx.elem (List.getElem?_eq_getElem hxi)
      obtain ⟨l', r', row', ha', hin', hrd', hld'⟩ := hy.elem (List.getElem?_eq_getElem hyi)
      obtain rfl : row = [.string xs[i]] := hrd
      obtain rfl : row' = [.string ys[i]] := hrd'
      refine ⟨l, r, ha, Int.natCast_nonneg _, hlt, l', r', ha', Int.natCast_nonneg _, by omega, _, hld, _, hld', bs_dn (fun hb => ?_) (fun hb => ?_)⟩
      · exact congrArg _ (eqb_false fun e => hb (by subst e; rfl))
      · exact ⟨i + 1, by rw [wrap_i64 (by omega)] <;> rfl, I.step hxi hyi hb, by omega, fun _ h => h, fun _ _ h => h⟩
    · have e : i = xs.length := by omega
      subst e
      exact ⟨(), I.all⟩
  · (refine vc_mp (by kernel_rfl : (Q1c (decide ((↑n : Int) = (↑n' : Int))) (eqb xs ys) h h (∃ (i : Nat), Q1f a n c a n c a' n' c' a' n' c' i h h (EqI xs ys i) (∀ (j : Unit), xs = ys → Q1g (eqb xs ys) h h) (∀ (v : Value) (h_1 : AHeap), Q1e v (eqb xs ys) h_1 h v (eqb xs ys) h_1 h))) = _) ?_; delta Qf Qn Q10 Q1c Q1e Q1f Q1g)
    refine bs_dn (fun hne => ⟨congrArg _ (eqb_false fun e => hne (by rw [← en, ← en', e])), rfl⟩) (fun he => ?_)
    exact ⟨(0 : Nat), rfl, rfl, rfl, rfl, ⟨by omega, Nat.zero_le _, rfl⟩, fun j e => ⟨congrArg _ (eqb_true e), rfl⟩, fun _ _ h => h⟩
def Q1w (a : Prop) := True ∧ True ∧ Qe ∧ True ∧ a
def Q1x := Qe ∧ True ∧ True
def Q1y (a : FuncId) (b : Value) (c : Int) (d : AHeap) (e : Int) (f : AHeap) (g : Bool) (h : Int) (i j : AHeap) (k : Prop) := ACall Tryz.prog a [b, Qf c] d (Qf e) f ∧ Qg g h i j k
def Q1z (a : Option Addr) (b : List (Sh.T Sh.int)) (c : Nat) := Value.slice a (List.length b) c
theorem szProof_spec (h : AHeap) (x : proofSh.T) (left : Int) (v1 : Value) (h1 : Sl h Sh.int x.2.2.2 v1) (hl : 0 ≤ left ∧ left ≤ 1048576) (ok : proofSh.ok x) :
    ACall Tryz.prog 157 [.agg #[.int .i64 x.1, .int .i64 x.2.1, .string x.2.2.1, v1], .int .i64 left] h (.int .i64 (proofSh.sz x left)) h := by
  obtain ⟨x1, x2, x3, x4⟩ := x
  try dsimp only at *
  obtain ⟨a1, c1, rfl⟩ := h1.isSlice
  refine acall_out (acall_vc (fun _ => false) (fun _ => []) (fun _ => .none) mixed Tryz.func157 rfl rfl rfl (Nat.le_of_ble_eq_true rfl) (by (refine vc_mp (by kernel_rfl : (Q1w Q1x) = _) ?_; delta Qe Q1w Q1x); simp only [and_self]) ?_)
  (refine vc_mp (by kernel_rfl : (Qg (decide (Qi (Q1q left x3) < 0)) (Sh.sz proofSh (Prod.mk x1 (Prod.mk x2 (Prod.mk x3 x4))) left) h h (∃ (x : Int) (h' : AHeap), Q1y 168 (Q1z a1 x4 c1) (Qi (Q1q left x3)) h x h' (decide (x < 0)) (Sh.sz proofSh (Prod.mk x1 (Prod.mk x2 (Prod.mk x3 x4))) left) h' h (Q1s x (Sh.sz proofSh (Prod.mk x1 (Prod.mk x2 (Prod.mk x3 x4))) left) h' h))) = _) ?_; delta Qf Qg Qh Qi Q1q Q1s Q1y Q1z)
  have o1 : (x3 : ByteArray).size ≤ 9223372036854775807 := ok.2.2.1
  rw [wrap_i64 (by omega)]
  refine bs_d (fun e1 => by refine ⟨congrArg _ (Eq.symm ?_), rfl⟩; exact sz_step rfl hl.1 (sz_step rfl hl.1 (sz_stop (neg1 (sz_strn e1))))) (fun e1 => ?_)
  have b2 := (Sh.sl Sh.int).sz_le x4 (left - ((x3 : ByteArray).size : Int)) (by omega)
  refine ⟨_, _, szInt64S_spec h a1 _ c1 _ (left - ((x3 : ByteArray).size : Int)) h1 (by omega) ok.2.2.2, bs_d (fun e2 => by refine ⟨congrArg _ (Eq.symm ?_), rfl⟩; exact sz_step rfl hl.1 (sz_step rfl hl.1 (sz_step (sz_str e1) (Int.not_lt.1 e1) (sz_neg (Int.not_lt.1 e1) e2)))) (fun e2 => ?_)⟩
  refine ⟨congrArg _ (Eq.symm ?_), rfl⟩
  exact sz_step rfl hl.1 (sz_step rfl hl.1 (sz_step (sz_str e1) (Int.not_lt.1 e1) (rfl)))
def Q20 (a : List (Sh.T proofSh)) (b : Int) (c : Nat) := szL (Sh.sz proofSh) a (Qh b c)
def Q21 (a : Nat × Int) (b : List (Sh.T proofSh)) (c : Nat × Int) := szL (Sh.sz proofSh) (List.drop (Prod.fst a) b) (Prod.snd c)
def Q22 (a : List Value) := Value.agg (Array.mk a)
def Q23 (a b : Int) (c : ByteArray) (d : Option Addr) (e f : Nat) := [Qf a, Qf b, Value.string c, Value.slice d e f]
def Q24 := (4 : Nat)
def Q25 (a : Option Addr) (b c d : Nat) := a = some (Addr.mk b c (some d))
theorem szProofS_spec (h : AHeap) (a : Option Addr) (n c : Nat) (xs : List proofSh.T) (left : Int) (hx : Sl h proofSh xs (.slice a n c)) (hl : 0 ≤ left ∧ left ≤ 1048576) (ok : (Sh.sl proofSh).ok xs) :
    ACall Tryz.prog 130 [.slice a n c, .int .i64 left] h (.int .i64 ((Sh.sl proofSh).sz xs left)) h := by
  have en := hx.len
  have ok1 : xs.length ≤ 9223372036854775807 := ok.1
  have key : (Sh.sl proofSh).sz xs left = (if left - (xs.length : Int) < 0 then -1 else szL proofSh.sz xs (left - (xs.length : Int))) := rfl
  rw [key, en]
  refine acall_out (acall_vc (fun _ => false) (fun _ => []) (fun _ => szLp proofSh a n c h xs (szL proofSh.sz xs (left - n))) mixed Tryz.func130 rfl rfl rfl (Nat.le_of_ble_eq_true rfl) ?_ ?_)
  · (refine vc_mp (by kernel_rfl : (Q1h (∀ (i : Nat × Int), Q1n i n i i (Q21 i xs i) (Q20 xs left n) → bs (decide (Q1k i < (↑n : Int))) (∃ (l r : Nat), Q1l (Q25 a l r Q24) i i n (∃ (x x_1 : Int) (x_2 : ByteArray) (a_2 : Option Addr) (n_1 c_1 : Nat), Q1b h l r (Prod.fst i) Q24 (Q23 x x_1 x_2 a_2 n_1 c_1) (∃ (x_3 : Int) (h' : AHeap), ACall Tryz.prog 157 [Q22 (Q23 x x_1 x_2 a_2 n_1 c_1), Qf (Prod.snd i)] h (Qf x_3) h' ∧ Qg (decide (x_3 < 0)) (Q20 xs left n) h' h (∃ (j : Nat × Int), Qv a n c a n c (Qf x_3 = Qf (Prod.snd j)) (Q1k i) (Q1k j) h h' (Q1n j n j j (Q21 j xs j) (Q20 xs left n)) n (Prod.fst j) n (Prod.fst i) (∀ (k : Int), k = Q20 xs left n → k = Q20 xs left n) (∀ (v : Value) (h_1 : AHeap), Q1m v (Q20 xs left n) h_1 h v (Q20 xs left n) h_1 h))))) (∃ (j : Int), Q1i i j h h (j = Q20 xs left n)))) = _) ?_; delta Qe Qf Qg Qh Qi Qv Q11 Q1b Q1h Q1i Q1k Q1l Q1m Q1n Q20 Q21 Q22 Q23 Q24 Q25)
    simp only [true_and, and_true]
    rintro ⟨i, x⟩ ⟨hi, h0, h1, he⟩
    dsimp only at *
    refine bs_d (fun hlt => ?_) (fun hge => ?_)
    · have hio : i < xs.length := by omega
      obtain ⟨l, r, row, ha, _, hrd, hld⟩ := hx.elem (List.getElem?_eq_getElem hio)
      have hoi := ok.2 xs[i] (List.getElem_mem hio)
      obtain ⟨v1, rfl, k1⟩ := rd_proof.1 hrd
      rw [List.drop_eq_getElem_cons hio] at he
      have he : (if proofSh.sz xs[i] x < 0 then -1 else szL proofSh.sz (xs.drop (i + 1)) (proofSh.sz xs[i] x)) = szL proofSh.sz xs (left - n) := he
      have b1 := proofSh.sz_le xs[i] x h0
      obtain ⟨a1, c1, rfl⟩ := k1.isSlice
      refine ⟨l, r, ha, Int.natCast_nonneg _, hlt, _, _, _, _, _, _, hld, proofSh.sz xs[i] x, h, szProof_spec h xs[i] x _ k1 ⟨h0, h1⟩ hoi, bs_d (fun hneg => ?_) (fun hpos => ?_)⟩
      · rw [if_pos hneg] at he; rw [← he]; exact ⟨rfl, rfl⟩
      · rw [if_neg hpos] at he
        exact ⟨(i + 1, proofSh.sz xs[i] x), rfl, by rw [wrap_i64 (by omega)] <;> rfl, rfl, ⟨by dsimp only; omega, by dsimp only; omega, by dsimp only; omega, he⟩, by dsimp only; omega, fun _ h => h, fun _ _ h => h⟩
    · have e : i = xs.length := by omega
      subst e
      rw [List.drop_length] at he
      exact ⟨x, rfl, he⟩
  · (refine vc_mp (by kernel_rfl : (Qg (decide (Qi (Qh left n) < 0)) (ite (Qh left n < 0) (-1) (Q20 xs left n)) h h (∃ (i : Nat × Int), Q10 a n c a n c (Q1p (Qh left n) i) (Q1k i) h h (Q1n i n i i (Q21 i xs i) (Q20 xs left n)) (∀ (j : Int), j = Q20 xs left n → Q1s j (ite (Qh left n < 0) (-1) (Q20 xs left n)) h h) (∀ (v : Value) (h_1 : AHeap), Q1m v (Q20 xs left n) h_1 h v (ite (Qh left n < 0) (-1) (Q20 xs left n)) h_1 h))) = _) ?_; delta Qf Qg Qh Qi Qn Q10 Q1k Q1m Q1n Q1p Q1s Q20 Q21)
    rw [wrap_i64 (by omega)]
    refine bs_d (fun e => ?_) (fun e => ?_)
    · rw [if_pos e]; exact ⟨rfl, rfl⟩
    · rw [if_neg e]
      exact ⟨(0, left - n), rfl, rfl, rfl, rfl, ⟨Nat.zero_le _, by dsimp only; omega, by dsimp only; omega, rfl⟩, fun j hj => ⟨by rw [hj], rfl⟩, fun _ _ h => h⟩
def Q26 (a : Prop) := True ∧ True ∧ True ∧ True ∧ a
def Q27 (a : FuncId) (b : List Value) (c : AHeap) (d : Option Addr) (e f : Nat) (g : AHeap) (h : Prop) := ACall Tryz.prog a b c (Value.slice d e f) g ∧ h
theorem toProof_spec (h : AHeap) (x : proofSh.T) (v1 : Value) (h1 : Sl h Sh.int x.2.2.2 v1) (hw : h.wf) (ok : proofSh.small x) :
    ∃ v h', ACall Tryz.prog 158 [.agg #[.int .i64 x.1, .int .i64 x.2.1, .string x.2.2.1, v1]] h v h' ∧ h.Le h' ∧ h'.wf ∧ ∃ w1 ids, v = .agg #[.int .i64 x.1, .int .i64 x.2.1, .string x.2.2.1, w1] ∧ proofSh.ro h' x [.int .i64 x.1, .int .i64 x.2.1, .string x.2.2.1, w1] ids ∧ Fresh h.n h'.n ids := by
  obtain ⟨x1, x2, x3, x4⟩ := x
  try dsimp only at *
  obtain ⟨a1, c1, rfl⟩ := h1.isSlice
  refine acall_q fun Q HQ => ?_
  refine acall_vc (fun _ => false) (fun _ => []) (fun _ => .none) mixed Tryz.func158 rfl rfl rfl (Nat.le_of_ble_eq_true rfl) (by (refine vc_mp (by kernel_rfl : (Q26 (True ∧ True ∧ True ∧ True)) = _) ?_; delta Q26); simp only [and_self]) ?_
  (refine vc_mp (by kernel_rfl : (∃ (a : Option Addr) (n c : Nat) (h' : AHeap), Q27 169 [Q1z a1 x4 c1] h a n c h' (Q (Q22 (Q23 x1 x2 x3 a n c)) h')) = _) ?_; delta Qf Q1z Q22 Q23 Q27)
  obtain ⟨u1, g1, A1, l1, W1, ids1, rfl, r1, f1⟩ := toInt64S_spec h a1 _ c1 _ hw h1 ok.2.2.2
  have L1 : h.Le g1 := l1
  refine ⟨_, _, _, _, A1, HQ _ _ ⟨L1, W1, _, [] ++ ([] ++ ([] ++ (ids1))), rfl, ?_, ?_⟩⟩
  · exact ⟨[_], _, [], _, rfl, rfl, ⟨rfl, rfl⟩, [_], _, [], _, rfl, rfl, ⟨rfl, rfl⟩, [_], _, [], _, rfl, rfl, ⟨rfl, rfl⟩, ro_sl.2 ⟨_, rfl, r1⟩⟩
  · exact (show Fresh h.n g1.n (ids1) from f1)
def Q28 := Value.slice none 0 0
def Q29 (a : Nat) (b : AHeap) (c : List (Sh.T proofSh)) (d : Nat) (e f g : AHeap × List (List Value) × List (List Nat)) := ToI proofSh [Qn, Qn, Q1u, Q28] a b c d (Prod.fst e) (Ql f) (Qk g)
def Q2a (a : Nat) (b : AHeap) (c : List (Sh.T proofSh)) (d e f g : Nat × AHeap × List (List Value) × List (List Nat)) := ToI proofSh [Qn, Qn, Q1u, Q28] a b c (Prod.fst d) (Qo e) (Ql (Prod.snd f)) (Qk (Prod.snd g))
def Q2b (a : AHeap) (b c : Nat) := Qp a (some Q24) b c
theorem toProofS_spec (h : AHeap) (a : Option Addr) (n c : Nat) (xs : List proofSh.T) (hw : h.wf) (hx : Sl h proofSh xs (.slice a n c)) (ok : (Sh.sl proofSh).small xs) :
    ∃ v h', ACall Tryz.prog 132 [.slice a n c] h v h' ∧ h.Le h' ∧ h'.wf ∧ ∃ ids, v = .slice (some ⟨h.n, 0, some 4⟩) n (n + 1) ∧ So h' proofSh xs (.slice (some ⟨h.n, 0, some 4⟩) n (n + 1)) ids ∧ Fresh h.n h'.n ids := by
  have en := hx.len
  have ok1 : xs.length ≤ 1048576 := ok.1
  refine acall_vc (fun _ => false) (fun _ => []) (fun _ => toL proofSh [.int .i64 0, .int .i64 0, .string ⟨#[]⟩, .slice none 0 0] a n c h xs) mixed Tryz.func132 rfl rfl rfl (Nat.le_of_ble_eq_true rfl) ?_ ?_
  · (refine vc_mp (by kernel_rfl : (Qj (∀ (i : Nat × AHeap × List (List Value) × List (List Nat)), Q2a n h xs i i i i → bs (decide (Qr i < (↑n : Int))) (∃ (l r : Nat), Qs (Q25 a l r Q24) i i n (∃ (x x_1 : Int) (x_2 : ByteArray) (a_2 : Option Addr) (n_1 c_1 : Nat), Qt i l r i Q24 (Q23 x x_1 x_2 a_2 n_1 c_1) (∃ (x_3 x_4 : Int) (x_5 : ByteArray) (a_3 : Option Addr) (n_2 c_2 : Nat) (h' : AHeap), ACall Tryz.prog 158 [Q22 (Q23 x x_1 x_2 a_2 n_1 c_1)] (Qo i) (Q22 (Q23 x_3 x_4 x_5 a_3 n_2 c_2)) h' ∧ (∃ (l r : Nat), Qs (Q25 (Qy h proofSh) l r Q24) i i n (∃ (h'_1 : AHeap), Qu h' l r i (Q23 x_3 x_4 x_5 a_3 n_2 c_2) h'_1 (∃ (j : Nat × AHeap × List (List Value) × List (List Nat)), Qv a n c a n c (Qq h proofSh n n h proofSh n n) (Qr i) (Qr j) (Qo j) h'_1 (Q2a n h xs j j j j) n (Prod.fst j) n (Prod.fst i) (∀ (k : AHeap × List (List Value) × List (List Nat)), Q29 n h xs n k k k → Q29 n h xs n k k k) (∀ (v : Value) (h : AHeap), False → False))))))) (∃ (j : AHeap × List (List Value) × List (List Nat)), Qq h proofSh n n h proofSh n n ∧ Prod.fst j = Qo i ∧ Q29 n h xs n j j j))) = _) ?_; delta Qd Qf Qi Qj Qk Ql Qn Qo Qp Qq Qr Qs Qt Qu Qv Qy Q1u Q22 Q23 Q24 Q25 Q28 Q29 Q2a)
    simp only [true_and, and_true]
    rintro ⟨i, h1, rows, idss⟩ I
    dsimp only at *
    refine bs_d (fun hlt => ?_) (fun hge => ?_)
    · have hio : i < xs.length := by omega
      obtain ⟨l, r, row, ha, _, hrd, hld⟩ := (hx.mono I.le).elem (List.getElem?_eq_getElem hio)
      obtain ⟨v1, rfl, k1⟩ := rd_proof.1 hrd
      obtain ⟨a1, c1, rfl⟩ := k1.isSlice
      obtain ⟨v, h2, hA, hle, hw2, w1, ids, rfl, hro, hf⟩ := toProof_spec h1 xs[i] _ k1 I.wf (ok.2 _ (List.getElem_mem hio))
      obtain ⟨z1, ez, q1⟩ := rd_proof.1 hro.rd
      cases ez
      obtain ⟨b1, d1, rfl⟩ := q1.isSlice
      obtain ⟨h3, e3, I3⟩ := I.step (by omega) (List.getElem?_eq_getElem hio) hle hw2 hro hf
      refine ⟨l, r, ha, Int.natCast_nonneg _, hlt, _, _, _, _, _, _, hld, _, _, _, _, _, _, _, hA, h.n, 0, rfl, Int.natCast_nonneg _, hlt, h3, e3, (i + 1, h3, _, _), by rw [wrap_i64 (by omega)] <;> rfl, rfl, I3, by dsimp only; omega, fun _ h => h, fun _ _ h => h⟩
    · have hi := I.hi
      have e : i = n := by omega
      subst e
      exact ⟨(h1, rows, idss), rfl, I⟩
  · (refine vc_mp (by kernel_rfl : (Qz n n n n 56 (∃ (i : Nat × AHeap × List (List Value) × List (List Nat)), Q12 a n c a n c (Q2b h (Q11 n) (Q11 n)) h proofSh n n i i h n [Q18, Q18, Q1u, Q28] Q24 (Q2a n h xs i i i i) (∀ (j : AHeap × List (List Value) × List (List Nat)), Q16 (Q29 n h xs n j j j) h j j (∃ (ids : List Nat), Q17 h proofSh n n (Q2b h n n) (So (Prod.fst j) proofSh xs (Q2b h n n) ids) h j ids)) (∀ (v : Value) (h_1 : AHeap), Q13 h h_1 h_1 (∃ (ids : List Nat), Q14 (v = Q2b h n n) (So h_1 proofSh xs (Q2b h n n) ids) h h_1 ids)))) = _) ?_; delta Qf Qk Ql Qn Qo Qp Qr Qz Q10 Q11 Q12 Q13 Q14 Q16 Q17 Q18 Q1u Q24 Q28 Q29 Q2a Q2b)
    refine ⟨Int.natCast_nonneg _, Int.le_refl _, by omega, (0, _, _, _), rfl, rfl, rfl, rfl, ToI.start hw rfl, ?_, fun _ _ h => h.elim⟩
    rintro ⟨h1, rows, idss⟩ I
    obtain ⟨ids, h2, h3⟩ := ToI.finish I en (n + 1)
    exact ⟨I.le, I.wf, ids, rfl, h2, h3⟩
def Q2c (a : Prop) := True ∧ Qe ∧ Qe ∧ Qe ∧ a
def Q2d (a : FuncId) (b c : Value) (d : AHeap) (e : Bool) (f : AHeap) (g h : Bool) (i j : AHeap) (k : Prop) := ACall Tryz.prog a [b, c] d (Value.bool e) f ∧ Q1c g h i j k
def Q2e (a b : Sh.T Sh.int) (c : Sh.T Sh.str) (d : Sh.T (Sh.sl Sh.int)) := Prod.mk a (Prod.mk b (Prod.mk c d))
theorem eqProof_spec (h : AHeap) (x y : proofSh.T) (v1 : Value) (h1 : Sl h Sh.int x.2.2.2 v1) (w1 : Value) (j1 : Sl h Sh.int y.2.2.2 w1) (ok : proofSh.ok x) :
    ACall Tryz.prog 161 [.agg #[.int .i64 x.1, .int .i64 x.2.1, .string x.2.2.1, v1], .agg #[.int .i64 y.1, .int .i64 y.2.1, .string y.2.2.1, w1]] h (.bool (eqb x y)) h := by
  obtain ⟨x1, x2, x3, x4⟩ := x
  obtain ⟨y1, y2, y3, y4⟩ := y
  try dsimp only at *
  obtain ⟨a1, c1, rfl⟩ := h1.isSlice
  obtain ⟨ab1, cb1, rfl⟩ := j1.isSlice
  refine acall_out (acall_vc (fun _ => false) (fun _ => []) (fun _ => .none) mixed Tryz.func161 rfl rfl rfl (Nat.le_of_ble_eq_true rfl) (by (refine vc_mp (by kernel_rfl : (Q2c Q1x) = _) ?_; delta Qe Q1x Q2c); simp only [and_self]) ?_)
  (refine vc_mp (by kernel_rfl : (Q1c (decide (x1 = y1)) (eqb (Q2e x1 x2 x3 x4) (Q2e y1 y2 y3 y4)) h h (Q1c (decide (x2 = y2)) (eqb (Q2e x1 x2 x3 x4) (Q2e y1 y2 y3 y4)) h h (Q1c (decide (x3 = y3)) (eqb (Q2e x1 x2 x3 x4) (Q2e y1 y2 y3 y4)) h h (∃ (x : Bool) (h' : AHeap), Q2d 170 (Q1z a1 x4 c1) (Q1z ab1 y4 cb1) h x h' x (eqb (Q2e x1 x2 x3 x4) (Q2e y1 y2 y3 y4)) h' h (Q1g (eqb (Q2e x1 x2 x3 x4) (Q2e y1 y2 y3 y4)) h' h))))) = _) ?_; delta Q1c Q1g Q1z Q2d Q2e)
  refine bs_dn (fun e => ⟨congrArg _ (eqb_false fun e' => e (by cases e'; rfl)), rfl⟩) (fun e1 => ?_)
  refine bs_dn (fun e => ⟨congrArg _ (eqb_false fun e' => e (by cases e'; rfl)), rfl⟩) (fun e2 => ?_)
  refine bs_dn (fun e => ⟨congrArg _ (eqb_false fun e' => e (by cases e'; rfl)), rfl⟩) (fun e3 => ?_)
  refine ⟨_, _, eqInt64S_spec h a1 _ c1 ab1 _ cb1 _ _ h1 j1 ok.2.2.2.1, bs_nb (fun e => ⟨congrArg _ (eqb_false fun e' => of_eqb_false e (by cases e'; rfl)), rfl⟩) (fun e4 => ?_)⟩
  exact ⟨congrArg _ (eqb_true (Prod.ext e1 (Prod.ext e2 (Prod.ext e3 (of_eqb e4))))), rfl⟩
theorem eqProofS_spec (h : AHeap) (a : Option Addr) (n c : Nat) (a' : Option Addr) (n' c' : Nat) (xs ys : List proofSh.T) (hx : Sl h proofSh xs (.slice a n c)) (hy : Sl h proofSh ys (.slice a' n' c')) (ok : (Sh.sl proofSh).ok xs) :
    ACall Tryz.prog 140 [.slice a n c, .slice a' n' c'] h (.bool (eqb xs ys)) h := by
  have en := hx.len
  have en' := hy.len
  have hn : xs.length ≤ 9223372036854775807 := ok.1
  refine acall_out (acall_vc (fun _ => false) (fun _ => [(0, 0, []), (1, 0, []), (2, 0, []), (4, 0, []), (5, 0, []), (6, 0, []), (3, 1, []), (7, 1, []), (8, 3, []), (9, 0, [])]) (fun _ => eqLp h a n c a' n' c' xs ys) mixed Tryz.func140 rfl rfl rfl (Nat.le_of_ble_eq_true rfl) ?_ ?_)
  · (refine vc_mp (by kernel_rfl : (Q19 (∀ (i : Nat), EqI xs ys i → bs (decide ((↑i : Int) < (↑n : Int))) (∃ (l r : Nat), Q1a (Q25 a l r Q24) i i n (∃ (l_1 r_1 : Nat), Q1a (Q25 a' l_1 r_1 Q24) i i n' (∃ (x x_1 : Int) (x_2 : ByteArray) (a_2 : Option Addr) (n_1 c_1 : Nat), Q1b h l r i Q24 (Q23 x x_1 x_2 a_2 n_1 c_1) (∃ (x_3 x_4 : Int) (x_5 : ByteArray) (a_3 : Option Addr) (n_2 c_2 : Nat), Q1b h l_1 r_1 i Q24 (Q23 x_3 x_4 x_5 a_3 n_2 c_2) (∃ (x_6 : Bool) (h' : AHeap), Q2d 161 (Q22 (Q23 x x_1 x_2 a_2 n_1 c_1)) (Q22 (Q23 x_3 x_4 x_5 a_3 n_2 c_2)) h x_6 h' x_6 (eqb xs ys) h' h (∃ (j : Nat), Q1d a n c a n c a' n' c' a' n' c' i j h h' (EqI xs ys j) (List.length xs) j (List.length xs) i (∀ (k : Unit), xs = ys → xs = ys) (∀ (v : Value) (h_1 : AHeap), Q1e v (eqb xs ys) h_1 h v (eqb xs ys) h_1 h))))))) (∃ (j : Unit), h = h ∧ xs = ys))) = _) ?_; delta Qd Qe Qf Qi Qv Q11 Q19 Q1a Q1b Q1c Q1d Q1e Q22 Q23 Q24 Q25 Q2d)
    simp only [true_and, and_true]
    rintro (i : Nat) I
    have hl := I.len
    have hi := I.hi
    refine bs_d (fun hlt => ?_) (fun hge => ?_)
    · have hxi : i < xs.length := by omega
      have hyi : i < ys.length := by omega
      obtain ⟨l, r, row, ha, hin, hrd, hld⟩ := hx.elem (List.getElem?_eq_getElem hxi)
      obtain ⟨l', r', row', ha', hin', hrd', hld'⟩ := hy.elem (List.getElem?_eq_getElem hyi)
      obtain ⟨v1, rfl, k1⟩ := rd_proof.1 hrd
      obtain ⟨w1, rfl, kk1⟩ := rd_proof.1 hrd'
      obtain ⟨a1, c1, rfl⟩ := k1.isSlice
      obtain ⟨b1, d1, rfl⟩ := kk1.isSlice
      refine ⟨l, r, ha, Int.natCast_nonneg _, hlt, l', r', ha', Int.natCast_nonneg _, by omega, _, _, _, _, _, _, hld, _, _, _, _, _, _, hld', _, _, eqProof_spec h xs[i] ys[i] _ k1 _ kk1 (ok.2 _ (List.getElem_mem hxi)), bs_nb (fun hb => ?_) (fun hb => ?_)⟩
      · exact ⟨congrArg _ (eqb_false fun e => of_eqb_false hb (by subst e; rfl)), rfl⟩
      · exact ⟨i + 1, by rw [wrap_i64 (by omega)] <;> rfl, rfl, I.step hxi hyi (of_eqb hb), by omega, fun _ h => h, fun _ _ h => h⟩
    · have e : i = xs.length := by omega
      subst e
      exact ⟨(), I.all⟩
  · (refine vc_mp (by kernel_rfl : (Q1c (decide ((↑n : Int) = (↑n' : Int))) (eqb xs ys) h h (∃ (i : Nat), Q1f a n c a n c a' n' c' a' n' c' i h h (EqI xs ys i) (∀ (j : Unit), xs = ys → Q1g (eqb xs ys) h h) (∀ (v : Value) (h_1 : AHeap), Q1e v (eqb xs ys) h_1 h v (eqb xs ys) h_1 h))) = _) ?_; delta Qf Qn Q10 Q1c Q1e Q1f Q1g)
    refine bs_dn (fun hne => ⟨congrArg _ (eqb_false fun e => hne (by rw [← en, ← en', e])), rfl⟩) (fun he => ?_)
    exact ⟨(0 : Nat), rfl, rfl, rfl, rfl, ⟨by omega, Nat.zero_le _, rfl⟩, fun j e => ⟨congrArg _ (eqb_true e), rfl⟩, fun _ _ h => h⟩
def Q2f := changeSh
def Q2g (a : Option Addr) (b : List (Sh.T proofSh)) (c : Nat) := Value.slice a (List.length b) c
theorem szChange_spec (h : AHeap) (x : changeSh.T) (left : Int) (v1 : Value) (h1 : Sl h proofSh x.2.2 v1) (hl : 0 ≤ left ∧ left ≤ 1048576) (ok : changeSh.ok x) :
    ACall Tryz.prog 75 [.agg #[.int .i64 x.1, .int .i64 x.2.1, v1], .int .i64 left] h (.int .i64 (changeSh.sz x left)) h := by
  obtain ⟨x1, x2, x3⟩ := x
  try dsimp only at *
  obtain ⟨a1, c1, rfl⟩ := h1.isSlice
  refine acall_out (acall_vc (fun _ => false) (fun _ => []) (fun _ => .none) mixed Tryz.func75 rfl rfl rfl (Nat.le_of_ble_eq_true rfl) (by (refine vc_mp (by kernel_rfl : (Qd True Qe) = _) ?_; delta Qd Qe); simp only [and_self]) ?_)
  (refine vc_mp (by kernel_rfl : (∃ (x : Int) (h' : AHeap), Q1y 130 (Q2g a1 x3 c1) left h x h' (decide (x < 0)) (Sh.sz Q2f (Prod.mk x1 (Prod.mk x2 x3)) left) h' h (Q1s x (Sh.sz Q2f (Prod.mk x1 (Prod.mk x2 x3)) left) h' h)) = _) ?_; delta Qf Qg Q1s Q1y Q2f Q2g)
  have b1 := (Sh.sl proofSh).sz_le x3 left (by omega)
  refine ⟨_, _, szProofS_spec h a1 _ c1 _ left h1 (by omega) ok.2.2, bs_d (fun e1 => by refine ⟨congrArg _ (Eq.symm ?_), rfl⟩; exact sz_step rfl hl.1 (sz_step rfl hl.1 (sz_neg hl.1 e1))) (fun e1 => ?_)⟩
  refine ⟨congrArg _ (Eq.symm ?_), rfl⟩
  exact sz_step rfl hl.1 (sz_step rfl hl.1 (rfl))
def Q2h (a : List (Sh.T changeSh)) (b : Int) (c : Nat) := szL (Sh.sz Q2f) a (Qh b c)
def Q2i (a : Nat × Int) (b : List (Sh.T changeSh)) (c : Nat × Int) := szL (Sh.sz Q2f) (List.drop (Prod.fst a) b) (Prod.snd c)
def Q2j (a b : Int) (c : Option Addr) (d e : Nat) := [Qf a, Qf b, Value.slice c d e]
def Q2k := (3 : Nat)
theorem szChangeS_spec (h : AHeap) (a : Option Addr) (n c : Nat) (xs : List changeSh.T) (left : Int) (hx : Sl h changeSh xs (.slice a n c)) (hl : 0 ≤ left ∧ left ≤ 1048576) (ok : (Sh.sl changeSh).ok xs) :
    ACall Tryz.prog 30 [.slice a n c, .int .i64 left] h (.int .i64 ((Sh.sl changeSh).sz xs left)) h := by
  have en := hx.len
  have ok1 : xs.length ≤ 9223372036854775807 := ok.1
  have key : (Sh.sl changeSh).sz xs left = (if left - (xs.length : Int) < 0 then -1 else szL changeSh.sz xs (left - (xs.length : Int))) := rfl
  rw [key, en]
  refine acall_out (acall_vc (fun _ => false) (fun _ => []) (fun _ => szLp changeSh a n c h xs (szL changeSh.sz xs (left - n))) mixed Tryz.func30 rfl rfl rfl (Nat.le_of_ble_eq_true rfl) ?_ ?_)
  · (refine vc_mp (by kernel_rfl : (Q1h (∀ (i : Nat × Int), Q1n i n i i (Q2i i xs i) (Q2h xs left n) → bs (decide (Q1k i < (↑n : Int))) (∃ (l r : Nat), Q1l (Q25 a l r Q2k) i i n (∃ (x x_1 : Int) (a_2 : Option Addr) (n_1 c_1 : Nat), Q1b h l r (Prod.fst i) Q2k (Q2j x x_1 a_2 n_1 c_1) (∃ (x_2 : Int) (h' : AHeap), ACall Tryz.prog 75 [Q22 (Q2j x x_1 a_2 n_1 c_1), Qf (Prod.snd i)] h (Qf x_2) h' ∧ Qg (decide (x_2 < 0)) (Q2h xs left n) h' h (∃ (j : Nat × Int), Qv a n c a n c (Qf x_2 = Qf (Prod.snd j)) (Q1k i) (Q1k j) h h' (Q1n j n j j (Q2i j xs j) (Q2h xs left n)) n (Prod.fst j) n (Prod.fst i) (∀ (k : Int), k = Q2h xs left n → k = Q2h xs left n) (∀ (v : Value) (h_1 : AHeap), Q1m v (Q2h xs left n) h_1 h v (Q2h xs left n) h_1 h))))) (∃ (j : Int), Q1i i j h h (j = Q2h xs left n)))) = _) ?_; delta Qe Qf Qg Qh Qi Qv Q11 Q1b Q1h Q1i Q1k Q1l Q1m Q1n Q22 Q25 Q2f Q2h Q2i Q2j Q2k)
    simp only [true_and, and_true]
    rintro ⟨i, x⟩ ⟨hi, h0, h1, he⟩
    dsimp only at *
    refine bs_d (fun hlt => ?_) (fun hge => ?_)
    · have hio : i < xs.length := by omega
      obtain ⟨l, r, row, ha, _, hrd, hld⟩ := hx.elem (List.getElem?_eq_getElem hio)
      have hoi := ok.2 xs[i] (List.getElem_mem hio)
      obtain ⟨v1, rfl, k1⟩ := rd_change.1 hrd
      rw [List.drop_eq_getElem_cons hio] at he
      have he : (if changeSh.sz xs[i] x < 0 then -1 else szL changeSh.sz (xs.drop (i + 1)) (changeSh.sz xs[i] x)) = szL changeSh.sz xs (left - n) := he
      have b1 := changeSh.sz_le xs[i] x h0
      obtain ⟨a1, c1, rfl⟩ := k1.isSlice
      refine ⟨l, r, ha, Int.natCast_nonneg _, hlt, _, _, _, _, _, hld, changeSh.sz xs[i] x, h, szChange_spec h xs[i] x _ k1 ⟨h0, h1⟩ hoi, bs_d (fun hneg => ?_) (fun hpos => ?_)⟩
      · rw [if_pos hneg] at he; rw [← he]; exact ⟨rfl, rfl⟩
      · rw [if_neg hpos] at he
        exact ⟨(i + 1, changeSh.sz xs[i] x), rfl, by rw [wrap_i64 (by omega)] <;> rfl, rfl, ⟨by dsimp only; omega, by dsimp only; omega, by dsimp only; omega, he⟩, by dsimp only; omega, fun _ h => h, fun _ _ h => h⟩
    · have e : i = xs.length := by omega
      subst e
      rw [List.drop_length] at he
      exact ⟨x, rfl, he⟩
  · (refine vc_mp (by kernel_rfl : (Qg (decide (Qi (Qh left n) < 0)) (ite (Qh left n < 0) (-1) (Q2h xs left n)) h h (∃ (i : Nat × Int), Q10 a n c a n c (Q1p (Qh left n) i) (Q1k i) h h (Q1n i n i i (Q2i i xs i) (Q2h xs left n)) (∀ (j : Int), j = Q2h xs left n → Q1s j (ite (Qh left n < 0) (-1) (Q2h xs left n)) h h) (∀ (v : Value) (h_1 : AHeap), Q1m v (Q2h xs left n) h_1 h v (ite (Qh left n < 0) (-1) (Q2h xs left n)) h_1 h))) = _) ?_; delta Qf Qg Qh Qi Qn Q10 Q1k Q1m Q1n Q1p Q1s Q2f Q2h Q2i)
    rw [wrap_i64 (by omega)]
    refine bs_d (fun e => ?_) (fun e => ?_)
    · rw [if_pos e]; exact ⟨rfl, rfl⟩
    · rw [if_neg e]
      exact ⟨(0, left - n), rfl, rfl, rfl, rfl, ⟨Nat.zero_le _, by dsimp only; omega, by dsimp only; omega, rfl⟩, fun j hj => ⟨by rw [hj], rfl⟩, fun _ _ h => h⟩
theorem toChange_spec (h : AHeap) (x : changeSh.T) (v1 : Value) (h1 : Sl h proofSh x.2.2 v1) (hw : h.wf) (ok : changeSh.small x) :
    ∃ v h', ACall Tryz.prog 85 [.agg #[.int .i64 x.1, .int .i64 x.2.1, v1]] h v h' ∧ h.Le h' ∧ h'.wf ∧ ∃ w1 ids, v = .agg #[.int .i64 x.1, .int .i64 x.2.1, w1] ∧ changeSh.ro h' x [.int .i64 x.1, .int .i64 x.2.1, w1] ids ∧ Fresh h.n h'.n ids := by
  obtain ⟨x1, x2, x3⟩ := x
  try dsimp only at *
  obtain ⟨a1, c1, rfl⟩ := h1.isSlice
  refine acall_q fun Q HQ => ?_
  refine acall_vc (fun _ => false) (fun _ => []) (fun _ => .none) mixed Tryz.func85 rfl rfl rfl (Nat.le_of_ble_eq_true rfl) (by (refine vc_mp (by kernel_rfl : (Q26 (True ∧ True ∧ True)) = _) ?_; delta Q26); simp only [and_self]) ?_
  (refine vc_mp (by kernel_rfl : (∃ (a : Option Addr) (n c : Nat) (h' : AHeap), Q27 132 [Q2g a1 x3 c1] h a n c h' (Q (Q22 (Q2j x1 x2 a n c)) h')) = _) ?_; delta Qf Q22 Q27 Q2g Q2j)
  obtain ⟨u1, g1, A1, l1, W1, ids1, rfl, r1, f1⟩ := toProofS_spec h a1 _ c1 _ hw h1 ok.2.2
  have L1 : h.Le g1 := l1
  refine ⟨_, _, _, _, A1, HQ _ _ ⟨L1, W1, _, [] ++ ([] ++ (ids1)), rfl, ?_, ?_⟩⟩
  · exact ⟨[_], _, [], _, rfl, rfl, ⟨rfl, rfl⟩, [_], _, [], _, rfl, rfl, ⟨rfl, rfl⟩, ro_sl.2 ⟨_, rfl, r1⟩⟩
  · exact (show Fresh h.n g1.n (ids1) from f1)
def Q2l (a : Nat) (b : AHeap) (c : List (Sh.T changeSh)) (d : Nat) (e f g : AHeap × List (List Value) × List (List Nat)) := ToI Q2f [Qn, Qn, Q28] a b c d (Prod.fst e) (Ql f) (Qk g)
def Q2m (a : Nat) (b : AHeap) (c : List (Sh.T changeSh)) (d e f g : Nat × AHeap × List (List Value) × List (List Nat)) := ToI Q2f [Qn, Qn, Q28] a b c (Prod.fst d) (Qo e) (Ql (Prod.snd f)) (Qk (Prod.snd g))
def Q2n (a : AHeap) (b c : Nat) := Qp a (some Q2k) b c
theorem toChangeS_spec (h : AHeap) (a : Option Addr) (n c : Nat) (xs : List changeSh.T) (hw : h.wf) (hx : Sl h changeSh xs (.slice a n c)) (ok : (Sh.sl changeSh).small xs) :
    ∃ v h', ACall Tryz.prog 37 [.slice a n c] h v h' ∧ h.Le h' ∧ h'.wf ∧ ∃ ids, v = .slice (some ⟨h.n, 0, some 3⟩) n (n + 1) ∧ So h' changeSh xs (.slice (some ⟨h.n, 0, some 3⟩) n (n + 1)) ids ∧ Fresh h.n h'.n ids := by
  have en := hx.len
  have ok1 : xs.length ≤ 1048576 := ok.1
  refine acall_vc (fun _ => false) (fun _ => []) (fun _ => toL changeSh [.int .i64 0, .int .i64 0, .slice none 0 0] a n c h xs) mixed Tryz.func37 rfl rfl rfl (Nat.le_of_ble_eq_true rfl) ?_ ?_
  · (refine vc_mp (by kernel_rfl : (Qj (∀ (i : Nat × AHeap × List (List Value) × List (List Nat)), Q2m n h xs i i i i → bs (decide (Qr i < (↑n : Int))) (∃ (l r : Nat), Qs (Q25 a l r Q2k) i i n (∃ (x x_1 : Int) (a_2 : Option Addr) (n_1 c_1 : Nat), Qt i l r i Q2k (Q2j x x_1 a_2 n_1 c_1) (∃ (x_2 x_3 : Int) (a_3 : Option Addr) (n_2 c_2 : Nat) (h' : AHeap), ACall Tryz.prog 85 [Q22 (Q2j x x_1 a_2 n_1 c_1)] (Qo i) (Q22 (Q2j x_2 x_3 a_3 n_2 c_2)) h' ∧ (∃ (l r : Nat), Qs (Q25 (Qy h Q2f) l r Q2k) i i n (∃ (h'_1 : AHeap), Qu h' l r i (Q2j x_2 x_3 a_3 n_2 c_2) h'_1 (∃ (j : Nat × AHeap × List (List Value) × List (List Nat)), Qv a n c a n c (Qq h Q2f n n h Q2f n n) (Qr i) (Qr j) (Qo j) h'_1 (Q2m n h xs j j j j) n (Prod.fst j) n (Prod.fst i) (∀ (k : AHeap × List (List Value) × List (List Nat)), Q2l n h xs n k k k → Q2l n h xs n k k k) (∀ (v : Value) (h : AHeap), False → False))))))) (∃ (j : AHeap × List (List Value) × List (List Nat)), Qq h Q2f n n h Q2f n n ∧ Prod.fst j = Qo i ∧ Q2l n h xs n j j j))) = _) ?_; delta Qd Qf Qi Qj Qk Ql Qn Qo Qp Qq Qr Qs Qt Qu Qv Qy Q22 Q25 Q28 Q2f Q2j Q2k Q2l Q2m)
    simp only [true_and, and_true]
    rintro ⟨i, h1, rows, idss⟩ I
    dsimp only at *
    refine bs_d (fun hlt => ?_) (fun hge => ?_)
    · have hio : i < xs.length := by omega
      obtain ⟨l, r, row, ha, _, hrd, hld⟩ := (hx.mono I.le).elem (List.getElem?_eq_getElem hio)
      obtain ⟨v1, rfl, k1⟩ := rd_change.1 hrd
      obtain ⟨a1, c1, rfl⟩ := k1.isSlice
      obtain ⟨v, h2, hA, hle, hw2, w1, ids, rfl, hro, hf⟩ := toChange_spec h1 xs[i] _ k1 I.wf (ok.2 _ (List.getElem_mem hio))
      obtain ⟨z1, ez, q1⟩ := rd_change.1 hro.rd
      cases ez
      obtain ⟨b1, d1, rfl⟩ := q1.isSlice
      obtain ⟨h3, e3, I3⟩ := I.step (by omega) (List.getElem?_eq_getElem hio) hle hw2 hro hf
      refine ⟨l, r, ha, Int.natCast_nonneg _, hlt, _, _, _, _, _, hld, _, _, _, _, _, _, hA, h.n, 0, rfl, Int.natCast_nonneg _, hlt, h3, e3, (i + 1, h3, _, _), by rw [wrap_i64 (by omega)] <;> rfl, rfl, I3, by dsimp only; omega, fun _ h => h, fun _ _ h => h⟩
    · have hi := I.hi
      have e : i = n := by omega
      subst e
      exact ⟨(h1, rows, idss), rfl, I⟩
  · (refine vc_mp (by kernel_rfl : (Qz n n n n 40 (∃ (i : Nat × AHeap × List (List Value) × List (List Nat)), Q12 a n c a n c (Q2n h (Q11 n) (Q11 n)) h Q2f n n i i h n [Q18, Q18, Q28] Q2k (Q2m n h xs i i i i) (∀ (j : AHeap × List (List Value) × List (List Nat)), Q16 (Q2l n h xs n j j j) h j j (∃ (ids : List Nat), Q17 h Q2f n n (Q2n h n n) (So (Prod.fst j) Q2f xs (Q2n h n n) ids) h j ids)) (∀ (v : Value) (h_1 : AHeap), Q13 h h_1 h_1 (∃ (ids : List Nat), Q14 (v = Q2n h n n) (So h_1 Q2f xs (Q2n h n n) ids) h h_1 ids)))) = _) ?_; delta Qf Qk Ql Qn Qo Qp Qr Qz Q10 Q11 Q12 Q13 Q14 Q16 Q17 Q18 Q28 Q2f Q2k Q2l Q2m Q2n)
    refine ⟨Int.natCast_nonneg _, Int.le_refl _, by omega, (0, _, _, _), rfl, rfl, rfl, rfl, ToI.start hw rfl, ?_, fun _ _ h => h.elim⟩
    rintro ⟨h1, rows, idss⟩ I
    obtain ⟨ids, h2, h3⟩ := ToI.finish I en (n + 1)
    exact ⟨I.le, I.wf, ids, rfl, h2, h3⟩
noncomputable def Q2o (a b : Sh.T Sh.int) (c : Sh.T (Sh.sl proofSh)) (d e : Sh.T Sh.int) (f : Sh.T (Sh.sl proofSh)) := eqb (Prod.mk a (Prod.mk b c)) (Prod.mk d (Prod.mk e f))
theorem eqChange_spec (h : AHeap) (x y : changeSh.T) (v1 : Value) (h1 : Sl h proofSh x.2.2 v1) (w1 : Value) (j1 : Sl h proofSh y.2.2 w1) (ok : changeSh.ok x) :
    ACall Tryz.prog 101 [.agg #[.int .i64 x.1, .int .i64 x.2.1, v1], .agg #[.int .i64 y.1, .int .i64 y.2.1, w1]] h (.bool (eqb x y)) h := by
  obtain ⟨x1, x2, x3⟩ := x
  obtain ⟨y1, y2, y3⟩ := y
  try dsimp only at *
  obtain ⟨a1, c1, rfl⟩ := h1.isSlice
  obtain ⟨ab1, cb1, rfl⟩ := j1.isSlice
  refine acall_out (acall_vc (fun _ => false) (fun _ => []) (fun _ => .none) mixed Tryz.func101 rfl rfl rfl (Nat.le_of_ble_eq_true rfl) (by (refine vc_mp (by kernel_rfl : (Q2c (True ∧ True)) = _) ?_; delta Qe Q2c); simp only [and_self]) ?_)
  (refine vc_mp (by kernel_rfl : (Q1c (decide (x1 = y1)) (Q2o x1 x2 x3 y1 y2 y3) h h (Q1c (decide (x2 = y2)) (Q2o x1 x2 x3 y1 y2 y3) h h (∃ (x : Bool) (h' : AHeap), Q2d 140 (Q2g a1 x3 c1) (Q2g ab1 y3 cb1) h x h' x (Q2o x1 x2 x3 y1 y2 y3) h' h (Q1g (Q2o x1 x2 x3 y1 y2 y3) h' h)))) = _) ?_; delta Q1c Q1g Q2d Q2g Q2o)
  refine bs_dn (fun e => ⟨congrArg _ (eqb_false fun e' => e (by cases e'; rfl)), rfl⟩) (fun e1 => ?_)
  refine bs_dn (fun e => ⟨congrArg _ (eqb_false fun e' => e (by cases e'; rfl)), rfl⟩) (fun e2 => ?_)
  refine ⟨_, _, eqProofS_spec h a1 _ c1 ab1 _ cb1 _ _ h1 j1 ok.2.2, bs_nb (fun e => ⟨congrArg _ (eqb_false fun e' => of_eqb_false e (by cases e'; rfl)), rfl⟩) (fun e3 => ?_)⟩
  exact ⟨congrArg _ (eqb_true (Prod.ext e1 (Prod.ext e2 (of_eqb e3)))), rfl⟩
theorem eqChangeS_spec (h : AHeap) (a : Option Addr) (n c : Nat) (a' : Option Addr) (n' c' : Nat) (xs ys : List changeSh.T) (hx : Sl h changeSh xs (.slice a n c)) (hy : Sl h changeSh ys (.slice a' n' c')) (ok : (Sh.sl changeSh).ok xs) :
    ACall Tryz.prog 42 [.slice a n c, .slice a' n' c'] h (.bool (eqb xs ys)) h := by
  have en := hx.len
  have en' := hy.len
  have hn : xs.length ≤ 9223372036854775807 := ok.1
  refine acall_out (acall_vc (fun _ => false) (fun _ => [(0, 0, []), (1, 0, []), (2, 0, []), (4, 0, []), (5, 0, []), (6, 0, []), (3, 1, []), (7, 1, []), (8, 3, []), (9, 0, [])]) (fun _ => eqLp h a n c a' n' c' xs ys) mixed Tryz.func42 rfl rfl rfl (Nat.le_of_ble_eq_true rfl) ?_ ?_)
  · (refine vc_mp (by kernel_rfl : (Q19 (∀ (i : Nat), EqI xs ys i → bs (decide ((↑i : Int) < (↑n : Int))) (∃ (l r : Nat), Q1a (Q25 a l r Q2k) i i n (∃ (l_1 r_1 : Nat), Q1a (Q25 a' l_1 r_1 Q2k) i i n' (∃ (x x_1 : Int) (a_2 : Option Addr) (n_1 c_1 : Nat), Q1b h l r i Q2k (Q2j x x_1 a_2 n_1 c_1) (∃ (x_2 x_3 : Int) (a_3 : Option Addr) (n_2 c_2 : Nat), Q1b h l_1 r_1 i Q2k (Q2j x_2 x_3 a_3 n_2 c_2) (∃ (x_4 : Bool) (h' : AHeap), Q2d 101 (Q22 (Q2j x x_1 a_2 n_1 c_1)) (Q22 (Q2j x_2 x_3 a_3 n_2 c_2)) h x_4 h' x_4 (eqb xs ys) h' h (∃ (j : Nat), Q1d a n c a n c a' n' c' a' n' c' i j h h' (EqI xs ys j) (List.length xs) j (List.length xs) i (∀ (k : Unit), xs = ys → xs = ys) (∀ (v : Value) (h_1 : AHeap), Q1e v (eqb xs ys) h_1 h v (eqb xs ys) h_1 h))))))) (∃ (j : Unit), h = h ∧ xs = ys))) = _) ?_; delta Qd Qe Qf Qi Qv Q11 Q19 Q1a Q1b Q1c Q1d Q1e Q22 Q25 Q2d Q2j Q2k)
    simp only [true_and, and_true]
    rintro (i : Nat) I
    have hl := I.len
    have hi := I.hi
    refine bs_d (fun hlt => ?_) (fun hge => ?_)
    · have hxi : i < xs.length := by omega
      have hyi : i < ys.length := by omega
      obtain ⟨l, r, row, ha, hin, hrd, hld⟩ := hx.elem (List.getElem?_eq_getElem hxi)
      obtain ⟨l', r', row', ha', hin', hrd', hld'⟩ := hy.elem (List.getElem?_eq_getElem hyi)
      obtain ⟨v1, rfl, k1⟩ := rd_change.1 hrd
      obtain ⟨w1, rfl, kk1⟩ := rd_change.1 hrd'
      obtain ⟨a1, c1, rfl⟩ := k1.isSlice
      obtain ⟨b1, d1, rfl⟩ := kk1.isSlice
      refine ⟨l, r, ha, Int.natCast_nonneg _, hlt, l', r', ha', Int.natCast_nonneg _, by omega, _, _, _, _, _, hld, _, _, _, _, _, hld', _, _, eqChange_spec h xs[i] ys[i] _ k1 _ kk1 (ok.2 _ (List.getElem_mem hxi)), bs_nb (fun hb => ?_) (fun hb => ?_)⟩
      · exact ⟨congrArg _ (eqb_false fun e => of_eqb_false hb (by subst e; rfl)), rfl⟩
      · exact ⟨i + 1, by rw [wrap_i64 (by omega)] <;> rfl, rfl, I.step hxi hyi (of_eqb hb), by omega, fun _ h => h, fun _ _ h => h⟩
    · have e : i = xs.length := by omega
      subst e
      exact ⟨(), I.all⟩
  · (refine vc_mp (by kernel_rfl : (Q1c (decide ((↑n : Int) = (↑n' : Int))) (eqb xs ys) h h (∃ (i : Nat), Q1f a n c a n c a' n' c' a' n' c' i h h (EqI xs ys i) (∀ (j : Unit), xs = ys → Q1g (eqb xs ys) h h) (∀ (v : Value) (h_1 : AHeap), Q1e v (eqb xs ys) h_1 h v (eqb xs ys) h_1 h))) = _) ?_; delta Qf Qn Q10 Q1c Q1e Q1f Q1g)
    refine bs_dn (fun hne => ⟨congrArg _ (eqb_false fun e => hne (by rw [← en, ← en', e])), rfl⟩) (fun he => ?_)
    exact ⟨(0 : Nat), rfl, rfl, rfl, rfl, ⟨by omega, Nat.zero_le _, rfl⟩, fun j e => ⟨congrArg _ (eqb_true e), rfl⟩, fun _ _ h => h⟩
def Q2p (a b c d : Sh.T Sh.int) (e : Sh.T Sh.str) (f : Sh.T (Sh.sl changeSh)) := Prod.mk a (Prod.mk b (Prod.mk c (Prod.mk d (Prod.mk e f))))
def Q2q (a : Option Addr) (b : List (Sh.T changeSh)) (c : Nat) := Value.slice a (List.length b) c
theorem szSay_spec (h : AHeap) (x : saySh.T) (left : Int) (v1 : Value) (h1 : Sl h changeSh x.2.2.2.2.2 v1) (hl : 0 ≤ left ∧ left ≤ 1048576) (ok : saySh.ok x) :
    ACall Tryz.prog 21 [.agg #[.int .i64 x.1, .int .i64 x.2.1, .int .i64 x.2.2.1, .int .i64 x.2.2.2.1, .string x.2.2.2.2.1, v1], .int .i64 left] h (.int .i64 (saySh.sz x left)) h := by
  obtain ⟨x1, x2, x3, x4, x5, x6⟩ := x
  try dsimp only at *
  obtain ⟨a1, c1, rfl⟩ := h1.isSlice
  refine acall_out (acall_vc (fun _ => false) (fun _ => []) (fun _ => .none) mixed Tryz.func21 rfl rfl rfl (Nat.le_of_ble_eq_true rfl) (by (refine vc_mp (by kernel_rfl : (Q1w Q1x) = _) ?_; delta Qe Q1w Q1x); simp only [and_self]) ?_)
  (refine vc_mp (by kernel_rfl : (Qg (decide (Qi (Q1q left x5) < 0)) (Sh.sz saySh (Q2p x1 x2 x3 x4 x5 x6) left) h h (∃ (x : Int) (h' : AHeap), Q1y 30 (Q2q a1 x6 c1) (Qi (Q1q left x5)) h x h' (decide (x < 0)) (Sh.sz saySh (Q2p x1 x2 x3 x4 x5 x6) left) h' h (Q1s x (Sh.sz saySh (Q2p x1 x2 x3 x4 x5 x6) left) h' h))) = _) ?_; delta Qf Qg Qh Qi Q1q Q1s Q1y Q2p Q2q)
  have o1 : (x5 : ByteArray).size ≤ 9223372036854775807 := ok.2.2.2.2.1
  rw [wrap_i64 (by omega)]
  refine bs_d (fun e1 => by refine ⟨congrArg _ (Eq.symm ?_), rfl⟩; exact sz_step rfl hl.1 (sz_step rfl hl.1 (sz_step rfl hl.1 (sz_step rfl hl.1 (sz_stop (neg1 (sz_strn e1))))))) (fun e1 => ?_)
  have b2 := (Sh.sl changeSh).sz_le x6 (left - ((x5 : ByteArray).size : Int)) (by omega)
  refine ⟨_, _, szChangeS_spec h a1 _ c1 _ (left - ((x5 : ByteArray).size : Int)) h1 (by omega) ok.2.2.2.2.2, bs_d (fun e2 => by refine ⟨congrArg _ (Eq.symm ?_), rfl⟩; exact sz_step rfl hl.1 (sz_step rfl hl.1 (sz_step rfl hl.1 (sz_step rfl hl.1 (sz_step (sz_str e1) (Int.not_lt.1 e1) (sz_neg (Int.not_lt.1 e1) e2)))))) (fun e2 => ?_)⟩
  refine ⟨congrArg _ (Eq.symm ?_), rfl⟩
  exact sz_step rfl hl.1 (sz_step rfl hl.1 (sz_step rfl hl.1 (sz_step rfl hl.1 (sz_step (sz_str e1) (Int.not_lt.1 e1) (rfl)))))
def Q2r (a b c d : Int) (e : ByteArray) (f : Option Addr) (g h : Nat) := [Qf a, Qf b, Qf c, Qf d, Value.string e, Value.slice f g h]
theorem toSay_spec (h : AHeap) (x : saySh.T) (v1 : Value) (h1 : Sl h changeSh x.2.2.2.2.2 v1) (hw : h.wf) (ok : saySh.small x) :
    ∃ v h', ACall Tryz.prog 23 [.agg #[.int .i64 x.1, .int .i64 x.2.1, .int .i64 x.2.2.1, .int .i64 x.2.2.2.1, .string x.2.2.2.2.1, v1]] h v h' ∧ h.Le h' ∧ h'.wf ∧ ∃ w1 ids, v = .agg #[.int .i64 x.1, .int .i64 x.2.1, .int .i64 x.2.2.1, .int .i64 x.2.2.2.1, .string x.2.2.2.2.1, w1] ∧ saySh.ro h' x [.int .i64 x.1, .int .i64 x.2.1, .int .i64 x.2.2.1, .int .i64 x.2.2.2.1, .string x.2.2.2.2.1, w1] ids ∧ Fresh h.n h'.n ids := by
  obtain ⟨x1, x2, x3, x4, x5, x6⟩ := x
  try dsimp only at *
  obtain ⟨a1, c1, rfl⟩ := h1.isSlice
  refine acall_q fun Q HQ => ?_
  refine acall_vc (fun _ => false) (fun _ => []) (fun _ => .none) mixed Tryz.func23 rfl rfl rfl (Nat.le_of_ble_eq_true rfl) (by (refine vc_mp (by kernel_rfl : (Q26 (Q26 (True ∧ True))) = _) ?_; delta Q26); simp only [and_self]) ?_
  (refine vc_mp (by kernel_rfl : (∃ (a : Option Addr) (n c : Nat) (h' : AHeap), Q27 37 [Q2q a1 x6 c1] h a n c h' (Q (Q22 (Q2r x1 x2 x3 x4 x5 a n c)) h')) = _) ?_; delta Qf Q22 Q27 Q2q Q2r)
  obtain ⟨u1, g1, A1, l1, W1, ids1, rfl, r1, f1⟩ := toChangeS_spec h a1 _ c1 _ hw h1 ok.2.2.2.2.2
  have L1 : h.Le g1 := l1
  refine ⟨_, _, _, _, A1, HQ _ _ ⟨L1, W1, _, [] ++ ([] ++ ([] ++ ([] ++ ([] ++ (ids1))))), rfl, ?_, ?_⟩⟩
  · exact ⟨[_], _, [], _, rfl, rfl, ⟨rfl, rfl⟩, [_], _, [], _, rfl, rfl, ⟨rfl, rfl⟩, [_], _, [], _, rfl, rfl, ⟨rfl, rfl⟩, [_], _, [], _, rfl, rfl, ⟨rfl, rfl⟩, [_], _, [], _, rfl, rfl, ⟨rfl, rfl⟩, ro_sl.2 ⟨_, rfl, r1⟩⟩
  · exact (show Fresh h.n g1.n (ids1) from f1)
def Q2s (a b c d : Sh.T Sh.int) (e : Sh.T Sh.str) (f : Sh.T (Sh.sl changeSh)) := Prod.mk a (Prod.mk b (Prod.mk c (Prod.mk d (Prod.mk e f))))
theorem eqSay_spec (h : AHeap) (x y : saySh.T) (v1 : Value) (h1 : Sl h changeSh x.2.2.2.2.2 v1) (w1 : Value) (j1 : Sl h changeSh y.2.2.2.2.2 w1) (ok : saySh.ok x) :
    ACall Tryz.prog 25 [.agg #[.int .i64 x.1, .int .i64 x.2.1, .int .i64 x.2.2.1, .int .i64 x.2.2.2.1, .string x.2.2.2.2.1, v1], .agg #[.int .i64 y.1, .int .i64 y.2.1, .int .i64 y.2.2.1, .int .i64 y.2.2.2.1, .string y.2.2.2.2.1, w1]] h (.bool (eqb x y)) h := by
  obtain ⟨x1, x2, x3, x4, x5, x6⟩ := x
  obtain ⟨y1, y2, y3, y4, y5, y6⟩ := y
  try dsimp only at *
  obtain ⟨a1, c1, rfl⟩ := h1.isSlice
  obtain ⟨ab1, cb1, rfl⟩ := j1.isSlice
  refine acall_out (acall_vc (fun _ => false) (fun _ => []) (fun _ => .none) mixed Tryz.func25 rfl rfl rfl (Nat.le_of_ble_eq_true rfl) (by (refine vc_mp (by kernel_rfl : (Q2c (Qe ∧ Qe ∧ Qe ∧ True ∧ True)) = _) ?_; delta Qe Q2c); simp only [and_self]) ?_)
  (refine vc_mp (by kernel_rfl : (Q1c (decide (x1 = y1)) (eqb (Q2s x1 x2 x3 x4 x5 x6) (Q2s y1 y2 y3 y4 y5 y6)) h h (Q1c (decide (x2 = y2)) (eqb (Q2s x1 x2 x3 x4 x5 x6) (Q2s y1 y2 y3 y4 y5 y6)) h h (Q1c (decide (x3 = y3)) (eqb (Q2s x1 x2 x3 x4 x5 x6) (Q2s y1 y2 y3 y4 y5 y6)) h h (Q1c (decide (x4 = y4)) (eqb (Q2s x1 x2 x3 x4 x5 x6) (Q2s y1 y2 y3 y4 y5 y6)) h h (Q1c (decide (x5 = y5)) (eqb (Q2s x1 x2 x3 x4 x5 x6) (Q2s y1 y2 y3 y4 y5 y6)) h h (∃ (x : Bool) (h' : AHeap), Q2d 42 (Q2q a1 x6 c1) (Q2q ab1 y6 cb1) h x h' x (eqb (Q2s x1 x2 x3 x4 x5 x6) (Q2s y1 y2 y3 y4 y5 y6)) h' h (Q1g (eqb (Q2s x1 x2 x3 x4 x5 x6) (Q2s y1 y2 y3 y4 y5 y6)) h' h))))))) = _) ?_; delta Q1c Q1g Q2d Q2q Q2s)
  refine bs_dn (fun e => ⟨congrArg _ (eqb_false fun e' => e (by cases e'; rfl)), rfl⟩) (fun e1 => ?_)
  refine bs_dn (fun e => ⟨congrArg _ (eqb_false fun e' => e (by cases e'; rfl)), rfl⟩) (fun e2 => ?_)
  refine bs_dn (fun e => ⟨congrArg _ (eqb_false fun e' => e (by cases e'; rfl)), rfl⟩) (fun e3 => ?_)
  refine bs_dn (fun e => ⟨congrArg _ (eqb_false fun e' => e (by cases e'; rfl)), rfl⟩) (fun e4 => ?_)
  refine bs_dn (fun e => ⟨congrArg _ (eqb_false fun e' => e (by cases e'; rfl)), rfl⟩) (fun e5 => ?_)
  refine ⟨_, _, eqChangeS_spec h a1 _ c1 ab1 _ cb1 _ _ h1 j1 ok.2.2.2.2.2, bs_nb (fun e => ⟨congrArg _ (eqb_false fun e' => of_eqb_false e (by cases e'; rfl)), rfl⟩) (fun e6 => ?_)⟩
  exact ⟨congrArg _ (eqb_true (Prod.ext e1 (Prod.ext e2 (Prod.ext e3 (Prod.ext e4 (Prod.ext e5 (of_eqb e6))))))), rfl⟩
theorem eqSayS_spec (h : AHeap) (a : Option Addr) (n c : Nat) (a' : Option Addr) (n' c' : Nat) (xs ys : List saySh.T) (hx : Sl h saySh xs (.slice a n c)) (hy : Sl h saySh ys (.slice a' n' c')) (ok : (Sh.sl saySh).ok xs) :
    ACall Tryz.prog 11 [.slice a n c, .slice a' n' c'] h (.bool (eqb xs ys)) h := by
  have en := hx.len
  have en' := hy.len
  have hn : xs.length ≤ 9223372036854775807 := ok.1
  refine acall_out (acall_vc (fun _ => false) (fun _ => [(0, 0, []), (1, 0, []), (2, 0, []), (4, 0, []), (5, 0, []), (6, 0, []), (3, 1, []), (7, 1, []), (8, 3, []), (9, 0, [])]) (fun _ => eqLp h a n c a' n' c' xs ys) mixed Tryz.func11 rfl rfl rfl (Nat.le_of_ble_eq_true rfl) ?_ ?_)
  · (refine vc_mp (by kernel_rfl : (Q19 (∀ (i : Nat), EqI xs ys i → bs (decide ((↑i : Int) < (↑n : Int))) (∃ (l r : Nat), Q1a (Q25 a l r 6) i i n (∃ (l_1 r_1 : Nat), Q1a (Q25 a' l_1 r_1 6) i i n' (∃ (x x_1 x_2 x_3 : Int) (x_4 : ByteArray) (a_2 : Option Addr) (n_1 c_1 : Nat), Q1b h l r i 6 (Q2r x x_1 x_2 x_3 x_4 a_2 n_1 c_1) (∃ (x_5 x_6 x_7 x_8 : Int) (x_9 : ByteArray) (a_3 : Option Addr) (n_2 c_2 : Nat), Q1b h l_1 r_1 i 6 (Q2r x_5 x_6 x_7 x_8 x_9 a_3 n_2 c_2) (∃ (x_10 : Bool) (h' : AHeap), Q2d 25 (Q22 (Q2r x x_1 x_2 x_3 x_4 a_2 n_1 c_1)) (Q22 (Q2r x_5 x_6 x_7 x_8 x_9 a_3 n_2 c_2)) h x_10 h' x_10 (eqb xs ys) h' h (∃ (j : Nat), Q1d a n c a n c a' n' c' a' n' c' i j h h' (EqI xs ys j) (List.length xs) j (List.length xs) i (∀ (k : Unit), xs = ys → xs = ys) (∀ (v : Value) (h_1 : AHeap), Q1e v (eqb xs ys) h_1 h v (eqb xs ys) h_1 h))))))) (∃ (j : Unit), h = h ∧ xs = ys))) = _) ?_; delta Qd Qe Qf Qi Qv Q11 Q19 Q1a Q1b Q1c Q1d Q1e Q22 Q25 Q2d Q2r)
    simp only [true_and, and_true]
    rintro (i : Nat) I
    have hl := I.len
    have hi := I.hi
    refine bs_d (fun hlt => ?_) (fun hge => ?_)
    · have hxi : i < xs.length := by omega
      have hyi : i < ys.length := by omega
      obtain ⟨l, r, row, ha, hin, hrd, hld⟩ := hx.elem (List.getElem?_eq_getElem hxi)
      obtain ⟨l', r', row', ha', hin', hrd', hld'⟩ := hy.elem (List.getElem?_eq_getElem hyi)
      obtain ⟨v1, rfl, k1⟩ := rd_say.1 hrd
      obtain ⟨w1, rfl, kk1⟩ := rd_say.1 hrd'
      obtain ⟨a1, c1, rfl⟩ := k1.isSlice
      obtain ⟨b1, d1, rfl⟩ := kk1.isSlice
      refine ⟨l, r, ha, Int.natCast_nonneg _, hlt, l', r', ha', Int.natCast_nonneg _, by omega, _, _, _, _, _, _, _, _, hld, _, _, _, _, _, _, _, _, hld', _, _, eqSay_spec h xs[i] ys[i] _ k1 _ kk1 (ok.2 _ (List.getElem_mem hxi)), bs_nb (fun hb => ?_) (fun hb => ?_)⟩
      · exact ⟨congrArg _ (eqb_false fun e => of_eqb_false hb (by subst e; rfl)), rfl⟩
      · exact ⟨i + 1, by rw [wrap_i64 (by omega)] <;> rfl, rfl, I.step hxi hyi (of_eqb hb), by omega, fun _ h => h, fun _ _ h => h⟩
    · have e : i = xs.length := by omega
      subst e
      exact ⟨(), I.all⟩
  · (refine vc_mp (by kernel_rfl : (Q1c (decide ((↑n : Int) = (↑n' : Int))) (eqb xs ys) h h (∃ (i : Nat), Q1f a n c a n c a' n' c' a' n' c' i h h (EqI xs ys i) (∀ (j : Unit), xs = ys → Q1g (eqb xs ys) h h) (∀ (v : Value) (h_1 : AHeap), Q1e v (eqb xs ys) h_1 h v (eqb xs ys) h_1 h))) = _) ?_; delta Qf Qn Q10 Q1c Q1e Q1f Q1g)
    refine bs_dn (fun hne => ⟨congrArg _ (eqb_false fun e => hne (by rw [← en, ← en', e])), rfl⟩) (fun he => ?_)
    exact ⟨(0 : Nat), rfl, rfl, rfl, rfl, ⟨by omega, Nat.zero_le _, rfl⟩, fun j e => ⟨congrArg _ (eqb_true e), rfl⟩, fun _ _ h => h⟩
theorem szVote_spec (h : AHeap) (x : voteSh.T) (left : Int) (hl : 0 ≤ left ∧ left ≤ 1048576) (ok : voteSh.ok x) :
    ACall Tryz.prog 74 [.agg #[.int .i64 x.1, .int .i64 x.2.1, .int .i64 x.2.2.1, .string x.2.2.2.1, .int .i64 x.2.2.2.2], .int .i64 left] h (.int .i64 (voteSh.sz x left)) h := by
  obtain ⟨x1, x2, x3, x4, x5⟩ := x
  try dsimp only at *
  refine acall_out (acall_vc (fun _ => false) (fun _ => []) (fun _ => .none) mixed Tryz.func74 rfl rfl rfl (Nat.le_of_ble_eq_true rfl) (by (refine vc_mp (by kernel_rfl : (Qd True Qe) = _) ?_; delta Qd Qe); simp only [and_self]) ?_)
  (refine vc_mp (by kernel_rfl : (Qg (decide (Qi (Q1q left x4) < 0)) (Sh.sz voteSh (Prod.mk x1 (Prod.mk x2 (Prod.mk x3 (Prod.mk x4 x5)))) left) h h (Qf (Qi (Q1q left x4)) = Qf (Sh.sz voteSh (Prod.mk x1 (Prod.mk x2 (Prod.mk x3 (Prod.mk x4 x5)))) left) ∧ h = h)) = _) ?_; delta Qf Qg Qh Qi Q1q)
  have o1 : (x4 : ByteArray).size ≤ 9223372036854775807 := ok.2.2.2.1
  rw [wrap_i64 (by omega)]
  refine bs_d (fun e1 => by refine ⟨congrArg _ (Eq.symm ?_), rfl⟩; exact sz_step rfl hl.1 (sz_step rfl hl.1 (sz_step rfl hl.1 (sz_stop (neg1 (sz_strn e1)))))) (fun e1 => ?_)
  refine ⟨congrArg _ (Eq.symm ?_), rfl⟩
  exact sz_step rfl hl.1 (sz_step rfl hl.1 (sz_step rfl hl.1 (sz_step (sz_str e1) (Int.not_lt.1 e1) (rfl))))
def Q2t (a : List (Sh.T voteSh)) (b : Int) (c : Nat) := szL (Sh.sz voteSh) a (Qh b c)
def Q2u (a : Nat × Int) (b : List (Sh.T voteSh)) (c : Nat × Int) := szL (Sh.sz voteSh) (List.drop (Prod.fst a) b) (Prod.snd c)
def Q2v (a b c : Int) (d : ByteArray) (e : Int) := [Qf a, Qf b, Qf c, Value.string d, Qf e]
def Q2w := (5 : Nat)
theorem szVoteS_spec (h : AHeap) (a : Option Addr) (n c : Nat) (xs : List voteSh.T) (left : Int) (hx : Sl h voteSh xs (.slice a n c)) (hl : 0 ≤ left ∧ left ≤ 1048576) (ok : (Sh.sl voteSh).ok xs) :
    ACall Tryz.prog 29 [.slice a n c, .int .i64 left] h (.int .i64 ((Sh.sl voteSh).sz xs left)) h := by
  have en := hx.len
  have ok1 : xs.length ≤ 9223372036854775807 := ok.1
  have key : (Sh.sl voteSh).sz xs left = (if left - (xs.length : Int) < 0 then -1 else szL voteSh.sz xs (left - (xs.length : Int))) := rfl
  rw [key, en]
  refine acall_out (acall_vc (fun _ => false) (fun _ => []) (fun _ => szLp voteSh a n c h xs (szL voteSh.sz xs (left - n))) mixed Tryz.func29 rfl rfl rfl (Nat.le_of_ble_eq_true rfl) ?_ ?_)
  · (refine vc_mp (by kernel_rfl : (Q1h (∀ (i : Nat × Int), Q1n i n i i (Q2u i xs i) (Q2t xs left n) → bs (decide (Q1k i < (↑n : Int))) (∃ (l r : Nat), Q1l (Q25 a l r Q2w) i i n (∃ (x x_1 x_2 : Int) (x_3 : ByteArray) (x_4 : Int), Q1b h l r (Prod.fst i) Q2w (Q2v x x_1 x_2 x_3 x_4) (∃ (x_5 : Int) (h' : AHeap), ACall Tryz.prog 74 [Q22 (Q2v x x_1 x_2 x_3 x_4), Qf (Prod.snd i)] h (Qf x_5) h' ∧ Qg (decide (x_5 < 0)) (Q2t xs left n) h' h (∃ (j : Nat × Int), Qv a n c a n c (Qf x_5 = Qf (Prod.snd j)) (Q1k i) (Q1k j) h h' (Q1n j n j j (Q2u j xs j) (Q2t xs left n)) n (Prod.fst j) n (Prod.fst i) (∀ (k : Int), k = Q2t xs left n → k = Q2t xs left n) (∀ (v : Value) (h_1 : AHeap), Q1m v (Q2t xs left n) h_1 h v (Q2t xs left n) h_1 h))))) (∃ (j : Int), Q1i i j h h (j = Q2t xs left n)))) = _) ?_; delta Qe Qf Qg Qh Qi Qv Q11 Q1b Q1h Q1i Q1k Q1l Q1m Q1n Q22 Q25 Q2t Q2u Q2v Q2w)
    simp only [true_and, and_true]
    rintro ⟨i, x⟩ ⟨hi, h0, h1, he⟩
    dsimp only at *
    refine bs_d (fun hlt => ?_) (fun hge => ?_)
    · have hio : i < xs.length := by omega
      obtain ⟨l, r, row, ha, _, hrd, hld⟩ := hx.elem (List.getElem?_eq_getElem hio)
      have hoi := ok.2 xs[i] (List.getElem_mem hio)
      obtain rfl := rd_vote.1 hrd
      rw [List.drop_eq_getElem_cons hio] at he
      have he : (if voteSh.sz xs[i] x < 0 then -1 else szL voteSh.sz (xs.drop (i + 1)) (voteSh.sz xs[i] x)) = szL voteSh.sz xs (left - n) := he
      have b1 := voteSh.sz_le xs[i] x h0
      refine ⟨l, r, ha, Int.natCast_nonneg _, hlt, _, _, _, _, _, hld, voteSh.sz xs[i] x, h, szVote_spec h xs[i] x   ⟨h0, h1⟩ hoi, bs_d (fun hneg => ?_) (fun hpos => ?_)⟩
      · rw [if_pos hneg] at he; rw [← he]; exact ⟨rfl, rfl⟩
      · rw [if_neg hpos] at he
        exact ⟨(i + 1, voteSh.sz xs[i] x), rfl, by rw [wrap_i64 (by omega)] <;> rfl, rfl, ⟨by dsimp only; omega, by dsimp only; omega, by dsimp only; omega, he⟩, by dsimp only; omega, fun _ h => h, fun _ _ h => h⟩
    · have e : i = xs.length := by omega
      subst e
      rw [List.drop_length] at he
      exact ⟨x, rfl, he⟩
  · (refine vc_mp (by kernel_rfl : (Qg (decide (Qi (Qh left n) < 0)) (ite (Qh left n < 0) (-1) (Q2t xs left n)) h h (∃ (i : Nat × Int), Q10 a n c a n c (Q1p (Qh left n) i) (Q1k i) h h (Q1n i n i i (Q2u i xs i) (Q2t xs left n)) (∀ (j : Int), j = Q2t xs left n → Q1s j (ite (Qh left n < 0) (-1) (Q2t xs left n)) h h) (∀ (v : Value) (h_1 : AHeap), Q1m v (Q2t xs left n) h_1 h v (ite (Qh left n < 0) (-1) (Q2t xs left n)) h_1 h))) = _) ?_; delta Qf Qg Qh Qi Qn Q10 Q1k Q1m Q1n Q1p Q1s Q2t Q2u)
    rw [wrap_i64 (by omega)]
    refine bs_d (fun e => ?_) (fun e => ?_)
    · rw [if_pos e]; exact ⟨rfl, rfl⟩
    · rw [if_neg e]
      exact ⟨(0, left - n), rfl, rfl, rfl, rfl, ⟨Nat.zero_le _, by dsimp only; omega, by dsimp only; omega, rfl⟩, fun j hj => ⟨by rw [hj], rfl⟩, fun _ _ h => h⟩
theorem toVote_spec (h : AHeap) (x : voteSh.T) (hw : h.wf) :
    ∃ v h', ACall Tryz.prog 84 [.agg #[.int .i64 x.1, .int .i64 x.2.1, .int .i64 x.2.2.1, .string x.2.2.2.1, .int .i64 x.2.2.2.2]] h v h' ∧ h.Le h' ∧ h'.wf ∧ ∃ ids, v = .agg #[.int .i64 x.1, .int .i64 x.2.1, .int .i64 x.2.2.1, .string x.2.2.2.1, .int .i64 x.2.2.2.2] ∧ voteSh.ro h' x [.int .i64 x.1, .int .i64 x.2.1, .int .i64 x.2.2.1, .string x.2.2.2.1, .int .i64 x.2.2.2.2] ids ∧ Fresh h.n h'.n ids := by
  obtain ⟨x1, x2, x3, x4, x5⟩ := x
  try dsimp only at *
  refine acall_q fun Q HQ => ?_
  refine acall_vc (fun _ => false) (fun _ => []) (fun _ => .none) mixed Tryz.func84 rfl rfl rfl (Nat.le_of_ble_eq_true rfl) (by (refine vc_mp (by kernel_rfl : (Q26 (Qd True True)) = _) ?_; delta Qd Q26); simp only [and_self]) ?_
  (refine vc_mp (by kernel_rfl : (Q (Q22 (Q2v x1 x2 x3 x4 x5)) h) = _) ?_; delta Qf Q22 Q2v)
  exact HQ _ _ ⟨.refl _, hw, [], rfl, (ro_vote (x := (x1, x2, x3, x4, x5))).2 ⟨rfl, rfl⟩, .nil⟩
def Q2x (a : Nat) (b : AHeap) (c : List (Sh.T voteSh)) (d : Nat) (e f g : AHeap × List (List Value) × List (List Nat)) := ToI voteSh [Qn, Qn, Qn, Q1u, Qn] a b c d (Prod.fst e) (Ql f) (Qk g)
def Q2y (a : Nat) (b : AHeap) (c : List (Sh.T voteSh)) (d e f g : Nat × AHeap × List (List Value) × List (List Nat)) := ToI voteSh [Qn, Qn, Qn, Q1u, Qn] a b c (Prod.fst d) (Qo e) (Ql (Prod.snd f)) (Qk (Prod.snd g))
def Q2z (a : AHeap) (b c : Nat) := Qp a (some Q2w) b c
theorem toVoteS_spec (h : AHeap) (a : Option Addr) (n c : Nat) (xs : List voteSh.T) (hw : h.wf) (hx : Sl h voteSh xs (.slice a n c)) (ok : (Sh.sl voteSh).small xs) :
    ∃ v h', ACall Tryz.prog 36 [.slice a n c] h v h' ∧ h.Le h' ∧ h'.wf ∧ ∃ ids, v = .slice (some ⟨h.n, 0, some 5⟩) n (n + 1) ∧ So h' voteSh xs (.slice (some ⟨h.n, 0, some 5⟩) n (n + 1)) ids ∧ Fresh h.n h'.n ids := by
  have en := hx.len
  have ok1 : xs.length ≤ 1048576 := ok.1
  refine acall_vc (fun _ => false) (fun _ => []) (fun _ => toL voteSh [.int .i64 0, .int .i64 0, .int .i64 0, .string ⟨#[]⟩, .int .i64 0] a n c h xs) mixed Tryz.func36 rfl rfl rfl (Nat.le_of_ble_eq_true rfl) ?_ ?_
  · (refine vc_mp (by kernel_rfl : (Qj (∀ (i : Nat × AHeap × List (List Value) × List (List Nat)), Q2y n h xs i i i i → bs (decide (Qr i < (↑n : Int))) (∃ (l r : Nat), Qs (Q25 a l r Q2w) i i n (∃ (x x_1 x_2 : Int) (x_3 : ByteArray) (x_4 : Int), Qt i l r i Q2w (Q2v x x_1 x_2 x_3 x_4) (∃ (x_5 x_6 x_7 : Int) (x_8 : ByteArray) (x_9 : Int) (h' : AHeap), ACall Tryz.prog 84 [Q22 (Q2v x x_1 x_2 x_3 x_4)] (Qo i) (Q22 (Q2v x_5 x_6 x_7 x_8 x_9)) h' ∧ (∃ (l r : Nat), Qs (Q25 (Qy h voteSh) l r Q2w) i i n (∃ (h'_1 : AHeap), Qu h' l r i (Q2v x_5 x_6 x_7 x_8 x_9) h'_1 (∃ (j : Nat × AHeap × List (List Value) × List (List Nat)), Qv a n c a n c (Qq h voteSh n n h voteSh n n) (Qr i) (Qr j) (Qo j) h'_1 (Q2y n h xs j j j j) n (Prod.fst j) n (Prod.fst i) (∀ (k : AHeap × List (List Value) × List (List Nat)), Q2x n h xs n k k k → Q2x n h xs n k k k) (∀ (v : Value) (h : AHeap), False → False))))))) (∃ (j : AHeap × List (List Value) × List (List Nat)), Qq h voteSh n n h voteSh n n ∧ Prod.fst j = Qo i ∧ Q2x n h xs n j j j))) = _) ?_; delta Qd Qf Qi Qj Qk Ql Qn Qo Qp Qq Qr Qs Qt Qu Qv Qy Q1u Q22 Q25 Q2v Q2w Q2x Q2y)
    simp only [true_and, and_true]
    rintro ⟨i, h1, rows, idss⟩ I
    dsimp only at *
    refine bs_d (fun hlt => ?_) (fun hge => ?_)
    · have hio : i < xs.length := by omega
      obtain ⟨l, r, row, ha, _, hrd, hld⟩ := (hx.mono I.le).elem (List.getElem?_eq_getElem hio)
      obtain rfl := rd_vote.1 hrd
      obtain ⟨v, h2, hA, hle, hw2, ids, rfl, hro, hf⟩ := toVote_spec h1 xs[i]   I.wf
      obtain ⟨h3, e3, I3⟩ := I.step (by omega) (List.getElem?_eq_getElem hio) hle hw2 hro hf
      refine ⟨l, r, ha, Int.natCast_nonneg _, hlt, _, _, _, _, _, hld, _, _, _, _, _, _, hA, h.n, 0, rfl, Int.natCast_nonneg _, hlt, h3, e3, (i + 1, h3, _, _), by rw [wrap_i64 (by omega)] <;> rfl, rfl, I3, by dsimp only; omega, fun _ h => h, fun _ _ h => h⟩
    · have hi := I.hi
      have e : i = n := by omega
      subst e
      exact ⟨(h1, rows, idss), rfl, I⟩
  · (refine vc_mp (by kernel_rfl : (Qz n n n n 48 (∃ (i : Nat × AHeap × List (List Value) × List (List Nat)), Q12 a n c a n c (Q2z h (Q11 n) (Q11 n)) h voteSh n n i i h n [Q18, Q18, Q18, Q1u, Q18] Q2w (Q2y n h xs i i i i) (∀ (j : AHeap × List (List Value) × List (List Nat)), Q16 (Q2x n h xs n j j j) h j j (∃ (ids : List Nat), Q17 h voteSh n n (Q2z h n n) (So (Prod.fst j) voteSh xs (Q2z h n n) ids) h j ids)) (∀ (v : Value) (h_1 : AHeap), Q13 h h_1 h_1 (∃ (ids : List Nat), Q14 (v = Q2z h n n) (So h_1 voteSh xs (Q2z h n n) ids) h h_1 ids)))) = _) ?_; delta Qf Qk Ql Qn Qo Qp Qr Qz Q10 Q11 Q12 Q13 Q14 Q16 Q17 Q18 Q1u Q2w Q2x Q2y Q2z)
    refine ⟨Int.natCast_nonneg _, Int.le_refl _, by omega, (0, _, _, _), rfl, rfl, rfl, rfl, ToI.start hw rfl, ?_, fun _ _ h => h.elim⟩
    rintro ⟨h1, rows, idss⟩ I
    obtain ⟨ids, h2, h3⟩ := ToI.finish I en (n + 1)
    exact ⟨I.le, I.wf, ids, rfl, h2, h3⟩
def Q30 (a b c : Sh.T Sh.int) (d : Sh.T Sh.str) (e : Sh.T Sh.int) := Prod.mk a (Prod.mk b (Prod.mk c (Prod.mk d e)))
theorem eqVote_spec (h : AHeap) (x y : voteSh.T) :
    ACall Tryz.prog 100 [.agg #[.int .i64 x.1, .int .i64 x.2.1, .int .i64 x.2.2.1, .string x.2.2.2.1, .int .i64 x.2.2.2.2], .agg #[.int .i64 y.1, .int .i64 y.2.1, .int .i64 y.2.2.1, .string y.2.2.2.1, .int .i64 y.2.2.2.2]] h (.bool (eqb x y)) h := by
  obtain ⟨x1, x2, x3, x4, x5⟩ := x
  obtain ⟨y1, y2, y3, y4, y5⟩ := y
  try dsimp only at *
  refine acall_out (acall_vc (fun _ => false) (fun _ => []) (fun _ => .none) mixed Tryz.func100 rfl rfl rfl (Nat.le_of_ble_eq_true rfl) (by (refine vc_mp (by kernel_rfl : (Q2c (Qe ∧ Qe ∧ True ∧ True)) = _) ?_; delta Qe Q2c); simp only [and_self]) ?_)
  (refine vc_mp (by kernel_rfl : (Q1c (decide (x1 = y1)) (eqb (Q30 x1 x2 x3 x4 x5) (Q30 y1 y2 y3 y4 y5)) h h (Q1c (decide (x2 = y2)) (eqb (Q30 x1 x2 x3 x4 x5) (Q30 y1 y2 y3 y4 y5)) h h (Q1c (decide (x3 = y3)) (eqb (Q30 x1 x2 x3 x4 x5) (Q30 y1 y2 y3 y4 y5)) h h (Q1c (decide (x4 = y4)) (eqb (Q30 x1 x2 x3 x4 x5) (Q30 y1 y2 y3 y4 y5)) h h (Q1c (decide (x5 = y5)) (eqb (Q30 x1 x2 x3 x4 x5) (Q30 y1 y2 y3 y4 y5)) h h (Q1g (eqb (Q30 x1 x2 x3 x4 x5) (Q30 y1 y2 y3 y4 y5)) h h)))))) = _) ?_; delta Q1c Q1g Q30)
  refine bs_dn (fun e => ⟨congrArg _ (eqb_false fun e' => e (by cases e'; rfl)), rfl⟩) (fun e1 => ?_)
  refine bs_dn (fun e => ⟨congrArg _ (eqb_false fun e' => e (by cases e'; rfl)), rfl⟩) (fun e2 => ?_)
  refine bs_dn (fun e => ⟨congrArg _ (eqb_false fun e' => e (by cases e'; rfl)), rfl⟩) (fun e3 => ?_)
  refine bs_dn (fun e => ⟨congrArg _ (eqb_false fun e' => e (by cases e'; rfl)), rfl⟩) (fun e4 => ?_)
  refine bs_dn (fun e => ⟨congrArg _ (eqb_false fun e' => e (by cases e'; rfl)), rfl⟩) (fun e5 => ?_)
  exact ⟨congrArg _ (eqb_true (Prod.ext e1 (Prod.ext e2 (Prod.ext e3 (Prod.ext e4 e5))))), rfl⟩
theorem eqVoteS_spec (h : AHeap) (a : Option Addr) (n c : Nat) (a' : Option Addr) (n' c' : Nat) (xs ys : List voteSh.T) (hx : Sl h voteSh xs (.slice a n c)) (hy : Sl h voteSh ys (.slice a' n' c')) (ok : xs.length ≤ 9223372036854775807) :
    ACall Tryz.prog 41 [.slice a n c, .slice a' n' c'] h (.bool (eqb xs ys)) h := by
  have en := hx.len
  have en' := hy.len
  have hn : xs.length ≤ 9223372036854775807 := ok
  refine acall_out (acall_vc (fun _ => false) (fun _ => [(0, 0, []), (1, 0, []), (2, 0, []), (4, 0, []), (5, 0, []), (6, 0, []), (3, 1, []), (7, 1, []), (8, 3, []), (9, 0, [])]) (fun _ => eqLp h a n c a' n' c' xs ys) mixed Tryz.func41 rfl rfl rfl (Nat.le_of_ble_eq_true rfl) ?_ ?_)
  · (refine vc_mp (by kernel_rfl : (Q19 (∀ (i : Nat), EqI xs ys i → bs (decide ((↑i : Int) < (↑n : Int))) (∃ (l r : Nat), Q1a (Q25 a l r Q2w) i i n (∃ (l_1 r_1 : Nat), Q1a (Q25 a' l_1 r_1 Q2w) i i n' (∃ (x x_1 x_2 : Int) (x_3 : ByteArray) (x_4 : Int), Q1b h l r i Q2w (Q2v x x_1 x_2 x_3 x_4) (∃ (x_5 x_6 x_7 : Int) (x_8 : ByteArray) (x_9 : Int), Q1b h l_1 r_1 i Q2w (Q2v x_5 x_6 x_7 x_8 x_9) (∃ (x_10 : Bool) (h' : AHeap), Q2d 100 (Q22 (Q2v x x_1 x_2 x_3 x_4)) (Q22 (Q2v x_5 x_6 x_7 x_8 x_9)) h x_10 h' x_10 (eqb xs ys) h' h (∃ (j : Nat), Q1d a n c a n c a' n' c' a' n' c' i j h h' (EqI xs ys j) (List.length xs) j (List.length xs) i (∀ (k : Unit), xs = ys → xs = ys) (∀ (v : Value) (h_1 : AHeap), Q1e v (eqb xs ys) h_1 h v (eqb xs ys) h_1 h))))))) (∃ (j : Unit), h = h ∧ xs = ys))) = _) ?_; delta Qd Qe Qf Qi Qv Q11 Q19 Q1a Q1b Q1c Q1d Q1e Q22 Q25 Q2d Q2v Q2w)
    simp only [true_and, and_true]
    rintro (i : Nat) I
    have hl := I.len
    have hi := I.hi
    refine bs_d (fun hlt => ?_) (fun hge => ?_)
    · have hxi : i < xs.length := by omega
      have hyi : i < ys.length := by omega
      obtain ⟨l, r, row, ha, hin, hrd, hld⟩ := hx.elem (List.getElem?_eq_getElem hxi)
      obtain ⟨l', r', row', ha', hin', hrd', hld'⟩ := hy.elem (List.getElem?_eq_getElem hyi)
      obtain rfl := rd_vote.1 hrd
      obtain rfl := rd_vote.1 hrd'
      refine ⟨l, r, ha, Int.natCast_nonneg _, hlt, l', r', ha', Int.natCast_nonneg _, by omega, _, _, _, _, _, hld, _, _, _, _, _, hld', _, _, eqVote_spec h xs[i] ys[i], bs_nb (fun hb => ?_) (fun hb => ?_)⟩
      · exact ⟨congrArg _ (eqb_false fun e => of_eqb_false hb (by subst e; rfl)), rfl⟩
      · exact ⟨i + 1, by rw [wrap_i64 (by omega)] <;> rfl, rfl, I.step hxi hyi (of_eqb hb), by omega, fun _ h => h, fun _ _ h => h⟩
    · have e : i = xs.length := by omega
      subst e
      exact ⟨(), I.all⟩
  · (refine vc_mp (by kernel_rfl : (Q1c (decide ((↑n : Int) = (↑n' : Int))) (eqb xs ys) h h (∃ (i : Nat), Q1f a n c a n c a' n' c' a' n' c' i h h (EqI xs ys i) (∀ (j : Unit), xs = ys → Q1g (eqb xs ys) h h) (∀ (v : Value) (h_1 : AHeap), Q1e v (eqb xs ys) h_1 h v (eqb xs ys) h_1 h))) = _) ?_; delta Qf Qn Q10 Q1c Q1e Q1f Q1g)
    refine bs_dn (fun hne => ⟨congrArg _ (eqb_false fun e => hne (by rw [← en, ← en', e])), rfl⟩) (fun he => ?_)
    exact ⟨(0 : Nat), rfl, rfl, rfl, rfl, ⟨by omega, Nat.zero_le _, rfl⟩, fun j e => ⟨congrArg _ (eqb_true e), rfl⟩, fun _ _ h => h⟩
def Q31 (a b : Sh.T Sh.int) (c : Sh.T Sh.bool) (d : Sh.T Sh.int) (e : Sh.T (Sh.sl voteSh)) (f : Sh.T (Sh.sl changeSh)) (g h i j : Sh.T Sh.int) (k : Sh.T Sh.str) (l : Sh.T (Sh.sl changeSh)) (m : Sh.T (Sh.sl Sh.str)) (n : Int) := Sh.sz replicaSh (Prod.mk a (Prod.mk b (Prod.mk c (Prod.mk d (Prod.mk e (Prod.mk f (Prod.mk (Q2p g h i j k l) m))))))) n
def Q32 (a : Option Addr) (b : List (Sh.T Sh.str)) (c : Nat) := Value.slice a (List.length b) c
def Q33 (a b c d : Int) (e : ByteArray) (f : Option Addr) (g : List (Sh.T changeSh)) (h : Nat) := Q22 [Qf a, Qf b, Qf c, Qf d, Value.string e, Q2q f g h]
def Q34 (a : Option Addr) (b : List (Sh.T voteSh)) (c : Nat) := Value.slice a (List.length b) c
theorem szReplica_spec (h : AHeap) (x : replicaSh.T) (left : Int) (v1 : Value) (v2 : Value) (v3 : Value) (v4 : Value) (h1 : Sl h voteSh x.2.2.2.2.1 v1) (h2 : Sl h changeSh x.2.2.2.2.2.1 v2) (h3 : Sl h changeSh x.2.2.2.2.2.2.1.2.2.2.2.2 v3) (h4 : Sl h Sh.str x.2.2.2.2.2.2.2 v4) (hl : 0 ≤ left ∧ left ≤ 1048576) (ok : replicaSh.ok x) :
    ACall Tryz.prog 7 [.agg #[.int .i64 x.1, .int .i64 x.2.1, .bool x.2.2.1, .int .i64 x.2.2.2.1, v1, v2, .int .i64 x.2.2.2.2.2.2.1.1, .int .i64 x.2.2.2.2.2.2.1.2.1, .int .i64 x.2.2.2.2.2.2.1.2.2.1, .int .i64 x.2.2.2.2.2.2.1.2.2.2.1, .string x.2.2.2.2.2.2.1.2.2.2.2.1, v3, v4], .int .i64 left] h (.int .i64 (replicaSh.sz x left)) h := by
  obtain ⟨x1, x2, x3, x4, x5, x6, ⟨x7, x8, x9, x10, x11, x12⟩, x13⟩ := x
  try dsimp only at *
  obtain ⟨a1, c1, rfl⟩ := h1.isSlice
  obtain ⟨a2, c2, rfl⟩ := h2.isSlice
  obtain ⟨a3, c3, rfl⟩ := h3.isSlice
  obtain ⟨a4, c4, rfl⟩ := h4.isSlice
  refine acall_out (acall_vc (fun _ => false) (fun _ => []) (fun _ => .none) mixed Tryz.func7 rfl rfl rfl (Nat.le_of_ble_eq_true rfl) (by (refine vc_mp (by kernel_rfl : (Q1w (Qe ∧ True ∧ Qe ∧ True ∧ Q1x)) = _) ?_; delta Qe Q1w Q1x); simp only [and_self]) ?_)
  (refine vc_mp (by kernel_rfl : (∃ (x : Int) (h' : AHeap), Q1y 29 (Q34 a1 x5 c1) left h x h' (decide (x < 0)) (Q31 x1 x2 x3 x4 x5 x6 x7 x8 x9 x10 x11 x12 x13 left) h' h (∃ (x_1 : Int) (h'_1 : AHeap), Q1y 30 (Q2q a2 x6 c2) x h' x_1 h'_1 (decide (x_1 < 0)) (Q31 x1 x2 x3 x4 x5 x6 x7 x8 x9 x10 x11 x12 x13 left) h'_1 h (∃ (x : Int) (h' : AHeap), Q1y 21 (Q33 x7 x8 x9 x10 x11 a3 x12 c3) x_1 h'_1 x h' (decide (x < 0)) (Q31 x1 x2 x3 x4 x5 x6 x7 x8 x9 x10 x11 x12 x13 left) h' h (∃ (x_2 : Int) (h'_2 : AHeap), Q1y 31 (Q32 a4 x13 c4) x h' x_2 h'_2 (decide (x_2 < 0)) (Q31 x1 x2 x3 x4 x5 x6 x7 x8 x9 x10 x11 x12 x13 left) h'_2 h (Q1s x_2 (Q31 x1 x2 x3 x4 x5 x6 x7 x8 x9 x10 x11 x12 x13 left) h'_2 h))))) = _) ?_; delta Qf Qg Q1s Q1y Q22 Q2p Q2q Q31 Q32 Q33 Q34)
  have b1 := (Sh.sl voteSh).sz_le x5 left (by omega)
  refine ⟨_, _, szVoteS_spec h a1 _ c1 _ left h1 (by omega) ok.2.2.2.2.1, bs_d (fun e1 => by refine ⟨congrArg _ (Eq.symm ?_), rfl⟩; exact sz_step rfl hl.1 (sz_step rfl hl.1 (sz_step rfl hl.1 (sz_step rfl hl.1 (sz_stop e1))))) (fun e1 => ?_)⟩
  have b2 := (Sh.sl changeSh).sz_le x6 ((Sh.sl voteSh).sz x5 left) (by omega)
  refine ⟨_, _, szChangeS_spec h a2 _ c2 _ ((Sh.sl voteSh).sz x5 left) h2 (by omega) ok.2.2.2.2.2.1, bs_d (fun e2 => by refine ⟨congrArg _ (Eq.symm ?_), rfl⟩; exact sz_step rfl hl.1 (sz_step rfl hl.1 (sz_step rfl hl.1 (sz_step rfl hl.1 (sz_step rfl (Int.not_lt.1 e1) (sz_stop e2)))))) (fun e2 => ?_)⟩
  have b3 := saySh.sz_le (x7, x8, x9, x10, x11, x12) ((Sh.sl changeSh).sz x6 ((Sh.sl voteSh).sz x5 left)) (by omega)
  refine ⟨_, _, szSay_spec h (x7, x8, x9, x10, x11, x12) ((Sh.sl changeSh).sz x6 ((Sh.sl voteSh).sz x5 left)) _ h3 (by omega) ok.2.2.2.2.2.2.1, bs_d (fun e3 => by refine ⟨congrArg _ (Eq.symm ?_), rfl⟩; exact sz_step rfl hl.1 (sz_step rfl hl.1 (sz_step rfl hl.1 (sz_step rfl hl.1 (sz_step rfl (Int.not_lt.1 e1) (sz_step rfl (Int.not_lt.1 e2) (sz_stop e3))))))) (fun e3 => ?_)⟩
  have b4 := (Sh.sl Sh.str).sz_le x13 (saySh.sz (x7, x8, x9, x10, x11, x12) ((Sh.sl changeSh).sz x6 ((Sh.sl voteSh).sz x5 left))) (by omega)
  refine ⟨_, _, szStringS_spec h a4 _ c4 _ (saySh.sz (x7, x8, x9, x10, x11, x12) ((Sh.sl changeSh).sz x6 ((Sh.sl voteSh).sz x5 left))) h4 (by omega) ok.2.2.2.2.2.2.2, bs_d (fun e4 => by refine ⟨congrArg _ (Eq.symm ?_), rfl⟩; exact sz_step rfl hl.1 (sz_step rfl hl.1 (sz_step rfl hl.1 (sz_step rfl hl.1 (sz_step rfl (Int.not_lt.1 e1) (sz_step rfl (Int.not_lt.1 e2) (sz_step rfl (Int.not_lt.1 e3) (sz_neg (Int.not_lt.1 e3) e4)))))))) (fun e4 => ?_)⟩
  refine ⟨congrArg _ (Eq.symm ?_), rfl⟩
  exact sz_step rfl hl.1 (sz_step rfl hl.1 (sz_step rfl hl.1 (sz_step rfl hl.1 (sz_step rfl (Int.not_lt.1 e1) (sz_step rfl (Int.not_lt.1 e2) (sz_step rfl (Int.not_lt.1 e3) (rfl)))))))
def Q35 (a b : Int) (c : Bool) (d : Int) (e f : Value) (g h i j : Int) (k : ByteArray) (l m : Value) := Q22 [Qf a, Qf b, Value.bool c, Qf d, e, f, Qf g, Qf h, Qf i, Qf j, Value.string k, l, m]
theorem toReplica_spec (h : AHeap) (x : replicaSh.T) (v1 : Value) (v2 : Value) (v3 : Value) (v4 : Value) (h1 : Sl h voteSh x.2.2.2.2.1 v1) (h2 : Sl h changeSh x.2.2.2.2.2.1 v2) (h3 : Sl h changeSh x.2.2.2.2.2.2.1.2.2.2.2.2 v3) (h4 : Sl h Sh.str x.2.2.2.2.2.2.2 v4) (hw : h.wf) (ok : replicaSh.small x) :
    ∃ v h', ACall Tryz.prog 9 [.agg #[.int .i64 x.1, .int .i64 x.2.1, .bool x.2.2.1, .int .i64 x.2.2.2.1, v1, v2, .int .i64 x.2.2.2.2.2.2.1.1, .int .i64 x.2.2.2.2.2.2.1.2.1, .int .i64 x.2.2.2.2.2.2.1.2.2.1, .int .i64 x.2.2.2.2.2.2.1.2.2.2.1, .string x.2.2.2.2.2.2.1.2.2.2.2.1, v3, v4]] h v h' ∧ h.Le h' ∧ h'.wf ∧ ∃ w1 w2 w3 w4 ids, v = .agg #[.int .i64 x.1, .int .i64 x.2.1, .bool x.2.2.1, .int .i64 x.2.2.2.1, w1, w2, .int .i64 x.2.2.2.2.2.2.1.1, .int .i64 x.2.2.2.2.2.2.1.2.1, .int .i64 x.2.2.2.2.2.2.1.2.2.1, .int .i64 x.2.2.2.2.2.2.1.2.2.2.1, .string x.2.2.2.2.2.2.1.2.2.2.2.1, w3, w4] ∧ replicaSh.ro h' x [.int .i64 x.1, .int .i64 x.2.1, .bool x.2.2.1, .int .i64 x.2.2.2.1, w1, w2, .int .i64 x.2.2.2.2.2.2.1.1, .int .i64 x.2.2.2.2.2.2.1.2.1, .int .i64 x.2.2.2.2.2.2.1.2.2.1, .int .i64 x.2.2.2.2.2.2.1.2.2.2.1, .string x.2.2.2.2.2.2.1.2.2.2.2.1, w3, w4] ids ∧ Fresh h.n h'.n ids := by
  obtain ⟨x1, x2, x3, x4, x5, x6, ⟨x7, x8, x9, x10, x11, x12⟩, x13⟩ := x
  try dsimp only at *
  obtain ⟨a1, c1, rfl⟩ := h1.isSlice
  obtain ⟨a2, c2, rfl⟩ := h2.isSlice
  obtain ⟨a3, c3, rfl⟩ := h3.isSlice
  obtain ⟨a4, c4, rfl⟩ := h4.isSlice
  refine acall_q fun Q HQ => ?_
  refine acall_vc (fun _ => false) (fun _ => []) (fun _ => .none) mixed Tryz.func9 rfl rfl rfl (Nat.le_of_ble_eq_true rfl) (by (refine vc_mp (by kernel_rfl : (Q26 (Q26 (True ∧ True ∧ True ∧ True))) = _) ?_; delta Q26); simp only [and_self]) ?_
  (refine vc_mp (by kernel_rfl : (∃ (a : Option Addr) (n c : Nat) (h' : AHeap), Q27 36 [Q34 a1 x5 c1] h a n c h' (∃ (a_1 : Option Addr) (n_1 c_1 : Nat) (h'_1 : AHeap), Q27 37 [Q2q a2 x6 c2] h' a_1 n_1 c_1 h'_1 (∃ (x x_1 x_2 x_3 : Int) (x_4 : ByteArray) (a_2 : Option Addr) (n_2 c_2 : Nat) (h' : AHeap), ACall Tryz.prog 23 [Q33 x7 x8 x9 x10 x11 a3 x12 c3] h'_1 (Q22 (Q2r x x_1 x_2 x_3 x_4 a_2 n_2 c_2)) h' ∧ (∃ (a_3 : Option Addr) (n_3 c_3 : Nat) (h'_2 : AHeap), Q27 38 [Q32 a4 x13 c4] h' a_3 n_3 c_3 h'_2 (Q (Q35 x1 x2 x3 x4 (Value.slice a n c) (Value.slice a_1 n_1 c_1) x x_1 x_2 x_3 x_4 (Value.slice a_2 n_2 c_2) (Value.slice a_3 n_3 c_3)) h'_2))))) = _) ?_; delta Qf Q22 Q27 Q2q Q2r Q32 Q33 Q34 Q35)
  obtain ⟨u1, g1, A1, l1, W1, ids1, rfl, r1, f1⟩ := toVoteS_spec h a1 _ c1 _ hw h1 ok.2.2.2.2.1
  have L1 : h.Le g1 := l1
  obtain ⟨u2, g2, A2, l2, W2, ids2, rfl, r2, f2⟩ := toChangeS_spec g1 a2 _ c2 _ W1 (h2.mono L1) ok.2.2.2.2.2.1
  have L2 : h.Le g2 := L1.trans l2
  obtain ⟨u3, g3, A3, l3, W3, y3_0, ids3, rfl, r3, f3⟩ := toSay_spec g2 (x7, x8, x9, x10, x11, x12) _ (h3.mono L2) W2 ok.2.2.2.2.2.2.1
  obtain ⟨z3_0, ez3, q3_0⟩ := rd_say.1 r3.rd
  cases ez3
  obtain ⟨b3_0, d3_0, rfl⟩ := q3_0.isSlice
  have L3 : h.Le g3 := L2.trans l3
  obtain ⟨u4, g4, A4, l4, W4, ids4, rfl, r4, f4⟩ := toStringS_spec g3 a4 _ c4 _ W3 (h4.mono L3) ok.2.2.2.2.2.2.2
  have L4 : h.Le g4 := L3.trans l4
  refine ⟨_, _, _, _, A1, _, _, _, _, A2, _, _, _, _, _, _, _, _, _, A3, _, _, _, _, A4, HQ _ _ ⟨L4, W4, _, _, _, _, [] ++ ([] ++ ([] ++ ([] ++ (ids1 ++ (ids2 ++ (ids3 ++ (ids4))))))), rfl, ?_, ?_⟩⟩
  · exact ⟨[_], _, [], _, rfl, rfl, ⟨rfl, rfl⟩, [_], _, [], _, rfl, rfl, ⟨rfl, rfl⟩, [_], _, [], _, rfl, rfl, ⟨rfl, rfl⟩, [_], _, [], _, rfl, rfl, ⟨rfl, rfl⟩, [_], _, ids1, _, rfl, rfl, ro_sl.2 ⟨_, rfl, r1.le ((l2.trans l3).trans l4)⟩, [_], _, ids2, _, rfl, rfl, ro_sl.2 ⟨_, rfl, r2.le (l3.trans l4)⟩, [_, _, _, _, _, _], _, ids3, _, rfl, rfl, r3.le l4, ro_sl.2 ⟨_, rfl, r4⟩⟩
  · exact (show Fresh h.n g4.n (ids1 ++ (ids2 ++ (ids3 ++ (ids4)))) from .append l1.n ((l2.trans l3).trans l4).n f1 (.append l2.n (l3.trans l4).n f2 (.append l3.n l4.n f3 (f4))))
def Q36 (a b : Sh.T Sh.int) (c : Sh.T Sh.bool) (d : Sh.T Sh.int) (e : Sh.T (Sh.sl voteSh)) (f : Sh.T (Sh.sl changeSh)) (g h i j : Sh.T Sh.int) (k : Sh.T Sh.str) (l : Sh.T (Sh.sl changeSh)) (m : Sh.T (Sh.sl Sh.str)) := Prod.mk a (Prod.mk b (Prod.mk c (Prod.mk d (Prod.mk e (Prod.mk f (Prod.mk (Q2s g h i j k l) m))))))
theorem eqReplica_spec (h : AHeap) (x y : replicaSh.T) (v1 : Value) (v2 : Value) (v3 : Value) (v4 : Value) (h1 : Sl h voteSh x.2.2.2.2.1 v1) (h2 : Sl h changeSh x.2.2.2.2.2.1 v2) (h3 : Sl h changeSh x.2.2.2.2.2.2.1.2.2.2.2.2 v3) (h4 : Sl h Sh.str x.2.2.2.2.2.2.2 v4) (w1 : Value) (w2 : Value) (w3 : Value) (w4 : Value) (j1 : Sl h voteSh y.2.2.2.2.1 w1) (j2 : Sl h changeSh y.2.2.2.2.2.1 w2) (j3 : Sl h changeSh y.2.2.2.2.2.2.1.2.2.2.2.2 w3) (j4 : Sl h Sh.str y.2.2.2.2.2.2.2 w4) (ok : replicaSh.ok x) :
    ACall Tryz.prog 12 [.agg #[.int .i64 x.1, .int .i64 x.2.1, .bool x.2.2.1, .int .i64 x.2.2.2.1, v1, v2, .int .i64 x.2.2.2.2.2.2.1.1, .int .i64 x.2.2.2.2.2.2.1.2.1, .int .i64 x.2.2.2.2.2.2.1.2.2.1, .int .i64 x.2.2.2.2.2.2.1.2.2.2.1, .string x.2.2.2.2.2.2.1.2.2.2.2.1, v3, v4], .agg #[.int .i64 y.1, .int .i64 y.2.1, .bool y.2.2.1, .int .i64 y.2.2.2.1, w1, w2, .int .i64 y.2.2.2.2.2.2.1.1, .int .i64 y.2.2.2.2.2.2.1.2.1, .int .i64 y.2.2.2.2.2.2.1.2.2.1, .int .i64 y.2.2.2.2.2.2.1.2.2.2.1, .string y.2.2.2.2.2.2.1.2.2.2.2.1, w3, w4]] h (.bool (eqb x y)) h := by
  obtain ⟨x1, x2, x3, x4, x5, x6, ⟨x7, x8, x9, x10, x11, x12⟩, x13⟩ := x
  obtain ⟨y1, y2, y3, y4, y5, y6, ⟨y7, y8, y9, y10, y11, y12⟩, y13⟩ := y
  try dsimp only at *
  obtain ⟨a1, c1, rfl⟩ := h1.isSlice
  obtain ⟨a2, c2, rfl⟩ := h2.isSlice
  obtain ⟨a3, c3, rfl⟩ := h3.isSlice
  obtain ⟨a4, c4, rfl⟩ := h4.isSlice
  obtain ⟨ab1, cb1, rfl⟩ := j1.isSlice
  obtain ⟨ab2, cb2, rfl⟩ := j2.isSlice
  obtain ⟨ab3, cb3, rfl⟩ := j3.isSlice
  obtain ⟨ab4, cb4, rfl⟩ := j4.isSlice
  refine acall_out (acall_vc (fun _ => false) (fun _ => []) (fun _ => .none) mixed Tryz.func12 rfl rfl rfl (Nat.le_of_ble_eq_true rfl) (by (refine vc_mp (by kernel_rfl : (Q2c (Qe ∧ Qe ∧ Qe ∧ Qe ∧ Q1x)) = _) ?_; delta Qe Q1x Q2c); simp only [and_self]) ?_)
  (refine vc_mp (by kernel_rfl : (Q1c (decide (x1 = y1)) (eqb (Q36 x1 x2 x3 x4 x5 x6 x7 x8 x9 x10 x11 x12 x13) (Q36 y1 y2 y3 y4 y5 y6 y7 y8 y9 y10 y11 y12 y13)) h h (Q1c (decide (x2 = y2)) (eqb (Q36 x1 x2 x3 x4 x5 x6 x7 x8 x9 x10 x11 x12 x13) (Q36 y1 y2 y3 y4 y5 y6 y7 y8 y9 y10 y11 y12 y13)) h h (Q1c (decide (x3 = y3)) (eqb (Q36 x1 x2 x3 x4 x5 x6 x7 x8 x9 x10 x11 x12 x13) (Q36 y1 y2 y3 y4 y5 y6 y7 y8 y9 y10 y11 y12 y13)) h h (Q1c (decide (x4 = y4)) (eqb (Q36 x1 x2 x3 x4 x5 x6 x7 x8 x9 x10 x11 x12 x13) (Q36 y1 y2 y3 y4 y5 y6 y7 y8 y9 y10 y11 y12 y13)) h h (∃ (x : Bool) (h' : AHeap), Q2d 41 (Q34 a1 x5 c1) (Q34 ab1 y5 cb1) h x h' x (eqb (Q36 x1 x2 x3 x4 x5 x6 x7 x8 x9 x10 x11 x12 x13) (Q36 y1 y2 y3 y4 y5 y6 y7 y8 y9 y10 y11 y12 y13)) h' h (∃ (x : Bool) (h'_1 : AHeap), Q2d 42 (Q2q a2 x6 c2) (Q2q ab2 y6 cb2) h' x h'_1 x (eqb (Q36 x1 x2 x3 x4 x5 x6 x7 x8 x9 x10 x11 x12 x13) (Q36 y1 y2 y3 y4 y5 y6 y7 y8 y9 y10 y11 y12 y13)) h'_1 h (∃ (x : Bool) (h' : AHeap), Q2d 25 (Q33 x7 x8 x9 x10 x11 a3 x12 c3) (Q33 y7 y8 y9 y10 y11 ab3 y12 cb3) h'_1 x h' x (eqb (Q36 x1 x2 x3 x4 x5 x6 x7 x8 x9 x10 x11 x12 x13) (Q36 y1 y2 y3 y4 y5 y6 y7 y8 y9 y10 y11 y12 y13)) h' h (∃ (x : Bool) (h'_2 : AHeap), Q2d 43 (Q32 a4 x13 c4) (Q32 ab4 y13 cb4) h' x h'_2 x (eqb (Q36 x1 x2 x3 x4 x5 x6 x7 x8 x9 x10 x11 x12 x13) (Q36 y1 y2 y3 y4 y5 y6 y7 y8 y9 y10 y11 y12 y13)) h'_2 h (Q1g (eqb (Q36 x1 x2 x3 x4 x5 x6 x7 x8 x9 x10 x11 x12 x13) (Q36 y1 y2 y3 y4 y5 y6 y7 y8 y9 y10 y11 y12 y13)) h'_2 h))))))))) = _) ?_; delta Qf Q1c Q1g Q22 Q2d Q2q Q2s Q32 Q33 Q34 Q36)
  refine bs_dn (fun e => ⟨congrArg _ (eqb_false fun e' => e (by cases e'; rfl)), rfl⟩) (fun e1 => ?_)
  refine bs_dn (fun e => ⟨congrArg _ (eqb_false fun e' => e (by cases e'; rfl)), rfl⟩) (fun e2 => ?_)
  refine bs_dn (fun e => ⟨congrArg _ (eqb_false fun e' => e (by cases e'; rfl)), rfl⟩) (fun e3 => ?_)
  refine bs_dn (fun e => ⟨congrArg _ (eqb_false fun e' => e (by cases e'; rfl)), rfl⟩) (fun e4 => ?_)
  refine ⟨_, _, eqVoteS_spec h a1 _ c1 ab1 _ cb1 _ _ h1 j1 ok.2.2.2.2.1.1, bs_nb (fun e => ⟨congrArg _ (eqb_false fun e' => of_eqb_false e (by cases e'; rfl)), rfl⟩) (fun e5 => ?_)⟩
  refine ⟨_, _, eqChangeS_spec h a2 _ c2 ab2 _ cb2 _ _ h2 j2 ok.2.2.2.2.2.1, bs_nb (fun e => ⟨congrArg _ (eqb_false fun e' => of_eqb_false e (by cases e'; rfl)), rfl⟩) (fun e6 => ?_)⟩
  refine ⟨_, _, eqSay_spec h (x7, x8, x9, x10, x11, x12) (y7, y8, y9, y10, y11, y12) _ h3 _ j3 ok.2.2.2.2.2.2.1, bs_nb (fun e => ⟨congrArg _ (eqb_false fun e' => of_eqb_false e (by cases e'; rfl)), rfl⟩) (fun e7 => ?_)⟩
  refine ⟨_, _, eqStringS_spec h a4 _ c4 ab4 _ cb4 _ _ h4 j4 ok.2.2.2.2.2.2.2.1, bs_nb (fun e => ⟨congrArg _ (eqb_false fun e' => of_eqb_false e (by cases e'; rfl)), rfl⟩) (fun e8 => ?_)⟩
  exact ⟨congrArg _ (eqb_true (Prod.ext e1 (Prod.ext e2 (Prod.ext e3 (Prod.ext e4 (Prod.ext (of_eqb e5) (Prod.ext (of_eqb e6) (Prod.ext (of_eqb e7) (of_eqb e8))))))))), rfl⟩
def Q37 (a b : Sh.T Sh.int) (c : Sh.T Sh.bool) (d : Sh.T Sh.int) (e : Sh.T (Sh.sl voteSh)) (f : Sh.T (Sh.sl changeSh)) (g h i j : Sh.T Sh.int) (k : Sh.T Sh.str) (l : Sh.T (Sh.sl changeSh)) (m : Sh.T (Sh.sl Sh.str)) (n : Sh.T (Sh.sl saySh)) (o : Sh.T Sh.int) := Prod.mk (Q36 a b c d e f g h i j k l m) (Prod.mk n o)
theorem eqReplicaOut_spec (h : AHeap) (x y : replicaOutSh.T) (v1 : Value) (v2 : Value) (v3 : Value) (v4 : Value) (v5 : Value) (h1 : Sl h voteSh x.1.2.2.2.2.1 v1) (h2 : Sl h changeSh x.1.2.2.2.2.2.1 v2) (h3 : Sl h changeSh x.1.2.2.2.2.2.2.1.2.2.2.2.2 v3) (h4 : Sl h Sh.str x.1.2.2.2.2.2.2.2 v4) (h5 : Sl h saySh x.2.1 v5) (w1 : Value) (w2 : Value) (w3 : Value) (w4 : Value) (w5 : Value) (j1 : Sl h voteSh y.1.2.2.2.2.1 w1) (j2 : Sl h changeSh y.1.2.2.2.2.2.1 w2) (j3 : Sl h changeSh y.1.2.2.2.2.2.2.1.2.2.2.2.2 w3) (j4 : Sl h Sh.str y.1.2.2.2.2.2.2.2 w4) (j5 : Sl h saySh y.2.1 w5) (ok : replicaOutSh.ok x) :
    ACall Tryz.prog 18 [.agg #[.int .i64 x.1.1, .int .i64 x.1.2.1, .bool x.1.2.2.1, .int .i64 x.1.2.2.2.1, v1, v2, .int .i64 x.1.2.2.2.2.2.2.1.1, .int .i64 x.1.2.2.2.2.2.2.1.2.1, .int .i64 x.1.2.2.2.2.2.2.1.2.2.1, .int .i64 x.1.2.2.2.2.2.2.1.2.2.2.1, .string x.1.2.2.2.2.2.2.1.2.2.2.2.1, v3, v4, v5, .int .i64 x.2.2], .agg #[.int .i64 y.1.1, .int .i64 y.1.2.1, .bool y.1.2.2.1, .int .i64 y.1.2.2.2.1, w1, w2, .int .i64 y.1.2.2.2.2.2.2.1.1, .int .i64 y.1.2.2.2.2.2.2.1.2.1, .int .i64 y.1.2.2.2.2.2.2.1.2.2.1, .int .i64 y.1.2.2.2.2.2.2.1.2.2.2.1, .string y.1.2.2.2.2.2.2.1.2.2.2.2.1, w3, w4, w5, .int .i64 y.2.2]] h (.bool (eqb x y)) h := by
  obtain ⟨⟨x1, x2, x3, x4, x5, x6, ⟨x7, x8, x9, x10, x11, x12⟩, x13⟩, x14, x15⟩ := x
  obtain ⟨⟨y1, y2, y3, y4, y5, y6, ⟨y7, y8, y9, y10, y11, y12⟩, y13⟩, y14, y15⟩ := y
  try dsimp only at *
  obtain ⟨a1, c1, rfl⟩ := h1.isSlice
  obtain ⟨a2, c2, rfl⟩ := h2.isSlice
  obtain ⟨a3, c3, rfl⟩ := h3.isSlice
  obtain ⟨a4, c4, rfl⟩ := h4.isSlice
  obtain ⟨a5, c5, rfl⟩ := h5.isSlice
  obtain ⟨ab1, cb1, rfl⟩ := j1.isSlice
  obtain ⟨ab2, cb2, rfl⟩ := j2.isSlice
  obtain ⟨ab3, cb3, rfl⟩ := j3.isSlice
  obtain ⟨ab4, cb4, rfl⟩ := j4.isSlice
  obtain ⟨ab5, cb5, rfl⟩ := j5.isSlice
  refine acall_out (acall_vc (fun _ => false) (fun _ => []) (fun _ => .none) mixed Tryz.func18 rfl rfl rfl (Nat.le_of_ble_eq_true rfl) (by (refine vc_mp (by kernel_rfl : (Q2c (True ∧ True)) = _) ?_; delta Qe Q2c); simp only [and_self]) ?_)
  (refine vc_mp (by kernel_rfl : (∃ (x : Bool) (h' : AHeap), Q2d 12 (Q35 x1 x2 x3 x4 (Q34 a1 x5 c1) (Q2q a2 x6 c2) x7 x8 x9 x10 x11 (Q2q a3 x12 c3) (Q32 a4 x13 c4)) (Q35 y1 y2 y3 y4 (Q34 ab1 y5 cb1) (Q2q ab2 y6 cb2) y7 y8 y9 y10 y11 (Q2q ab3 y12 cb3) (Q32 ab4 y13 cb4)) h x h' x (eqb (Q37 x1 x2 x3 x4 x5 x6 x7 x8 x9 x10 x11 x12 x13 x14 x15) (Q37 y1 y2 y3 y4 y5 y6 y7 y8 y9 y10 y11 y12 y13 y14 y15)) h' h (∃ (x : Bool) (h'_1 : AHeap), ACall Tryz.prog 11 [Value.slice a5 (List.length x14) c5, Value.slice ab5 (List.length y14) cb5] h' (Value.bool x) h'_1 ∧ Q1c x (eqb (Q37 x1 x2 x3 x4 x5 x6 x7 x8 x9 x10 x11 x12 x13 x14 x15) (Q37 y1 y2 y3 y4 y5 y6 y7 y8 y9 y10 y11 y12 y13 y14 y15)) h'_1 h (Q1c (decide (x15 = y15)) (eqb (Q37 x1 x2 x3 x4 x5 x6 x7 x8 x9 x10 x11 x12 x13 x14 x15) (Q37 y1 y2 y3 y4 y5 y6 y7 y8 y9 y10 y11 y12 y13 y14 y15)) h'_1 h (Q1g (eqb (Q37 x1 x2 x3 x4 x5 x6 x7 x8 x9 x10 x11 x12 x13 x14 x15) (Q37 y1 y2 y3 y4 y5 y6 y7 y8 y9 y10 y11 y12 y13 y14 y15)) h'_1 h)))) = _) ?_; delta Qf Q1c Q1g Q22 Q2d Q2q Q2s Q32 Q34 Q35 Q36 Q37)
  refine ⟨_, _, eqReplica_spec h (x1, x2, x3, x4, x5, x6, (x7, x8, x9, x10, x11, x12), x13) (y1, y2, y3, y4, y5, y6, (y7, y8, y9, y10, y11, y12), y13) _ _ _ _ h1 h2 h3 h4 _ _ _ _ j1 j2 j3 j4 ok.1, bs_nb (fun e => ⟨congrArg _ (eqb_false fun e' => of_eqb_false e (by cases e'; rfl)), rfl⟩) (fun e1 => ?_)⟩
  refine ⟨_, _, eqSayS_spec h a5 _ c5 ab5 _ cb5 _ _ h5 j5 ok.2.1, bs_nb (fun e => ⟨congrArg _ (eqb_false fun e' => of_eqb_false e (by cases e'; rfl)), rfl⟩) (fun e2 => ?_)⟩
  refine bs_dn (fun e => ⟨congrArg _ (eqb_false fun e' => e (by cases e'; rfl)), rfl⟩) (fun e3 => ?_)
  exact ⟨congrArg _ (eqb_true (Prod.ext (of_eqb e1) (Prod.ext (of_eqb e2) e3))), rfl⟩
end Go.Proofs.YtpgfjadjhliohaaGreat
