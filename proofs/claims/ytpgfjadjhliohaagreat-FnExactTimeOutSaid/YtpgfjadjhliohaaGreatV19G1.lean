/- G1. -/
import Derived.Test.YtpgfjadjhliohaaGreatV19C3
namespace Go.Proofs.YtpgfjadjhliohaaGreat
open Go.Abs Go.Dat
set_option maxRecDepth 100000
set_option maxHeartbeats 4000000
abbrev Q3c := AHeap
abbrev Q3d := Nat × AHeap × List (List Value) × List (List Nat)
abbrev Q3e := AHeap × List (List Value) × List (List Nat)
abbrev Q3f := List Value
abbrev Q3g := List (Sh.T Sh.int)
abbrev Q3h := Option Addr
abbrev Q3i := Nat × Int
abbrev Q3j := List (Sh.T Sh.str)
abbrev Q3k := ByteArray
abbrev Q3l := List (Sh.T proofSh)
abbrev Q3m := Sh.T Sh.int
abbrev Q3n := Sh.T Sh.str
abbrev Q3o := List (Sh.T changeSh)
abbrev Q3p := Sh.T (Sh.sl changeSh)
abbrev Q3q := List (Sh.T voteSh)
def Qg (a b : Prop) := True ∧ a ∧ b ∧ True ∧ True
def Qh := True ∧ (True ∧ True) ∧ True
def Qi (a : Int) := Value.int IntKind.i64 a
def Qj (a b : Int) := Qi a = Qi b
def Qk (a : Bool) (b : Int) (c d : Q3c) (e : Prop) := bs a (Qj (-1) b ∧ c = d) e
def Ql (a : Int) (b : Nat) := a - (↑b : Int)
def Qm (a : Int) := IntKind.wrap IntKind.i64 a
theorem szInt64S_spec (h : AHeap) (a : Option Addr) (n c : Nat) (xs : List Sh.int.T) (left : Int) (hx : Sl h Sh.int xs (.slice a n c)) (hl : 0 ≤ left ∧ left ≤ 1048576) (ok : (Sh.sl Sh.int).ok xs) :
    ACall Tryz.prog 168 [.slice a n c, .int .i64 left] h (.int .i64 ((Sh.sl Sh.int).sz xs left)) h := by
  have en := hx.len
  have ok1 : xs.length ≤ 9223372036854775807 := ok.1
  have key : (Sh.sl Sh.int).sz xs left = (if left - (xs.length : Int) < 0 then -1 else szL Sh.int.sz xs (left - (xs.length : Int))) := rfl
  rw [key, en]
  refine acall_out (acall_vc (fun _ => false) (fun _ => []) (fun _ => .none) mixed Tryz.func168 rfl rfl rfl (Nat.le_of_ble_eq_true rfl) (by (refine vc_mp (by kernel_rfl : (Qg True Qh) = _) ?_; delta Qg Qh); simp only [and_self]) ?_)
  (refine vc_mp (by kernel_rfl : (Qk (decide (Qm (Ql left n) < 0)) (ite (Ql left n < 0) (-1) (szL (Sh.sz Sh.int) xs (Ql left n))) h h (Qj (Qm (Ql left n)) (ite (Ql left n < 0) (-1) (szL (Sh.sz Sh.int) xs (Ql left n))) ∧ h = h)) = _) ?_; delta Qi Qj Qk Ql Qm)
  rw [wrap_i64 (by omega)]
  refine bs_d (fun e => ?_) (fun e => ?_)
  · rw [if_pos e]; exact ⟨rfl, rfl⟩
  · rw [if_neg e, szL_int _ _ (by omega)]; exact ⟨rfl, rfl⟩
def Qn (a : Prop) := Qg True (Qg a (True ∧ True ∧ True))
def Qo (a : Q3d) := Prod.fst (Prod.snd a)
def Qp (a : Q3c) (b : Option Nat) (c : Nat) := Value.slice (some (Addr.mk (AHeap.n a) 0 b)) c (c + 1)
def Qq (a : Q3c) (b : Sh) (c : Nat) := Qp a (some (Sh.cells b)) c = Qp a (some (Sh.cells b)) c
def Qr (a : Q3c) (b : Sh) (c : Nat) (d : Q3e) (e : Q3d) (f : Prop) := Qq a b c ∧ Prod.fst d = Qo e ∧ f
def Qs (a : Q3e) := Prod.snd (Prod.snd a)
def Qt (a : Q3e) := Prod.fst (Prod.snd a)
def Qu (a : Q3f) (b : Nat) (c : Q3c) (d : Q3g) (e : Q3e) := ToI Sh.int a b c d b (Prod.fst e) (Qt e) (Qs e)
def Qv := Qi 0
def Qw (a : Q3d) := (↑(Prod.fst a) : Int)
def Qx (a : Prop) (b : Q3d) (c : Nat) (d : Prop) := a ∧ 0 ≤ Qw b ∧ Qw b < (↑c : Int) ∧ d
def Qy (a : Q3d) (b c d : Nat) (e : Q3f) (f : Prop) := AHeap.ld (Qo a) b (c + Int.toNat (Qw a)) 0 d = some e ∧ f
def Qz (a : Q3c) (b c : Nat) (d : Q3d) (e : Q3f) (f : Q3c) (g : Prop) := AHeap.wr a b (c + Int.toNat (Qw d)) 0 e = some f ∧ g
def Q10 (a : Q3h) (b c : Nat) := Value.slice a b c = Value.slice a b c
def Q11 (a : Q3h) (b c : Nat) (d : Prop) (e f : Q3d) (g : Q3c) (h i j : Prop) := Q10 a b c ∧ d ∧ Qj (Qm (Qw e + 1)) (Qw f) ∧ Qo f = g ∧ h ∧ b - Prod.fst f < b - Prod.fst e ∧ i ∧ j
def Q12 (a : Q3f) (b : Nat) (c : Q3c) (d : Q3g) (e : Q3d) := ToI Sh.int a b c d (Prod.fst e) (Qo e) (Qt (Prod.snd e)) (Qs (Prod.snd e))
def Q13 (a : Q3h) (b c : Nat) := a = some (Addr.mk b c (some 1))
def Q14 (a : Q3c) (b : Sh) := some (Addr.mk (AHeap.n a) 0 (some (Sh.cells b)))
def Q15 (a b : Nat) (c : Prop) := 0 ≤ (↑a : Int) ∧ (↑a : Int) ≤ (↑a : Int) ∧ (↑a : Int) * (↑b : Int) ≤ 140737488355328 ∧ c
def Q16 (a : Nat) := Int.toNat (↑a : Int)
def Q17 (a : Q3h) (b c : Nat) (d : Value) (e : Q3c) (f : Sh) (g : Q3d) (h : Q3f) (i : Nat) (j k l : Prop) := Q10 a b c ∧ d = Qp e (some (Sh.cells f)) b ∧ Qv = Qi (Qw g) ∧ Qo g = AHeap.push e (AObj.mk (List.replicate (Q16 b) h) i true) ∧ j ∧ k ∧ l
def Q18 (a b : Q3c) (c : Prop) := False → AHeap.Le a b ∧ AHeap.wf b ∧ c
def Q19 (a b : Prop) (c d : Q3c) (e : List Nat) := a ∧ b ∧ Fresh (AHeap.n c) (AHeap.n d) e
def Q1a (a : Q3c) (b : Nat) := Qp a (some 1) b
def Q1b (a : Prop) (b : Q3c) (c : Q3e) (d : Prop) := a → AHeap.Le b (Prod.fst c) ∧ AHeap.wf (Prod.fst c) ∧ d
def Q1c (a : Q3c) (b : Sh) (c : Nat) (d : Value) (e : Prop) (f : Q3e) (g : List Nat) := Q19 (Qp a (some (Sh.cells b)) c = d) e a (Prod.fst f) g
def Q1d := Qi (Int.ofNat 0)
theorem toInt64S_spec (h : AHeap) (a : Option Addr) (n c : Nat) (xs : List (Sh.T Sh.int)) (hw : h.wf) (hx : Sl h Sh.int xs (.slice a n c)) (ok : (Sh.sl Sh.int).small xs) :
    ∃ v h', ACall Tryz.prog 169 [.slice a n c] h v h' ∧ h.Le h' ∧ h'.wf ∧ ∃ ids, v = .slice (some ⟨h.n, 0, some 1⟩) n (n + 1) ∧ So h' Sh.int xs (.slice (some ⟨h.n, 0, some 1⟩) n (n + 1)) ids ∧ Fresh h.n h'.n ids := by
  have en := hx.len
  have ok1 : xs.length ≤ 1048576 := ok.1
  refine acall_vc (fun _ => false) (fun _ => []) (fun _ => toL Sh.int [.int .i64 0] a n c h xs) mixed Tryz.func169 rfl rfl rfl (Nat.le_of_ble_eq_true rfl) ?_ ?_
  · (refine vc_mp (by kernel_rfl : (Qn (∀ (i : Nat × AHeap × List (List Value) × List (List Nat)), Q12 [Qv] n h xs i → bs (decide (Qw i < (↑n : Int))) (∃ (l r : Nat), Qx (Q13 a l r) i n (∃ (x : Int), Qy i l r 1 [Qi x] (∃ (l r : Nat), Qx (Q13 (Q14 h Sh.int) l r) i n (∃ (h' : AHeap), Qz (Qo i) l r i [Qi x] h' (∃ (j : Nat × AHeap × List (List Value) × List (List Nat)), Q11 a n c (Qq h Sh.int n) i j h' (Q12 [Qv] n h xs j) (∀ (k : AHeap × List (List Value) × List (List Nat)), Qu [Qv] n h xs k → Qu [Qv] n h xs k) (∀ (v : Value) (h : AHeap), False → False)))))) (∃ (j : AHeap × List (List Value) × List (List Nat)), Qr h Sh.int n j i (Qu [Qv] n h xs j)))) = _) ?_; delta Qg Qi Qj Qm Qn Qo Qp Qq Qr Qs Qt Qu Qv Qw Qx Qy Qz Q10 Q11 Q12 Q13 Q14)
    simp only [true_and, and_true]
    rintro ⟨i, h1, rows, idss⟩ I
    dsimp only at *
    refine bs_d (fun hlt => ?_) (fun hge => ?_)
    · have hio : i < xs.length := by omega
      obtain ⟨l, r, row, ha, _, hrd, hld⟩ := (hx.mono I.le).elem (List.getElem?_eq_getElem hio)
      obtain rfl : row = [.int .i64 xs[i]] := hrd
      obtain ⟨h3, e3, I3⟩ := I.step (cs := [.int .i64 xs[i]]) (ids := []) (by omega) (List.getElem?_eq_getElem hio) (.refl _) I.wf ⟨rfl, rfl⟩ .nil
      refine ⟨l, r, ha, Int.natCast_nonneg _, hlt, _, hld, h.n, 0, rfl, Int.natCast_nonneg _, hlt, h3, e3, (i + 1, h3, _, _), by rw [wrap_i64 (by omega)] <;> rfl, rfl, I3, by dsimp only; omega, fun _ h => h, fun _ _ h => h⟩
    · have hi := I.hi
      have e : i = n := by omega
      subst e
      exact ⟨(h1, rows, idss), rfl, I⟩
  · (refine vc_mp (by kernel_rfl : (Q15 n 8 (∃ (i : Nat × AHeap × List (List Value) × List (List Nat)), Q17 a n c (Q1a h (Q16 n)) h Sh.int i [Q1d] 1 (Q12 [Qv] n h xs i) (∀ (j : AHeap × List (List Value) × List (List Nat)), Q1b (Qu [Qv] n h xs j) h j (∃ (ids : List Nat), Q1c h Sh.int n (Q1a h n) (So (Prod.fst j) Sh.int xs (Q1a h n) ids) j ids)) (∀ (v : Value) (h_1 : AHeap), Q18 h h_1 (∃ (ids : List Nat), Q19 (v = Q1a h n) (So h_1 Sh.int xs (Q1a h n) ids) h h_1 ids)))) = _) ?_; delta Qi Qo Qp Qs Qt Qu Qv Qw Q10 Q12 Q15 Q16 Q17 Q18 Q19 Q1a Q1b Q1c Q1d)
    refine ⟨Int.natCast_nonneg _, Int.le_refl _, by omega, (0, _, _, _), rfl, rfl, rfl, rfl, ToI.start hw rfl, ?_, fun _ _ h => h.elim⟩
    rintro ⟨h1, rows, idss⟩ I
    obtain ⟨ids, h2, h3⟩ := ToI.finish I en (n + 1)
    exact ⟨I.le, I.wf, ids, rfl, h2, h3⟩
def Q1e (a : Prop) := Qg Qh (True ∧ a ∧ (True ∧ True ∧ True) ∧ Qh ∧ True)
def Q1f (a : Prop) (b c : Nat) (d : Prop) := a ∧ 0 ≤ (↑b : Int) ∧ (↑b : Int) < (↑c : Int) ∧ d
def Q1g (a : Q3c) (b c d e : Nat) (f : Q3f) (g : Prop) := AHeap.ld a b (c + Q16 d) 0 e = some f ∧ g
def Q1h (a b : Bool) (c d : Q3c) (e : Prop) := bs (not a) (Value.bool false = Value.bool b ∧ c = d) e
def Q1i (a : Q3h) (b c : Nat) (d : Q3h) (e f g h : Nat) (i j : Q3c) (k : Prop) (l : Nat) (m n : Prop) := Q10 a b c ∧ Q10 d e f ∧ Qj (Qm ((↑g : Int) + 1)) (↑h : Int) ∧ i = j ∧ k ∧ l - h < l - g ∧ m ∧ n
def Q1j (a : Value) (b : Bool) (c d : Q3c) := a = Value.bool b ∧ c = d → a = Value.bool b ∧ c = d
def Q1k (a : Q3h) (b c : Nat) (d : Q3h) (e f g : Nat) (h : Q3c) (i j k : Prop) := Q10 a b c ∧ Q10 d e f ∧ Qv = Qi (↑g : Int) ∧ h = h ∧ i ∧ j ∧ k
def Q1l (a : Bool) (b c : Q3c) := Value.bool true = Value.bool a ∧ b = c
theorem eqInt64S_spec (h : AHeap) (a : Option Addr) (n c : Nat) (a' : Option Addr) (n' c' : Nat) (xs ys : List (Sh.T Sh.int)) (hx : Sl h Sh.int xs (.slice a n c)) (hy : Sl h Sh.int ys (.slice a' n' c')) (hn : xs.length ≤ 9223372036854775807) :
    ACall Tryz.prog 170 [.slice a n c, .slice a' n' c'] h (.bool (eqb xs ys)) h := by
  have en := hx.len
  have en' := hy.len
  refine acall_out (acall_vc (fun _ => false) (fun _ => [(0, 0, []), (1, 0, []), (2, 0, []), (4, 0, []), (5, 0, []), (6, 0, []), (3, 1, []), (7, 1, []), (8, 0, [])]) (fun _ => eqLp h a n c a' n' c' xs ys) mixed Tryz.func170 rfl rfl rfl (Nat.le_of_ble_eq_true rfl) ?_ ?_)
  · (refine vc_mp (by kernel_rfl : (Q1e (∀ (i : Nat), EqI xs ys i → bs (decide ((↑i : Int) < (↑n : Int))) (∃ (l r : Nat), Q1f (Q13 a l r) i n (∃ (l_1 r_1 : Nat), Q1f (Q13 a' l_1 r_1) i n' (∃ (x : Int), Q1g h l r i 1 [Qi x] (∃ (x_1 : Int), Q1g h l_1 r_1 i 1 [Qi x_1] (Q1h (decide (x = x_1)) (eqb xs ys) h h (∃ (j : Nat), Q1i a n c a' n' c' i j h h (EqI xs ys j) (List.length xs) (∀ (k : Unit), xs = ys → xs = ys) (∀ (v : Value) (h_1 : AHeap), Q1j v (eqb xs ys) h_1 h))))))) (∃ (j : Unit), h = h ∧ xs = ys))) = _) ?_; delta Qg Qh Qi Qj Qm Q10 Q13 Q16 Q1e Q1f Q1g Q1h Q1i Q1j)
    simp only [true_and, and_true]
    rintro (i : Nat) I
    have hl := I.len
    have hi := I.hi
    refine bs_d (fun hlt => ?_) (fun hge => ?_)
    · have hxi : i < xs.length := by omega
      have hyi : i < ys.length := by omega
      obtain ⟨l, r, row, ha, hin, hrd, hld⟩ := hx.elem (List.getElem?_eq_getElem hxi)
      obtain ⟨l', r', row', ha', hin', hrd', hld'⟩ := hy.elem (List.getElem?_eq_getElem hyi)
      obtain rfl : row = [.int .i64 xs[i]] := hrd
      obtain rfl : row' = [.int .i64 ys[i]] := hrd'
      refine ⟨l, r, ha, Int.natCast_nonneg _, hlt, l', r', ha', Int.natCast_nonneg _, by omega, _, hld, _, hld', bs_dn (fun hb => ?_) (fun hb => ?_)⟩
      · exact congrArg _ (eqb_false fun e => hb (by subst e; rfl))
      · exact ⟨i + 1, by rw [wrap_i64 (by omega)] <;> rfl, I.step hxi hyi hb, by omega, fun _ h => h, fun _ _ h => h⟩
    · have e : i = xs.length := by omega
      subst e
      exact ⟨(), I.all⟩
  · (refine vc_mp (by kernel_rfl : (Q1h (decide ((↑n : Int) = (↑n' : Int))) (eqb xs ys) h h (∃ (i : Nat), Q1k a n c a' n' c' i h (EqI xs ys i) (∀ (j : Unit), xs = ys → Q1l (eqb xs ys) h h) (∀ (v : Value) (h_1 : AHeap), Q1j v (eqb xs ys) h_1 h))) = _) ?_; delta Qi Qv Q10 Q1h Q1j Q1k Q1l)
    refine bs_dn (fun hne => ⟨congrArg _ (eqb_false fun e => hne (by rw [← en, ← en', e])), rfl⟩) (fun he => ?_)
    exact ⟨(0 : Nat), rfl, rfl, rfl, rfl, ⟨by omega, Nat.zero_le _, rfl⟩, fun j e => ⟨congrArg _ (eqb_true e), rfl⟩, fun _ _ h => h⟩
def Q1m (a : Prop) := True ∧ True ∧ Qh ∧ (True ∧ a ∧ (True ∧ True ∧ True) ∧ (True ∧ True ∧ (True ∧ True) ∧ True) ∧ True) ∧ True ∧ True
def Q1n (a : Q3i) (b : Int) (c : Q3c) (d : Prop) := Qj (Prod.snd a) b ∧ c = c ∧ d
def Q1o (a : Q3j) (b : Int) (c : Nat) := szL (Sh.sz Sh.str) a (Ql b c)
def Q1p (a : Q3i) := (↑(Prod.fst a) : Int)
def Q1q (a : Prop) (b : Q3i) (c : Nat) (d : Prop) := a ∧ 0 ≤ Q1p b ∧ Q1p b < (↑c : Int) ∧ d
def Q1r (a : Q3i) (b : Nat) (c d : Int) := Prod.fst a ≤ b ∧ 0 ≤ Prod.snd a ∧ Prod.snd a ≤ 1048576 ∧ c = d
def Q1s (a : Q3h) (b c : Nat) (d : Prop) (e f : Q3i) (g h : Q3c) (i j : Int) (k l : Prop) := Q10 a b c ∧ d ∧ Qj (Qm (Q1p e + 1)) (Q1p f) ∧ g = h ∧ Q1r f b i j ∧ b - Prod.fst f < b - Prod.fst e ∧ k ∧ l
def Q1t (a : Value) (b : Int) (c d : Q3c) (e : Int) := a = Qi b ∧ c = d → a = Qi e ∧ c = d
def Q1u (a : Q3i) (b : Q3j) := szL (Sh.sz Sh.str) (List.drop (Prod.fst a) b) (Prod.snd a)
def Q1v (a : Int) (b : Q3k) := Ql a (ByteArray.size b)
def Q1w (a : Q3k) := [Value.string a]
def Q1x (a : Q3h) (b c : Nat) (d : Int) (e : Q3i) (f : Q3c) (g h : Int) (i j : Prop) := Q10 a b c ∧ Qj (Qm (Ql d b)) (Prod.snd e) ∧ Qv = Qi (Q1p e) ∧ f = f ∧ Q1r e b g h ∧ i ∧ j
theorem szStringS_spec (h : AHeap) (a : Option Addr) (n c : Nat) (xs : List Sh.str.T) (left : Int) (hx : Sl h Sh.str xs (.slice a n c)) (hl : 0 ≤ left ∧ left ≤ 1048576) (ok : (Sh.sl Sh.str).ok xs) :
    ACall Tryz.prog 31 [.slice a n c, .int .i64 left] h (.int .i64 ((Sh.sl Sh.str).sz xs left)) h := by
  have en := hx.len
  have ok1 : xs.length ≤ 9223372036854775807 := ok.1
  have key : (Sh.sl Sh.str).sz xs left = (if left - (xs.length : Int) < 0 then -1 else szL Sh.str.sz xs (left - (xs.length : Int))) := rfl
  rw [key, en]
  refine acall_out (acall_vc (fun _ => false) (fun _ => []) (fun _ => szLp Sh.str a n c h xs (szL Sh.str.sz xs (left - n))) mixed Tryz.func31 rfl rfl rfl (Nat.le_of_ble_eq_true rfl) ?_ ?_)
  · (refine vc_mp (by kernel_rfl : (Q1m (∀ (i : Nat × Int), Q1r i n (Q1u i xs) (Q1o xs left n) → bs (decide (Q1p i < (↑n : Int))) (∃ (l r : Nat), Q1q (Q13 a l r) i n (∃ (x : ByteArray), Q1g h l r (Prod.fst i) 1 (Q1w x) (Qk (decide (Qm (Q1v (Prod.snd i) x) < 0)) (Q1o xs left n) h h (∃ (j : Nat × Int), Q1s a n c (Qj (Qm (Q1v (Prod.snd i) x)) (Prod.snd j)) i j h h (Q1u j xs) (Q1o xs left n) (∀ (k : Int), k = Q1o xs left n → k = Q1o xs left n) (∀ (v : Value) (h_1 : AHeap), Q1t v (Q1o xs left n) h_1 h (Q1o xs left n)))))) (∃ (j : Int), Q1n i j h (j = Q1o xs left n)))) = _) ?_; delta Qh Qi Qj Qk Ql Qm Q10 Q13 Q16 Q1g Q1m Q1n Q1o Q1p Q1q Q1r Q1s Q1t Q1u Q1v Q1w)
    simp only [true_and, and_true]
    rintro ⟨i, x⟩ ⟨hi, h0, h1, he⟩
    dsimp only at *
    refine bs_d (fun hlt => ?_) (fun hge => ?_)
    · have hio : i < xs.length := by omega
      obtain ⟨l, r, row, ha, _, hrd, hld⟩ := hx.elem (List.getElem?_eq_getElem hio)
      have hoi : (xs[i] : ByteArray).size ≤ 9223372036854775807 := ok.2 xs[i] (List.getElem_mem hio)
      obtain rfl : row = [.string xs[i]] := hrd
      rw [List.drop_eq_getElem_cons hio] at he
      have he : (if Sh.str.sz xs[i] x < 0 then -1 else szL Sh.str.sz (xs.drop (i + 1)) (Sh.str.sz xs[i] x)) = szL Sh.str.sz xs (left - n) := he
      refine ⟨l, r, ha, Int.natCast_nonneg _, hlt, _, hld, ?_⟩
      rw [wrap_i64 (by omega)]
      refine bs_d (fun hneg => ?_) (fun hpos => ?_)
      · rw [sz_strn hneg, if_pos (by omega)] at he; exact congrArg _ he
      · rw [sz_str hpos, if_neg hpos] at he
        exact ⟨(i + 1, x - ((xs[i] : ByteArray).size : Int)), rfl, by rw [wrap_i64 (by omega)] <;> rfl, ⟨by dsimp only; omega, by dsimp only; omega, by dsimp only; omega, he⟩, by dsimp only; omega, fun _ h => h, fun _ _ h => h⟩
    · have e : i = xs.length := by omega
      subst e
      rw [List.drop_length] at he
      exact ⟨x, rfl, he⟩
  · (refine vc_mp (by kernel_rfl : (Qk (decide (Qm (Ql left n) < 0)) (ite (Ql left n < 0) (-1) (Q1o xs left n)) h h (∃ (i : Nat × Int), Q1x a n c left i h (Q1u i xs) (Q1o xs left n) (∀ (j : Int), j = Q1o xs left n → Qj j (ite (Ql left n < 0) (-1) (Q1o xs left n)) ∧ h = h) (∀ (v : Value) (h_1 : AHeap), Q1t v (Q1o xs left n) h_1 h (ite (Ql left n < 0) (-1) (Q1o xs left n))))) = _) ?_; delta Qi Qj Qk Ql Qm Qv Q10 Q1o Q1p Q1r Q1t Q1u Q1x)
    rw [wrap_i64 (by omega)]
    refine bs_d (fun e => ?_) (fun e => ?_)
    · rw [if_pos e]; exact ⟨rfl, rfl⟩
    · rw [if_neg e]
      exact ⟨(0, left - n), rfl, rfl, rfl, rfl, ⟨Nat.zero_le _, by dsimp only; omega, by dsimp only; omega, rfl⟩, fun j hj => ⟨by rw [hj], rfl⟩, fun _ _ h => h⟩
def Q1y (a : Q3f) (b : Nat) (c : Q3c) (d : Q3j) (e : Q3e) := ToI Sh.str a b c d b (Prod.fst e) (Qt e) (Qs e)
def Q1z := Value.string (ByteArray.mk (Array.mk List.nil))
def Q20 (a : Q3f) (b : Nat) (c : Q3c) (d : Q3j) (e : Q3d) := ToI Sh.str a b c d (Prod.fst e) (Qo e) (Qt (Prod.snd e)) (Qs (Prod.snd e))
theorem toStringS_spec (h : AHeap) (a : Option Addr) (n c : Nat) (xs : List (Sh.T Sh.str)) (hw : h.wf) (hx : Sl h Sh.str xs (.slice a n c)) (ok : (Sh.sl Sh.str).small xs) :
    ∃ v h', ACall Tryz.prog 38 [.slice a n c] h v h' ∧ h.Le h' ∧ h'.wf ∧ ∃ ids, v = .slice (some ⟨h.n, 0, some 1⟩) n (n + 1) ∧ So h' Sh.str xs (.slice (some ⟨h.n, 0, some 1⟩) n (n + 1)) ids ∧ Fresh h.n h'.n ids := by
  have en := hx.len
  have ok1 : xs.length ≤ 1048576 := ok.1
  refine acall_vc (fun _ => false) (fun _ => []) (fun _ => toL Sh.str [.string ⟨#[]⟩] a n c h xs) mixed Tryz.func38 rfl rfl rfl (Nat.le_of_ble_eq_true rfl) ?_ ?_
  · (refine vc_mp (by kernel_rfl : (Qn (∀ (i : Nat × AHeap × List (List Value) × List (List Nat)), Q20 [Q1z] n h xs i → bs (decide (Qw i < (↑n : Int))) (∃ (l r : Nat), Qx (Q13 a l r) i n (∃ (x : ByteArray), Qy i l r 1 (Q1w x) (∃ (l r : Nat), Qx (Q13 (Q14 h Sh.str) l r) i n (∃ (h' : AHeap), Qz (Qo i) l r i (Q1w x) h' (∃ (j : Nat × AHeap × List (List Value) × List (List Nat)), Q11 a n c (Qq h Sh.str n) i j h' (Q20 [Q1z] n h xs j) (∀ (k : AHeap × List (List Value) × List (List Nat)), Q1y [Q1z] n h xs k → Q1y [Q1z] n h xs k) (∀ (v : Value) (h : AHeap), False → False)))))) (∃ (j : AHeap × List (List Value) × List (List Nat)), Qr h Sh.str n j i (Q1y [Q1z] n h xs j)))) = _) ?_; delta Qg Qi Qj Qm Qn Qo Qp Qq Qr Qs Qt Qw Qx Qy Qz Q10 Q11 Q13 Q14 Q1w Q1y Q1z Q20)
    simp only [true_and, and_true]
    rintro ⟨i, h1, rows, idss⟩ I
    dsimp only at *
    refine bs_d (fun hlt => ?_) (fun hge => ?_)
    · have hio : i < xs.length := by omega
      obtain ⟨l, r, row, ha, _, hrd, hld⟩ := (hx.mono I.le).elem (List.getElem?_eq_getElem hio)
      obtain rfl : row = [.string xs[i]] := hrd
      obtain ⟨h3, e3, I3⟩ := I.step (cs := [.string xs[i]]) (ids := []) (by omega) (List.getElem?_eq_getElem hio) (.refl _) I.wf ⟨rfl, rfl⟩ .nil
      refine ⟨l, r, ha, Int.natCast_nonneg _, hlt, _, hld, h.n, 0, rfl, Int.natCast_nonneg _, hlt, h3, e3, (i + 1, h3, _, _), by rw [wrap_i64 (by omega)] <;> rfl, rfl, I3, by dsimp only; omega, fun _ h => h, fun _ _ h => h⟩
    · have hi := I.hi
      have e : i = n := by omega
      subst e
      exact ⟨(h1, rows, idss), rfl, I⟩
  · (refine vc_mp (by kernel_rfl : (Q15 n 16 (∃ (i : Nat × AHeap × List (List Value) × List (List Nat)), Q17 a n c (Q1a h (Q16 n)) h Sh.str i [Q1z] 1 (Q20 [Q1z] n h xs i) (∀ (j : AHeap × List (List Value) × List (List Nat)), Q1b (Q1y [Q1z] n h xs j) h j (∃ (ids : List Nat), Q1c h Sh.str n (Q1a h n) (So (Prod.fst j) Sh.str xs (Q1a h n) ids) j ids)) (∀ (v : Value) (h_1 : AHeap), Q18 h h_1 (∃ (ids : List Nat), Q19 (v = Q1a h n) (So h_1 Sh.str xs (Q1a h n) ids) h h_1 ids)))) = _) ?_; delta Qi Qo Qp Qs Qt Qv Qw Q10 Q15 Q16 Q17 Q18 Q19 Q1a Q1b Q1c Q1y Q1z Q20)
    refine ⟨Int.natCast_nonneg _, Int.le_refl _, by omega, (0, _, _, _), rfl, rfl, rfl, rfl, ToI.start hw rfl, ?_, fun _ _ h => h.elim⟩
    rintro ⟨h1, rows, idss⟩ I
    obtain ⟨ids, h2, h3⟩ := ToI.finish I en (n + 1)
    exact ⟨I.le, I.wf, ids, rfl, h2, h3⟩
theorem eqStringS_spec (h : AHeap) (a : Option Addr) (n c : Nat) (a' : Option Addr) (n' c' : Nat) (xs ys : List (Sh.T Sh.str)) (hx : Sl h Sh.str xs (.slice a n c)) (hy : Sl h Sh.str ys (.slice a' n' c')) (hn : xs.length ≤ 9223372036854775807) :
    ACall Tryz.prog 43 [.slice a n c, .slice a' n' c'] h (.bool (eqb xs ys)) h := by
  have en := hx.len
  have en' := hy.len
  refine acall_out (acall_vc (fun _ => false) (fun _ => [(0, 0, []), (1, 0, []), (2, 0, []), (4, 0, []), (5, 0, []), (6, 0, []), (3, 1, []), (7, 1, []), (8, 0, [])]) (fun _ => eqLp h a n c a' n' c' xs ys) mixed Tryz.func43 rfl rfl rfl (Nat.le_of_ble_eq_true rfl) ?_ ?_)
  · (refine vc_mp (by kernel_rfl : (Q1e (∀ (i : Nat), EqI xs ys i → bs (decide ((↑i : Int) < (↑n : Int))) (∃ (l r : Nat), Q1f (Q13 a l r) i n (∃ (l_1 r_1 : Nat), Q1f (Q13 a' l_1 r_1) i n' (∃ (x : ByteArray), Q1g h l r i 1 (Q1w x) (∃ (x_1 : ByteArray), Q1g h l_1 r_1 i 1 (Q1w x_1) (Q1h (decide (x = x_1)) (eqb xs ys) h h (∃ (j : Nat), Q1i a n c a' n' c' i j h h (EqI xs ys j) (List.length xs) (∀ (k : Unit), xs = ys → xs = ys) (∀ (v : Value) (h_1 : AHeap), Q1j v (eqb xs ys) h_1 h))))))) (∃ (j : Unit), h = h ∧ xs = ys))) = _) ?_; delta Qg Qh Qi Qj Qm Q10 Q13 Q16 Q1e Q1f Q1g Q1h Q1i Q1j Q1w)
    simp only [true_and, and_true]
    rintro (i : Nat) I
    have hl := I.len
    have hi := I.hi
    refine bs_d (fun hlt => ?_) (fun hge => ?_)
    · have hxi : i < xs.length := by omega
      have hyi : i < ys.length := by omega
      obtain ⟨l, r, row, ha, hin, hrd, hld⟩ := hx.elem (List.getElem?_eq_getElem hxi)
      obtain ⟨l', r', row', ha', hin', hrd', hld'⟩ := hy.elem (List.getElem?_eq_getElem hyi)
      obtain rfl : row = [.string xs[i]] := hrd
      obtain rfl : row' = [.string ys[i]] := hrd'
      refine ⟨l, r, ha, Int.natCast_nonneg _, hlt, l', r', ha', Int.natCast_nonneg _, by omega, _, hld, _, hld', bs_dn (fun hb => ?_) (fun hb => ?_)⟩
      · exact congrArg _ (eqb_false fun e => hb (by subst e; rfl))
      · exact ⟨i + 1, by rw [wrap_i64 (by omega)] <;> rfl, I.step hxi hyi hb, by omega, fun _ h => h, fun _ _ h => h⟩
    · have e : i = xs.length := by omega
      subst e
      exact ⟨(), I.all⟩
  · (refine vc_mp (by kernel_rfl : (Q1h (decide ((↑n : Int) = (↑n' : Int))) (eqb xs ys) h h (∃ (i : Nat), Q1k a n c a' n' c' i h (EqI xs ys i) (∀ (j : Unit), xs = ys → Q1l (eqb xs ys) h h) (∀ (v : Value) (h_1 : AHeap), Q1j v (eqb xs ys) h_1 h))) = _) ?_; delta Qi Qv Q10 Q1h Q1j Q1k Q1l)
    refine bs_dn (fun hne => ⟨congrArg _ (eqb_false fun e => hne (by rw [← en, ← en', e])), rfl⟩) (fun he => ?_)
    exact ⟨(0 : Nat), rfl, rfl, rfl, rfl, ⟨by omega, Nat.zero_le _, rfl⟩, fun j e => ⟨congrArg _ (eqb_true e), rfl⟩, fun _ _ h => h⟩
def Q21 (a : Prop) := True ∧ True ∧ Qh ∧ True ∧ a
def Q22 := Qh ∧ True ∧ True
def Q23 (a : FuncId) (b c : Value) (d : Q3c) (e : Int) (f : Q3c) (g : Bool) (h : Int) (i : Q3c) (j : Prop) := ACall Tryz.prog a [b, c] d (Qi e) f ∧ Qk g h f i j
def Q24 (a : Q3h) (b : Q3g) (c : Nat) := Value.slice a (List.length b) c
theorem szProof_spec (h : AHeap) (x : proofSh.T) (left : Int) (v1 : Value) (h1 : Sl h Sh.int x.2.2.2 v1) (hl : 0 ≤ left ∧ left ≤ 1048576) (ok : proofSh.ok x) :
    ACall Tryz.prog 157 [.agg #[.int .i64 x.1, .int .i64 x.2.1, .string x.2.2.1, v1], .int .i64 left] h (.int .i64 (proofSh.sz x left)) h := by
  obtain ⟨x1, x2, x3, x4⟩ := x
  try dsimp only at *
  obtain ⟨a1, c1, rfl⟩ := h1.isSlice
  refine acall_out (acall_vc (fun _ => false) (fun _ => []) (fun _ => .none) mixed Tryz.func157 rfl rfl rfl (Nat.le_of_ble_eq_true rfl) (by (refine vc_mp (by kernel_rfl : (Q21 Q22) = _) ?_; delta Qh Q21 Q22); simp only [and_self]) ?_)
  (refine vc_mp (by kernel_rfl : (Qk (decide (Qm (Q1v left x3) < 0)) (Sh.sz proofSh (Prod.mk x1 (Prod.mk x2 (Prod.mk x3 x4))) left) h h (∃ (x : Int) (h' : AHeap), Q23 168 (Q24 a1 x4 c1) (Qi (Qm (Q1v left x3))) h x h' (decide (x < 0)) (Sh.sz proofSh (Prod.mk x1 (Prod.mk x2 (Prod.mk x3 x4))) left) h (Qj x (Sh.sz proofSh (Prod.mk x1 (Prod.mk x2 (Prod.mk x3 x4))) left) ∧ h' = h))) = _) ?_; delta Qi Qj Qk Ql Qm Q1v Q23 Q24)
  have o1 : (x3 : ByteArray).size ≤ 9223372036854775807 := ok.2.2.1
  rw [wrap_i64 (by omega)]
  refine bs_d (fun e1 => by refine ⟨congrArg _ (Eq.symm ?_), rfl⟩; exact sz_step rfl hl.1 (sz_step rfl hl.1 (sz_stop (neg1 (sz_strn e1))))) (fun e1 => ?_)
  have b2 := (Sh.sl Sh.int).sz_le x4 (left - ((x3 : ByteArray).size : Int)) (by omega)
  refine ⟨_, _, szInt64S_spec h a1 _ c1 _ (left - ((x3 : ByteArray).size : Int)) h1 (by omega) ok.2.2.2, bs_d (fun e2 => by refine ⟨congrArg _ (Eq.symm ?_), rfl⟩; exact sz_step rfl hl.1 (sz_step rfl hl.1 (sz_step (sz_str e1) (Int.not_lt.1 e1) (sz_neg (Int.not_lt.1 e1) e2)))) (fun e2 => ?_)⟩
  refine ⟨congrArg _ (Eq.symm ?_), rfl⟩
  exact sz_step rfl hl.1 (sz_step rfl hl.1 (sz_step (sz_str e1) (Int.not_lt.1 e1) (rfl)))
def Q25 (a : Q3l) (b : Int) (c : Nat) := szL (Sh.sz proofSh) a (Ql b c)
def Q26 (a : Q3i) (b : Q3l) := szL (Sh.sz proofSh) (List.drop (Prod.fst a) b) (Prod.snd a)
def Q27 (a : Q3f) := Value.agg (Array.mk a)
def Q28 (a b : Int) (c : Q3k) (d : Q3h) (e f : Nat) := [Qi a, Qi b, Value.string c, Value.slice d e f]
def Q29 := (4 : Nat)
def Q2a (a : Q3h) (b c d : Nat) := a = some (Addr.mk b c (some d))
theorem szProofS_spec (h : AHeap) (a : Option Addr) (n c : Nat) (xs : List proofSh.T) (left : Int) (hx : Sl h proofSh xs (.slice a n c)) (hl : 0 ≤ left ∧ left ≤ 1048576) (ok : (Sh.sl proofSh).ok xs) :
    ACall Tryz.prog 130 [.slice a n c, .int .i64 left] h (.int .i64 ((Sh.sl proofSh).sz xs left)) h := by
  have en := hx.len
  have ok1 : xs.length ≤ 9223372036854775807 := ok.1
  have key : (Sh.sl proofSh).sz xs left = (if left - (xs.length : Int) < 0 then -1 else szL proofSh.sz xs (left - (xs.length : Int))) := rfl
  rw [key, en]
  refine acall_out (acall_vc (fun _ => false) (fun _ => []) (fun _ => szLp proofSh a n c h xs (szL proofSh.sz xs (left - n))) mixed Tryz.func130 rfl rfl rfl (Nat.le_of_ble_eq_true rfl) ?_ ?_)
  · (refine vc_mp (by kernel_rfl : (Q1m (∀ (i : Nat × Int), Q1r i n (Q26 i xs) (Q25 xs left n) → bs (decide (Q1p i < (↑n : Int))) (∃ (l r : Nat), Q1q (Q2a a l r Q29) i n (∃ (x x_1 : Int) (x_2 : ByteArray) (a_2 : Option Addr) (n_1 c_1 : Nat), Q1g h l r (Prod.fst i) Q29 (Q28 x x_1 x_2 a_2 n_1 c_1) (∃ (x_3 : Int) (h' : AHeap), Q23 157 (Q27 (Q28 x x_1 x_2 a_2 n_1 c_1)) (Qi (Prod.snd i)) h x_3 h' (decide (x_3 < 0)) (Q25 xs left n) h (∃ (j : Nat × Int), Q1s a n c (Qj x_3 (Prod.snd j)) i j h h' (Q26 j xs) (Q25 xs left n) (∀ (k : Int), k = Q25 xs left n → k = Q25 xs left n) (∀ (v : Value) (h_1 : AHeap), Q1t v (Q25 xs left n) h_1 h (Q25 xs left n)))))) (∃ (j : Int), Q1n i j h (j = Q25 xs left n)))) = _) ?_; delta Qh Qi Qj Qk Ql Qm Q10 Q16 Q1g Q1m Q1n Q1p Q1q Q1r Q1s Q1t Q23 Q25 Q26 Q27 Q28 Q29 Q2a)
    simp only [true_and, and_true]
    rintro ⟨i, x⟩ ⟨hi, h0, h1, he⟩
    dsimp only at *
    refine bs_d (fun hlt => ?_) (fun hge => ?_)
    · have hio : i < xs.length := by omega
      obtain ⟨l, r, row, ha, _, hrd, hld⟩ := hx.elem (List.getElem?_eq_getElem hio)
      have hoi := ok.2 xs[i] (List.getElem_mem hio)
      obtain ⟨v1, rfl, k1⟩ := rd_proof.1 hrd
      rw [List.drop_eq_getElem_cons hio] at he
      have he : (if proofSh.sz xs[i] x < 0 then -1 else szL proofSh.sz (xs.drop (i + 1)) (proofSh.sz xs[i] x)) = szL proofSh.sz xs (left - n) := he
      have b1 := proofSh.sz_le xs[i] x h0
      obtain ⟨a1, c1, rfl⟩ := k1.isSlice
      refine ⟨l, r, ha, Int.natCast_nonneg _, hlt, _, _, _, _, _, _, hld, proofSh.sz xs[i] x, h, szProof_spec h xs[i] x _ k1 ⟨h0, h1⟩ hoi, bs_d (fun hneg => ?_) (fun hpos => ?_)⟩
      · rw [if_pos hneg] at he; rw [← he]; exact ⟨rfl, rfl⟩
      · rw [if_neg hpos] at he
        exact ⟨(i + 1, proofSh.sz xs[i] x), rfl, by rw [wrap_i64 (by omega)] <;> rfl, rfl, ⟨by dsimp only; omega, by dsimp only; omega, by dsimp only; omega, he⟩, by dsimp only; omega, fun _ h => h, fun _ _ h => h⟩
    · have e : i = xs.length := by omega
      subst e
      rw [List.drop_length] at he
      exact ⟨x, rfl, he⟩
  · (refine vc_mp (by kernel_rfl : (Qk (decide (Qm (Ql left n) < 0)) (ite (Ql left n < 0) (-1) (Q25 xs left n)) h h (∃ (i : Nat × Int), Q1x a n c left i h (Q26 i xs) (Q25 xs left n) (∀ (j : Int), j = Q25 xs left n → Qj j (ite (Ql left n < 0) (-1) (Q25 xs left n)) ∧ h = h) (∀ (v : Value) (h_1 : AHeap), Q1t v (Q25 xs left n) h_1 h (ite (Ql left n < 0) (-1) (Q25 xs left n))))) = _) ?_; delta Qi Qj Qk Ql Qm Qv Q10 Q1p Q1r Q1t Q1x Q25 Q26)
    rw [wrap_i64 (by omega)]
    refine bs_d (fun e => ?_) (fun e => ?_)
    · rw [if_pos e]; exact ⟨rfl, rfl⟩
    · rw [if_neg e]
      exact ⟨(0, left - n), rfl, rfl, rfl, rfl, ⟨Nat.zero_le _, by dsimp only; omega, by dsimp only; omega, rfl⟩, fun j hj => ⟨by rw [hj], rfl⟩, fun _ _ h => h⟩
def Q2b (a : Prop) := True ∧ True ∧ True ∧ True ∧ a
def Q2c (a : FuncId) (b : Q3f) (c : Q3c) (d : Q3h) (e f : Nat) (g : Q3c) (h : Prop) := ACall Tryz.prog a b c (Value.slice d e f) g ∧ h
theorem toProof_spec (h : AHeap) (x : proofSh.T) (v1 : Value) (h1 : Sl h Sh.int x.2.2.2 v1) (hw : h.wf) (ok : proofSh.small x) :
    ∃ v h', ACall Tryz.prog 158 [.agg #[.int .i64 x.1, .int .i64 x.2.1, .string x.2.2.1, v1]] h v h' ∧ h.Le h' ∧ h'.wf ∧ ∃ w1 ids, v = .agg #[.int .i64 x.1, .int .i64 x.2.1, .string x.2.2.1, w1] ∧ proofSh.ro h' x [.int .i64 x.1, .int .i64 x.2.1, .string x.2.2.1, w1] ids ∧ Fresh h.n h'.n ids := by
  obtain ⟨x1, x2, x3, x4⟩ := x
  try dsimp only at *
  obtain ⟨a1, c1, rfl⟩ := h1.isSlice
  refine acall_q fun Q HQ => ?_
  refine acall_vc (fun _ => false) (fun _ => []) (fun _ => .none) mixed Tryz.func158 rfl rfl rfl (Nat.le_of_ble_eq_true rfl) (by (refine vc_mp (by kernel_rfl : (Q2b (True ∧ True ∧ True ∧ True)) = _) ?_; delta Q2b); simp only [and_self]) ?_
  (refine vc_mp (by kernel_rfl : (∃ (a : Option Addr) (n c : Nat) (h' : AHeap), Q2c 169 [Q24 a1 x4 c1] h a n c h' (Q (Q27 (Q28 x1 x2 x3 a n c)) h')) = _) ?_; delta Qi Q24 Q27 Q28 Q2c)
  obtain ⟨u1, g1, A1, l1, W1, ids1, rfl, r1, f1⟩ := toInt64S_spec h a1 _ c1 _ hw h1 ok.2.2.2
  have L1 : h.Le g1 := l1
  refine ⟨_, _, _, _, A1, HQ _ _ ⟨L1, W1, _, [] ++ ([] ++ ([] ++ (ids1))), rfl, ?_, ?_⟩⟩
  · exact ⟨[_], _, [], _, rfl, rfl, ⟨rfl, rfl⟩, [_], _, [], _, rfl, rfl, ⟨rfl, rfl⟩, [_], _, [], _, rfl, rfl, ⟨rfl, rfl⟩, ro_sl.2 ⟨_, rfl, r1⟩⟩
  · exact (show Fresh h.n g1.n (ids1) from f1)
def Q2d := Value.slice none 0 0
def Q2e (a : Nat) (b : Q3c) (c : Q3l) (d : Q3e) := ToI proofSh [Qv, Qv, Q1z, Q2d] a b c a (Prod.fst d) (Qt d) (Qs d)
def Q2f (a : Nat) (b : Q3c) (c : Q3l) (d : Q3d) := ToI proofSh [Qv, Qv, Q1z, Q2d] a b c (Prod.fst d) (Qo d) (Qt (Prod.snd d)) (Qs (Prod.snd d))
def Q2g (a : Q3c) (b : Nat) := Qp a (some Q29) b
theorem toProofS_spec (h : AHeap) (a : Option Addr) (n c : Nat) (xs : List proofSh.T) (hw : h.wf) (hx : Sl h proofSh xs (.slice a n c)) (ok : (Sh.sl proofSh).small xs) :
    ∃ v h', ACall Tryz.prog 132 [.slice a n c] h v h' ∧ h.Le h' ∧ h'.wf ∧ ∃ ids, v = .slice (some ⟨h.n, 0, some 4⟩) n (n + 1) ∧ So h' proofSh xs (.slice (some ⟨h.n, 0, some 4⟩) n (n + 1)) ids ∧ Fresh h.n h'.n ids := by
  have en := hx.len
  have ok1 : xs.length ≤ 1048576 := ok.1
  refine acall_vc (fun _ => false) (fun _ => []) (fun _ => toL proofSh [.int .i64 0, .int .i64 0, .string ⟨#[]⟩, .slice none 0 0] a n c h xs) mixed Tryz.func132 rfl rfl rfl (Nat.le_of_ble_eq_true rfl) ?_ ?_
  · (refine vc_mp (by kernel_rfl : (Qn (∀ (i : Nat × AHeap × List (List Value) × List (List Nat)), Q2f n h xs i → bs (decide (Qw i < (↑n : Int))) (∃ (l r : Nat), Qx (Q2a a l r Q29) i n (∃ (x x_1 : Int) (x_2 : ByteArray) (a_2 : Option Addr) (n_1 c_1 : Nat), Qy i l r Q29 (Q28 x x_1 x_2 a_2 n_1 c_1) (∃ (x_3 x_4 : Int) (x_5 : ByteArray) (a_3 : Option Addr) (n_2 c_2 : Nat) (h' : AHeap), ACall Tryz.prog 158 [Q27 (Q28 x x_1 x_2 a_2 n_1 c_1)] (Qo i) (Q27 (Q28 x_3 x_4 x_5 a_3 n_2 c_2)) h' ∧ (∃ (l r : Nat), Qx (Q2a (Q14 h proofSh) l r Q29) i n (∃ (h'_1 : AHeap), Qz h' l r i (Q28 x_3 x_4 x_5 a_3 n_2 c_2) h'_1 (∃ (j : Nat × AHeap × List (List Value) × List (List Nat)), Q11 a n c (Qq h proofSh n) i j h'_1 (Q2f n h xs j) (∀ (k : AHeap × List (List Value) × List (List Nat)), Q2e n h xs k → Q2e n h xs k) (∀ (v : Value) (h : AHeap), False → False))))))) (∃ (j : AHeap × List (List Value) × List (List Nat)), Qr h proofSh n j i (Q2e n h xs j)))) = _) ?_; delta Qg Qi Qj Qm Qn Qo Qp Qq Qr Qs Qt Qv Qw Qx Qy Qz Q10 Q11 Q14 Q1z Q27 Q28 Q29 Q2a Q2d Q2e Q2f)
    simp only [true_and, and_true]
    rintro ⟨i, h1, rows, idss⟩ I
    dsimp only at *
    refine bs_d (fun hlt => ?_) (fun hge => ?_)
    · have hio : i < xs.length := by omega
      obtain ⟨l, r, row, ha, _, hrd, hld⟩ := (hx.mono I.le).elem (List.getElem?_eq_getElem hio)
      obtain ⟨v1, rfl, k1⟩ := rd_proof.1 hrd
      obtain ⟨a1, c1, rfl⟩ := k1.isSlice
      obtain ⟨v, h2, hA, hle, hw2, w1, ids, rfl, hro, hf⟩ := toProof_spec h1 xs[i] _ k1 I.wf (ok.2 _ (List.getElem_mem hio))
      obtain ⟨z1, ez, q1⟩ := rd_proof.1 hro.rd
      cases ez
      obtain ⟨b1, d1, rfl⟩ := q1.isSlice
      obtain ⟨h3, e3, I3⟩ := I.step (by omega) (List.getElem?_eq_getElem hio) hle hw2 hro hf
      refine ⟨l, r, ha, Int.natCast_nonneg _, hlt, _, _, _, _, _, _, hld, _, _, _, _, _, _, _, hA, h.n, 0, rfl, Int.natCast_nonneg _, hlt, h3, e3, (i + 1, h3, _, _), by rw [wrap_i64 (by omega)] <;> rfl, rfl, I3, by dsimp only; omega, fun _ h => h, fun _ _ h => h⟩
    · have hi := I.hi
      have e : i = n := by omega
      subst e
      exact ⟨(h1, rows, idss), rfl, I⟩
  · (refine vc_mp (by kernel_rfl : (Q15 n 56 (∃ (i : Nat × AHeap × List (List Value) × List (List Nat)), Q17 a n c (Q2g h (Q16 n)) h proofSh i [Q1d, Q1d, Q1z, Q2d] Q29 (Q2f n h xs i) (∀ (j : AHeap × List (List Value) × List (List Nat)), Q1b (Q2e n h xs j) h j (∃ (ids : List Nat), Q1c h proofSh n (Q2g h n) (So (Prod.fst j) proofSh xs (Q2g h n) ids) j ids)) (∀ (v : Value) (h_1 : AHeap), Q18 h h_1 (∃ (ids : List Nat), Q19 (v = Q2g h n) (So h_1 proofSh xs (Q2g h n) ids) h h_1 ids)))) = _) ?_; delta Qi Qo Qp Qs Qt Qv Qw Q10 Q15 Q16 Q17 Q18 Q19 Q1b Q1c Q1d Q1z Q29 Q2d Q2e Q2f Q2g)
    refine ⟨Int.natCast_nonneg _, Int.le_refl _, by omega, (0, _, _, _), rfl, rfl, rfl, rfl, ToI.start hw rfl, ?_, fun _ _ h => h.elim⟩
    rintro ⟨h1, rows, idss⟩ I
    obtain ⟨ids, h2, h3⟩ := ToI.finish I en (n + 1)
    exact ⟨I.le, I.wf, ids, rfl, h2, h3⟩
def Q2h (a : Prop) := True ∧ Qh ∧ Qh ∧ Qh ∧ a
def Q2i (a b : Bool) (c d : Q3c) (e : Bool) (f : Prop) := Q1h a b c d (Q1h e b c d f)
def Q2j (a : FuncId) (b c : Value) (d : Q3c) (e : Bool) (f : Q3c) (g : Bool) (h : Q3c) (i : Prop) := ACall Tryz.prog a [b, c] d (Value.bool e) f ∧ Q1h e g f h i
def Q2k (a b : Q3m) (c : Q3n) (d : Sh.T (Sh.sl Sh.int)) := Prod.mk a (Prod.mk b (Prod.mk c d))
theorem eqProof_spec (h : AHeap) (x y : proofSh.T) (v1 : Value) (h1 : Sl h Sh.int x.2.2.2 v1) (w1 : Value) (j1 : Sl h Sh.int y.2.2.2 w1) (ok : proofSh.ok x) :
    ACall Tryz.prog 161 [.agg #[.int .i64 x.1, .int .i64 x.2.1, .string x.2.2.1, v1], .agg #[.int .i64 y.1, .int .i64 y.2.1, .string y.2.2.1, w1]] h (.bool (eqb x y)) h := by
  obtain ⟨x1, x2, x3, x4⟩ := x
  obtain ⟨y1, y2, y3, y4⟩ := y
  try dsimp only at *
  obtain ⟨a1, c1, rfl⟩ := h1.isSlice
  obtain ⟨ab1, cb1, rfl⟩ := j1.isSlice
  refine acall_out (acall_vc (fun _ => false) (fun _ => []) (fun _ => .none) mixed Tryz.func161 rfl rfl rfl (Nat.le_of_ble_eq_true rfl) (by (refine vc_mp (by kernel_rfl : (Q2h Q22) = _) ?_; delta Qh Q22 Q2h); simp only [and_self]) ?_)
  (refine vc_mp (by kernel_rfl : (Q2i (decide (x1 = y1)) (eqb (Q2k x1 x2 x3 x4) (Q2k y1 y2 y3 y4)) h h (decide (x2 = y2)) (Q1h (decide (x3 = y3)) (eqb (Q2k x1 x2 x3 x4) (Q2k y1 y2 y3 y4)) h h (∃ (x : Bool) (h' : AHeap), Q2j 170 (Q24 a1 x4 c1) (Q24 ab1 y4 cb1) h x h' (eqb (Q2k x1 x2 x3 x4) (Q2k y1 y2 y3 y4)) h (Q1l (eqb (Q2k x1 x2 x3 x4) (Q2k y1 y2 y3 y4)) h' h)))) = _) ?_; delta Q1h Q1l Q24 Q2i Q2j Q2k)
  refine bs_dn (fun e => ⟨congrArg _ (eqb_false fun e' => e (by cases e'; rfl)), rfl⟩) (fun e1 => ?_)
  refine bs_dn (fun e => ⟨congrArg _ (eqb_false fun e' => e (by cases e'; rfl)), rfl⟩) (fun e2 => ?_)
  refine bs_dn (fun e => ⟨congrArg _ (eqb_false fun e' => e (by cases e'; rfl)), rfl⟩) (fun e3 => ?_)
  refine ⟨_, _, eqInt64S_spec h a1 _ c1 ab1 _ cb1 _ _ h1 j1 ok.2.2.2.1, bs_nb (fun e => ⟨congrArg _ (eqb_false fun e' => of_eqb_false e (by cases e'; rfl)), rfl⟩) (fun e4 => ?_)⟩
  exact ⟨congrArg _ (eqb_true (Prod.ext e1 (Prod.ext e2 (Prod.ext e3 (of_eqb e4))))), rfl⟩
theorem eqProofS_spec (h : AHeap) (a : Option Addr) (n c : Nat) (a' : Option Addr) (n' c' : Nat) (xs ys : List proofSh.T) (hx : Sl h proofSh xs (.slice a n c)) (hy : Sl h proofSh ys (.slice a' n' c')) (ok : (Sh.sl proofSh).ok xs) :
    ACall Tryz.prog 140 [.slice a n c, .slice a' n' c'] h (.bool (eqb xs ys)) h := by
  have en := hx.len
  have en' := hy.len
  have hn : xs.length ≤ 9223372036854775807 := ok.1
  refine acall_out (acall_vc (fun _ => false) (fun _ => [(0, 0, []), (1, 0, []), (2, 0, []), (4, 0, []), (5, 0, []), (6, 0, []), (3, 1, []), (7, 1, []), (8, 3, []), (9, 0, [])]) (fun _ => eqLp h a n c a' n' c' xs ys) mixed Tryz.func140 rfl rfl rfl (Nat.le_of_ble_eq_true rfl) ?_ ?_)
  · (refine vc_mp (by kernel_rfl : (Q1e (∀ (i : Nat), EqI xs ys i → bs (decide ((↑i : Int) < (↑n : Int))) (∃ (l r : Nat), Q1f (Q2a a l r Q29) i n (∃ (l_1 r_1 : Nat), Q1f (Q2a a' l_1 r_1 Q29) i n' (∃ (x x_1 : Int) (x_2 : ByteArray) (a_2 : Option Addr) (n_1 c_1 : Nat), Q1g h l r i Q29 (Q28 x x_1 x_2 a_2 n_1 c_1) (∃ (x_3 x_4 : Int) (x_5 : ByteArray) (a_3 : Option Addr) (n_2 c_2 : Nat), Q1g h l_1 r_1 i Q29 (Q28 x_3 x_4 x_5 a_3 n_2 c_2) (∃ (x_6 : Bool) (h' : AHeap), Q2j 161 (Q27 (Q28 x x_1 x_2 a_2 n_1 c_1)) (Q27 (Q28 x_3 x_4 x_5 a_3 n_2 c_2)) h x_6 h' (eqb xs ys) h (∃ (j : Nat), Q1i a n c a' n' c' i j h h' (EqI xs ys j) (List.length xs) (∀ (k : Unit), xs = ys → xs = ys) (∀ (v : Value) (h_1 : AHeap), Q1j v (eqb xs ys) h_1 h))))))) (∃ (j : Unit), h = h ∧ xs = ys))) = _) ?_; delta Qg Qh Qi Qj Qm Q10 Q16 Q1e Q1f Q1g Q1h Q1i Q1j Q27 Q28 Q29 Q2a Q2j)
    simp only [true_and, and_true]
    rintro (i : Nat) I
    have hl := I.len
    have hi := I.hi
    refine bs_d (fun hlt => ?_) (fun hge => ?_)
    · have hxi : i < xs.length := by omega
      have hyi : i < ys.length := by omega
      obtain ⟨l, r, row, ha, hin, hrd, hld⟩ := hx.elem (List.getElem?_eq_getElem hxi)
      obtain ⟨l', r', row', ha', hin', hrd', hld'⟩ := hy.elem (List.getElem?_eq_getElem hyi)
      obtain ⟨v1, rfl, k1⟩ := rd_proof.1 hrd
      obtain ⟨w1, rfl, kk1⟩ := rd_proof.1 hrd'
      obtain ⟨a1, c1, rfl⟩ := k1.isSlice
      obtain ⟨b1, d1, rfl⟩ := kk1.isSlice
      refine ⟨l, r, ha, Int.natCast_nonneg _, hlt, l', r', ha', Int.natCast_nonneg _, by omega, _, _, _, _, _, _, hld, _, _, _, _, _, _, hld', _, _, eqProof_spec h xs[i] ys[i] _ k1 _ kk1 (ok.2 _ (List.getElem_mem hxi)), bs_nb (fun hb => ?_) (fun hb => ?_)⟩
      · exact ⟨congrArg _ (eqb_false fun e => of_eqb_false hb (by subst e; rfl)), rfl⟩
      · exact ⟨i + 1, by rw [wrap_i64 (by omega)] <;> rfl, rfl, I.step hxi hyi (of_eqb hb), by omega, fun _ h => h, fun _ _ h => h⟩
    · have e : i = xs.length := by omega
      subst e
      exact ⟨(), I.all⟩
  · (refine vc_mp (by kernel_rfl : (Q1h (decide ((↑n : Int) = (↑n' : Int))) (eqb xs ys) h h (∃ (i : Nat), Q1k a n c a' n' c' i h (EqI xs ys i) (∀ (j : Unit), xs = ys → Q1l (eqb xs ys) h h) (∀ (v : Value) (h_1 : AHeap), Q1j v (eqb xs ys) h_1 h))) = _) ?_; delta Qi Qv Q10 Q1h Q1j Q1k Q1l)
    refine bs_dn (fun hne => ⟨congrArg _ (eqb_false fun e => hne (by rw [← en, ← en', e])), rfl⟩) (fun he => ?_)
    exact ⟨(0 : Nat), rfl, rfl, rfl, rfl, ⟨by omega, Nat.zero_le _, rfl⟩, fun j e => ⟨congrArg _ (eqb_true e), rfl⟩, fun _ _ h => h⟩
def Q2l (a : Q3h) (b : Q3l) (c : Nat) := Value.slice a (List.length b) c
theorem szChange_spec (h : AHeap) (x : changeSh.T) (left : Int) (v1 : Value) (h1 : Sl h proofSh x.2.2 v1) (hl : 0 ≤ left ∧ left ≤ 1048576) (ok : changeSh.ok x) :
    ACall Tryz.prog 75 [.agg #[.int .i64 x.1, .int .i64 x.2.1, v1], .int .i64 left] h (.int .i64 (changeSh.sz x left)) h := by
  obtain ⟨x1, x2, x3⟩ := x
  try dsimp only at *
  obtain ⟨a1, c1, rfl⟩ := h1.isSlice
  refine acall_out (acall_vc (fun _ => false) (fun _ => []) (fun _ => .none) mixed Tryz.func75 rfl rfl rfl (Nat.le_of_ble_eq_true rfl) (by (refine vc_mp (by kernel_rfl : (Qg True Qh) = _) ?_; delta Qg Qh); simp only [and_self]) ?_)
  (refine vc_mp (by kernel_rfl : (∃ (x : Int) (h' : AHeap), Q23 130 (Q2l a1 x3 c1) (Qi left) h x h' (decide (x < 0)) (Sh.sz changeSh (Prod.mk x1 (Prod.mk x2 x3)) left) h (Qj x (Sh.sz changeSh (Prod.mk x1 (Prod.mk x2 x3)) left) ∧ h' = h)) = _) ?_; delta Qi Qj Qk Q23 Q2l)
  have b1 := (Sh.sl proofSh).sz_le x3 left (by omega)
  refine ⟨_, _, szProofS_spec h a1 _ c1 _ left h1 (by omega) ok.2.2, bs_d (fun e1 => by refine ⟨congrArg _ (Eq.symm ?_), rfl⟩; exact sz_step rfl hl.1 (sz_step rfl hl.1 (sz_neg hl.1 e1))) (fun e1 => ?_)⟩
  refine ⟨congrArg _ (Eq.symm ?_), rfl⟩
  exact sz_step rfl hl.1 (sz_step rfl hl.1 (rfl))
def Q2m (a : Q3o) (b : Int) (c : Nat) := szL (Sh.sz changeSh) a (Ql b c)
def Q2n (a : Q3i) (b : Q3o) := szL (Sh.sz changeSh) (List.drop (Prod.fst a) b) (Prod.snd a)
def Q2o (a b : Int) (c : Q3h) (d e : Nat) := [Qi a, Qi b, Value.slice c d e]
def Q2p := (3 : Nat)
theorem szChangeS_spec (h : AHeap) (a : Option Addr) (n c : Nat) (xs : List changeSh.T) (left : Int) (hx : Sl h changeSh xs (.slice a n c)) (hl : 0 ≤ left ∧ left ≤ 1048576) (ok : (Sh.sl changeSh).ok xs) :
    ACall Tryz.prog 30 [.slice a n c, .int .i64 left] h (.int .i64 ((Sh.sl changeSh).sz xs left)) h := by
  have en := hx.len
  have ok1 : xs.length ≤ 9223372036854775807 := ok.1
  have key : (Sh.sl changeSh).sz xs left = (if left - (xs.length : Int) < 0 then -1 else szL changeSh.sz xs (left - (xs.length : Int))) := rfl
  rw [key, en]
  refine acall_out (acall_vc (fun _ => false) (fun _ => []) (fun _ => szLp changeSh a n c h xs (szL changeSh.sz xs (left - n))) mixed Tryz.func30 rfl rfl rfl (Nat.le_of_ble_eq_true rfl) ?_ ?_)
  · (refine vc_mp (by kernel_rfl : (Q1m (∀ (i : Nat × Int), Q1r i n (Q2n i xs) (Q2m xs left n) → bs (decide (Q1p i < (↑n : Int))) (∃ (l r : Nat), Q1q (Q2a a l r Q2p) i n (∃ (x x_1 : Int) (a_2 : Option Addr) (n_1 c_1 : Nat), Q1g h l r (Prod.fst i) Q2p (Q2o x x_1 a_2 n_1 c_1) (∃ (x_2 : Int) (h' : AHeap), Q23 75 (Q27 (Q2o x x_1 a_2 n_1 c_1)) (Qi (Prod.snd i)) h x_2 h' (decide (x_2 < 0)) (Q2m xs left n) h (∃ (j : Nat × Int), Q1s a n c (Qj x_2 (Prod.snd j)) i j h h' (Q2n j xs) (Q2m xs left n) (∀ (k : Int), k = Q2m xs left n → k = Q2m xs left n) (∀ (v : Value) (h_1 : AHeap), Q1t v (Q2m xs left n) h_1 h (Q2m xs left n)))))) (∃ (j : Int), Q1n i j h (j = Q2m xs left n)))) = _) ?_; delta Qh Qi Qj Qk Ql Qm Q10 Q16 Q1g Q1m Q1n Q1p Q1q Q1r Q1s Q1t Q23 Q27 Q2a Q2m Q2n Q2o Q2p)
    simp only [true_and, and_true]
    rintro ⟨i, x⟩ ⟨hi, h0, h1, he⟩
    dsimp only at *
    refine bs_d (fun hlt => ?_) (fun hge => ?_)
    · have hio : i < xs.length := by omega
      obtain ⟨l, r, row, ha, _, hrd, hld⟩ := hx.elem (List.getElem?_eq_getElem hio)
      have hoi := ok.2 xs[i] (List.getElem_mem hio)
      obtain ⟨v1, rfl, k1⟩ := rd_change.1 hrd
      rw [List.drop_eq_getElem_cons hio] at he
      have he : (if changeSh.sz xs[i] x < 0 then -1 else szL changeSh.sz (xs.drop (i + 1)) (changeSh.sz xs[i] x)) = szL changeSh.sz xs (left - n) := he
      have b1 := changeSh.sz_le xs[i] x h0
      obtain ⟨a1, c1, rfl⟩ := k1.isSlice
      refine ⟨l, r, ha, Int.natCast_nonneg _, hlt, _, _, _, _, _, hld, changeSh.sz xs[i] x, h, szChange_spec h xs[i] x _ k1 ⟨h0, h1⟩ hoi, bs_d (fun hneg => ?_) (fun hpos => ?_)⟩
      · rw [if_pos hneg] at he; rw [← he]; exact ⟨rfl, rfl⟩
      · rw [if_neg hpos] at he
        exact ⟨(i + 1, changeSh.sz xs[i] x), rfl, by rw [wrap_i64 (by omega)] <;> rfl, rfl, ⟨by dsimp only; omega, by dsimp only; omega, by dsimp only; omega, he⟩, by dsimp only; omega, fun _ h => h, fun _ _ h => h⟩
    · have e : i = xs.length := by omega
      subst e
      rw [List.drop_length] at he
      exact ⟨x, rfl, he⟩
  · (refine vc_mp (by kernel_rfl : (Qk (decide (Qm (Ql left n) < 0)) (ite (Ql left n < 0) (-1) (Q2m xs left n)) h h (∃ (i : Nat × Int), Q1x a n c left i h (Q2n i xs) (Q2m xs left n) (∀ (j : Int), j = Q2m xs left n → Qj j (ite (Ql left n < 0) (-1) (Q2m xs left n)) ∧ h = h) (∀ (v : Value) (h_1 : AHeap), Q1t v (Q2m xs left n) h_1 h (ite (Ql left n < 0) (-1) (Q2m xs left n))))) = _) ?_; delta Qi Qj Qk Ql Qm Qv Q10 Q1p Q1r Q1t Q1x Q2m Q2n)
    rw [wrap_i64 (by omega)]
    refine bs_d (fun e => ?_) (fun e => ?_)
    · rw [if_pos e]; exact ⟨rfl, rfl⟩
    · rw [if_neg e]
      exact ⟨(0, left - n), rfl, rfl, rfl, rfl, ⟨Nat.zero_le _, by dsimp only; omega, by dsimp only; omega, rfl⟩, fun j hj => ⟨by rw [hj], rfl⟩, fun _ _ h => h⟩
theorem toChange_spec (h : AHeap) (x : changeSh.T) (v1 : Value) (h1 : Sl h proofSh x.2.2 v1) (hw : h.wf) (ok : changeSh.small x) :
    ∃ v h', ACall Tryz.prog 85 [.agg #[.int .i64 x.1, .int .i64 x.2.1, v1]] h v h' ∧ h.Le h' ∧ h'.wf ∧ ∃ w1 ids, v = .agg #[.int .i64 x.1, .int .i64 x.2.1, w1] ∧ changeSh.ro h' x [.int .i64 x.1, .int .i64 x.2.1, w1] ids ∧ Fresh h.n h'.n ids := by
  obtain ⟨x1, x2, x3⟩ := x
  try dsimp only at *
  obtain ⟨a1, c1, rfl⟩ := h1.isSlice
  refine acall_q fun Q HQ => ?_
  refine acall_vc (fun _ => false) (fun _ => []) (fun _ => .none) mixed Tryz.func85 rfl rfl rfl (Nat.le_of_ble_eq_true rfl) (by (refine vc_mp (by kernel_rfl : (Q2b (True ∧ True ∧ True)) = _) ?_; delta Q2b); simp only [and_self]) ?_
  (refine vc_mp (by kernel_rfl : (∃ (a : Option Addr) (n c : Nat) (h' : AHeap), Q2c 132 [Q2l a1 x3 c1] h a n c h' (Q (Q27 (Q2o x1 x2 a n c)) h')) = _) ?_; delta Qi Q27 Q2c Q2l Q2o)
  obtain ⟨u1, g1, A1, l1, W1, ids1, rfl, r1, f1⟩ := toProofS_spec h a1 _ c1 _ hw h1 ok.2.2
  have L1 : h.Le g1 := l1
  refine ⟨_, _, _, _, A1, HQ _ _ ⟨L1, W1, _, [] ++ ([] ++ (ids1)), rfl, ?_, ?_⟩⟩
  · exact ⟨[_], _, [], _, rfl, rfl, ⟨rfl, rfl⟩, [_], _, [], _, rfl, rfl, ⟨rfl, rfl⟩, ro_sl.2 ⟨_, rfl, r1⟩⟩
  · exact (show Fresh h.n g1.n (ids1) from f1)
def Q2q (a : Nat) (b : Q3c) (c : Q3o) (d : Q3e) := ToI changeSh [Qv, Qv, Q2d] a b c a (Prod.fst d) (Qt d) (Qs d)
def Q2r (a : Nat) (b : Q3c) (c : Q3o) (d : Q3d) := ToI changeSh [Qv, Qv, Q2d] a b c (Prod.fst d) (Qo d) (Qt (Prod.snd d)) (Qs (Prod.snd d))
def Q2s (a : Q3c) (b : Nat) := Qp a (some Q2p) b
theorem toChangeS_spec (h : AHeap) (a : Option Addr) (n c : Nat) (xs : List changeSh.T) (hw : h.wf) (hx : Sl h changeSh xs (.slice a n c)) (ok : (Sh.sl changeSh).small xs) :
    ∃ v h', ACall Tryz.prog 37 [.slice a n c] h v h' ∧ h.Le h' ∧ h'.wf ∧ ∃ ids, v = .slice (some ⟨h.n, 0, some 3⟩) n (n + 1) ∧ So h' changeSh xs (.slice (some ⟨h.n, 0, some 3⟩) n (n + 1)) ids ∧ Fresh h.n h'.n ids := by
  have en := hx.len
  have ok1 : xs.length ≤ 1048576 := ok.1
  refine acall_vc (fun _ => false) (fun _ => []) (fun _ => toL changeSh [.int .i64 0, .int .i64 0, .slice none 0 0] a n c h xs) mixed Tryz.func37 rfl rfl rfl (Nat.le_of_ble_eq_true rfl) ?_ ?_
  · (refine vc_mp (by kernel_rfl : (Qn (∀ (i : Nat × AHeap × List (List Value) × List (List Nat)), Q2r n h xs i → bs (decide (Qw i < (↑n : Int))) (∃ (l r : Nat), Qx (Q2a a l r Q2p) i n (∃ (x x_1 : Int) (a_2 : Option Addr) (n_1 c_1 : Nat), Qy i l r Q2p (Q2o x x_1 a_2 n_1 c_1) (∃ (x_2 x_3 : Int) (a_3 : Option Addr) (n_2 c_2 : Nat) (h' : AHeap), ACall Tryz.prog 85 [Q27 (Q2o x x_1 a_2 n_1 c_1)] (Qo i) (Q27 (Q2o x_2 x_3 a_3 n_2 c_2)) h' ∧ (∃ (l r : Nat), Qx (Q2a (Q14 h changeSh) l r Q2p) i n (∃ (h'_1 : AHeap), Qz h' l r i (Q2o x_2 x_3 a_3 n_2 c_2) h'_1 (∃ (j : Nat × AHeap × List (List Value) × List (List Nat)), Q11 a n c (Qq h changeSh n) i j h'_1 (Q2r n h xs j) (∀ (k : AHeap × List (List Value) × List (List Nat)), Q2q n h xs k → Q2q n h xs k) (∀ (v : Value) (h : AHeap), False → False))))))) (∃ (j : AHeap × List (List Value) × List (List Nat)), Qr h changeSh n j i (Q2q n h xs j)))) = _) ?_; delta Qg Qi Qj Qm Qn Qo Qp Qq Qr Qs Qt Qv Qw Qx Qy Qz Q10 Q11 Q14 Q27 Q2a Q2d Q2o Q2p Q2q Q2r)
    simp only [true_and, and_true]
    rintro ⟨i, h1, rows, idss⟩ I
    dsimp only at *
    refine bs_d (fun hlt => ?_) (fun hge => ?_)
    · have hio : i < xs.length := by omega
      obtain ⟨l, r, row, ha, _, hrd, hld⟩ := (hx.mono I.le).elem (List.getElem?_eq_getElem hio)
      obtain ⟨v1, rfl, k1⟩ := rd_change.1 hrd
      obtain ⟨a1, c1, rfl⟩ := k1.isSlice
      obtain ⟨v, h2, hA, hle, hw2, w1, ids, rfl, hro, hf⟩ := toChange_spec h1 xs[i] _ k1 I.wf (ok.2 _ (List.getElem_mem hio))
      obtain ⟨z1, ez, q1⟩ := rd_change.1 hro.rd
      cases ez
      obtain ⟨b1, d1, rfl⟩ := q1.isSlice
      obtain ⟨h3, e3, I3⟩ := I.step (by omega) (List.getElem?_eq_getElem hio) hle hw2 hro hf
      refine ⟨l, r, ha, Int.natCast_nonneg _, hlt, _, _, _, _, _, hld, _, _, _, _, _, _, hA, h.n, 0, rfl, Int.natCast_nonneg _, hlt, h3, e3, (i + 1, h3, _, _), by rw [wrap_i64 (by omega)] <;> rfl, rfl, I3, by dsimp only; omega, fun _ h => h, fun _ _ h => h⟩
    · have hi := I.hi
      have e : i = n := by omega
      subst e
      exact ⟨(h1, rows, idss), rfl, I⟩
  · (refine vc_mp (by kernel_rfl : (Q15 n 40 (∃ (i : Nat × AHeap × List (List Value) × List (List Nat)), Q17 a n c (Q2s h (Q16 n)) h changeSh i [Q1d, Q1d, Q2d] Q2p (Q2r n h xs i) (∀ (j : AHeap × List (List Value) × List (List Nat)), Q1b (Q2q n h xs j) h j (∃ (ids : List Nat), Q1c h changeSh n (Q2s h n) (So (Prod.fst j) changeSh xs (Q2s h n) ids) j ids)) (∀ (v : Value) (h_1 : AHeap), Q18 h h_1 (∃ (ids : List Nat), Q19 (v = Q2s h n) (So h_1 changeSh xs (Q2s h n) ids) h h_1 ids)))) = _) ?_; delta Qi Qo Qp Qs Qt Qv Qw Q10 Q15 Q16 Q17 Q18 Q19 Q1b Q1c Q1d Q2d Q2p Q2q Q2r Q2s)
    refine ⟨Int.natCast_nonneg _, Int.le_refl _, by omega, (0, _, _, _), rfl, rfl, rfl, rfl, ToI.start hw rfl, ?_, fun _ _ h => h.elim⟩
    rintro ⟨h1, rows, idss⟩ I
    obtain ⟨ids, h2, h3⟩ := ToI.finish I en (n + 1)
    exact ⟨I.le, I.wf, ids, rfl, h2, h3⟩
def Q2t (a b : Q3m) (c : Sh.T (Sh.sl proofSh)) := Prod.mk a (Prod.mk b c)
theorem eqChange_spec (h : AHeap) (x y : changeSh.T) (v1 : Value) (h1 : Sl h proofSh x.2.2 v1) (w1 : Value) (j1 : Sl h proofSh y.2.2 w1) (ok : changeSh.ok x) :
    ACall Tryz.prog 101 [.agg #[.int .i64 x.1, .int .i64 x.2.1, v1], .agg #[.int .i64 y.1, .int .i64 y.2.1, w1]] h (.bool (eqb x y)) h := by
  obtain ⟨x1, x2, x3⟩ := x
  obtain ⟨y1, y2, y3⟩ := y
  try dsimp only at *
  obtain ⟨a1, c1, rfl⟩ := h1.isSlice
  obtain ⟨ab1, cb1, rfl⟩ := j1.isSlice
  refine acall_out (acall_vc (fun _ => false) (fun _ => []) (fun _ => .none) mixed Tryz.func101 rfl rfl rfl (Nat.le_of_ble_eq_true rfl) (by (refine vc_mp (by kernel_rfl : (Q2h (True ∧ True)) = _) ?_; delta Qh Q2h); simp only [and_self]) ?_)
  (refine vc_mp (by kernel_rfl : (Q2i (decide (x1 = y1)) (eqb (Q2t x1 x2 x3) (Q2t y1 y2 y3)) h h (decide (x2 = y2)) (∃ (x : Bool) (h' : AHeap), Q2j 140 (Q2l a1 x3 c1) (Q2l ab1 y3 cb1) h x h' (eqb (Q2t x1 x2 x3) (Q2t y1 y2 y3)) h (Q1l (eqb (Q2t x1 x2 x3) (Q2t y1 y2 y3)) h' h))) = _) ?_; delta Q1h Q1l Q2i Q2j Q2l Q2t)
  refine bs_dn (fun e => ⟨congrArg _ (eqb_false fun e' => e (by cases e'; rfl)), rfl⟩) (fun e1 => ?_)
  refine bs_dn (fun e => ⟨congrArg _ (eqb_false fun e' => e (by cases e'; rfl)), rfl⟩) (fun e2 => ?_)
  refine ⟨_, _, eqProofS_spec h a1 _ c1 ab1 _ cb1 _ _ h1 j1 ok.2.2, bs_nb (fun e => ⟨congrArg _ (eqb_false fun e' => of_eqb_false e (by cases e'; rfl)), rfl⟩) (fun e3 => ?_)⟩
  exact ⟨congrArg _ (eqb_true (Prod.ext e1 (Prod.ext e2 (of_eqb e3)))), rfl⟩
theorem eqChangeS_spec (h : AHeap) (a : Option Addr) (n c : Nat) (a' : Option Addr) (n' c' : Nat) (xs ys : List changeSh.T) (hx : Sl h changeSh xs (.slice a n c)) (hy : Sl h changeSh ys (.slice a' n' c')) (ok : (Sh.sl changeSh).ok xs) :
    ACall Tryz.prog 42 [.slice a n c, .slice a' n' c'] h (.bool (eqb xs ys)) h := by
  have en := hx.len
  have en' := hy.len
  have hn : xs.length ≤ 9223372036854775807 := ok.1
  refine acall_out (acall_vc (fun _ => false) (fun _ => [(0, 0, []), (1, 0, []), (2, 0, []), (4, 0, []), (5, 0, []), (6, 0, []), (3, 1, []), (7, 1, []), (8, 3, []), (9, 0, [])]) (fun _ => eqLp h a n c a' n' c' xs ys) mixed Tryz.func42 rfl rfl rfl (Nat.le_of_ble_eq_true rfl) ?_ ?_)
  · (refine vc_mp (by kernel_rfl : (Q1e (∀ (i : Nat), EqI xs ys i → bs (decide ((↑i : Int) < (↑n : Int))) (∃ (l r : Nat), Q1f (Q2a a l r Q2p) i n (∃ (l_1 r_1 : Nat), Q1f (Q2a a' l_1 r_1 Q2p) i n' (∃ (x x_1 : Int) (a_2 : Option Addr) (n_1 c_1 : Nat), Q1g h l r i Q2p (Q2o x x_1 a_2 n_1 c_1) (∃ (x_2 x_3 : Int) (a_3 : Option Addr) (n_2 c_2 : Nat), Q1g h l_1 r_1 i Q2p (Q2o x_2 x_3 a_3 n_2 c_2) (∃ (x_4 : Bool) (h' : AHeap), Q2j 101 (Q27 (Q2o x x_1 a_2 n_1 c_1)) (Q27 (Q2o x_2 x_3 a_3 n_2 c_2)) h x_4 h' (eqb xs ys) h (∃ (j : Nat), Q1i a n c a' n' c' i j h h' (EqI xs ys j) (List.length xs) (∀ (k : Unit), xs = ys → xs = ys) (∀ (v : Value) (h_1 : AHeap), Q1j v (eqb xs ys) h_1 h))))))) (∃ (j : Unit), h = h ∧ xs = ys))) = _) ?_; delta Qg Qh Qi Qj Qm Q10 Q16 Q1e Q1f Q1g Q1h Q1i Q1j Q27 Q2a Q2j Q2o Q2p)
    simp only [true_and, and_true]
    rintro (i : Nat) I
    have hl := I.len
    have hi := I.hi
    refine bs_d (fun hlt => ?_) (fun hge => ?_)
    · have hxi : i < xs.length := by omega
      have hyi : i < ys.length := by omega
      obtain ⟨l, r, row, ha, hin, hrd, hld⟩ := hx.elem (List.getElem?_eq_getElem hxi)
      obtain ⟨l', r', row', ha', hin', hrd', hld'⟩ := hy.elem (List.getElem?_eq_getElem hyi)
      obtain ⟨v1, rfl, k1⟩ := rd_change.1 hrd
      obtain ⟨w1, rfl, kk1⟩ := rd_change.1 hrd'
      obtain ⟨a1, c1, rfl⟩ := k1.isSlice
      obtain ⟨b1, d1, rfl⟩ := kk1.isSlice
      refine ⟨l, r, ha, Int.natCast_nonneg _, hlt, l', r', ha', Int.natCast_nonneg _, by omega, _, _, _, _, _, hld, _, _, _, _, _, hld', _, _, eqChange_spec h xs[i] ys[i] _ k1 _ kk1 (ok.2 _ (List.getElem_mem hxi)), bs_nb (fun hb => ?_) (fun hb => ?_)⟩
      · exact ⟨congrArg _ (eqb_false fun e => of_eqb_false hb (by subst e; rfl)), rfl⟩
      · exact ⟨i + 1, by rw [wrap_i64 (by omega)] <;> rfl, rfl, I.step hxi hyi (of_eqb hb), by omega, fun _ h => h, fun _ _ h => h⟩
    · have e : i = xs.length := by omega
      subst e
      exact ⟨(), I.all⟩
  · (refine vc_mp (by kernel_rfl : (Q1h (decide ((↑n : Int) = (↑n' : Int))) (eqb xs ys) h h (∃ (i : Nat), Q1k a n c a' n' c' i h (EqI xs ys i) (∀ (j : Unit), xs = ys → Q1l (eqb xs ys) h h) (∀ (v : Value) (h_1 : AHeap), Q1j v (eqb xs ys) h_1 h))) = _) ?_; delta Qi Qv Q10 Q1h Q1j Q1k Q1l)
    refine bs_dn (fun hne => ⟨congrArg _ (eqb_false fun e => hne (by rw [← en, ← en', e])), rfl⟩) (fun he => ?_)
    exact ⟨(0 : Nat), rfl, rfl, rfl, rfl, ⟨by omega, Nat.zero_le _, rfl⟩, fun j e => ⟨congrArg _ (eqb_true e), rfl⟩, fun _ _ h => h⟩
def Q2u (a b c d : Q3m) (e : Q3n) (f : Q3p) := Prod.mk a (Prod.mk b (Prod.mk c (Prod.mk d (Prod.mk e f))))
def Q2v (a : Q3h) (b : Q3o) (c : Nat) := Value.slice a (List.length b) c
theorem szSay_spec (h : AHeap) (x : saySh.T) (left : Int) (v1 : Value) (h1 : Sl h changeSh x.2.2.2.2.2 v1) (hl : 0 ≤ left ∧ left ≤ 1048576) (ok : saySh.ok x) :
    ACall Tryz.prog 21 [.agg #[.int .i64 x.1, .int .i64 x.2.1, .int .i64 x.2.2.1, .int .i64 x.2.2.2.1, .string x.2.2.2.2.1, v1], .int .i64 left] h (.int .i64 (saySh.sz x left)) h := by
  obtain ⟨x1, x2, x3, x4, x5, x6⟩ := x
  try dsimp only at *
  obtain ⟨a1, c1, rfl⟩ := h1.isSlice
  refine acall_out (acall_vc (fun _ => false) (fun _ => []) (fun _ => .none) mixed Tryz.func21 rfl rfl rfl (Nat.le_of_ble_eq_true rfl) (by (refine vc_mp (by kernel_rfl : (Q21 Q22) = _) ?_; delta Qh Q21 Q22); simp only [and_self]) ?_)
  (refine vc_mp (by kernel_rfl : (Qk (decide (Qm (Q1v left x5) < 0)) (Sh.sz saySh (Q2u x1 x2 x3 x4 x5 x6) left) h h (∃ (x : Int) (h' : AHeap), Q23 30 (Q2v a1 x6 c1) (Qi (Qm (Q1v left x5))) h x h' (decide (x < 0)) (Sh.sz saySh (Q2u x1 x2 x3 x4 x5 x6) left) h (Qj x (Sh.sz saySh (Q2u x1 x2 x3 x4 x5 x6) left) ∧ h' = h))) = _) ?_; delta Qi Qj Qk Ql Qm Q1v Q23 Q2u Q2v)
  have o1 : (x5 : ByteArray).size ≤ 9223372036854775807 := ok.2.2.2.2.1
  rw [wrap_i64 (by omega)]
  refine bs_d (fun e1 => by refine ⟨congrArg _ (Eq.symm ?_), rfl⟩; exact sz_step rfl hl.1 (sz_step rfl hl.1 (sz_step rfl hl.1 (sz_step rfl hl.1 (sz_stop (neg1 (sz_strn e1))))))) (fun e1 => ?_)
  have b2 := (Sh.sl changeSh).sz_le x6 (left - ((x5 : ByteArray).size : Int)) (by omega)
  refine ⟨_, _, szChangeS_spec h a1 _ c1 _ (left - ((x5 : ByteArray).size : Int)) h1 (by omega) ok.2.2.2.2.2, bs_d (fun e2 => by refine ⟨congrArg _ (Eq.symm ?_), rfl⟩; exact sz_step rfl hl.1 (sz_step rfl hl.1 (sz_step rfl hl.1 (sz_step rfl hl.1 (sz_step (sz_str e1) (Int.not_lt.1 e1) (sz_neg (Int.not_lt.1 e1) e2)))))) (fun e2 => ?_)⟩
  refine ⟨congrArg _ (Eq.symm ?_), rfl⟩
  exact sz_step rfl hl.1 (sz_step rfl hl.1 (sz_step rfl hl.1 (sz_step rfl hl.1 (sz_step (sz_str e1) (Int.not_lt.1 e1) (rfl)))))
def Q2w (a b c d : Int) (e : Q3k) (f : Q3h) (g h : Nat) := [Qi a, Qi b, Qi c, Qi d, Value.string e, Value.slice f g h]
theorem toSay_spec (h : AHeap) (x : saySh.T) (v1 : Value) (h1 : Sl h changeSh x.2.2.2.2.2 v1) (hw : h.wf) (ok : saySh.small x) :
    ∃ v h', ACall Tryz.prog 23 [.agg #[.int .i64 x.1, .int .i64 x.2.1, .int .i64 x.2.2.1, .int .i64 x.2.2.2.1, .string x.2.2.2.2.1, v1]] h v h' ∧ h.Le h' ∧ h'.wf ∧ ∃ w1 ids, v = .agg #[.int .i64 x.1, .int .i64 x.2.1, .int .i64 x.2.2.1, .int .i64 x.2.2.2.1, .string x.2.2.2.2.1, w1] ∧ saySh.ro h' x [.int .i64 x.1, .int .i64 x.2.1, .int .i64 x.2.2.1, .int .i64 x.2.2.2.1, .string x.2.2.2.2.1, w1] ids ∧ Fresh h.n h'.n ids := by
  obtain ⟨x1, x2, x3, x4, x5, x6⟩ := x
  try dsimp only at *
  obtain ⟨a1, c1, rfl⟩ := h1.isSlice
  refine acall_q fun Q HQ => ?_
  refine acall_vc (fun _ => false) (fun _ => []) (fun _ => .none) mixed Tryz.func23 rfl rfl rfl (Nat.le_of_ble_eq_true rfl) (by (refine vc_mp (by kernel_rfl : (Q2b (Q2b (True ∧ True))) = _) ?_; delta Q2b); simp only [and_self]) ?_
  (refine vc_mp (by kernel_rfl : (∃ (a : Option Addr) (n c : Nat) (h' : AHeap), Q2c 37 [Q2v a1 x6 c1] h a n c h' (Q (Q27 (Q2w x1 x2 x3 x4 x5 a n c)) h')) = _) ?_; delta Qi Q27 Q2c Q2v Q2w)
  obtain ⟨u1, g1, A1, l1, W1, ids1, rfl, r1, f1⟩ := toChangeS_spec h a1 _ c1 _ hw h1 ok.2.2.2.2.2
  have L1 : h.Le g1 := l1
  refine ⟨_, _, _, _, A1, HQ _ _ ⟨L1, W1, _, [] ++ ([] ++ ([] ++ ([] ++ ([] ++ (ids1))))), rfl, ?_, ?_⟩⟩
  · exact ⟨[_], _, [], _, rfl, rfl, ⟨rfl, rfl⟩, [_], _, [], _, rfl, rfl, ⟨rfl, rfl⟩, [_], _, [], _, rfl, rfl, ⟨rfl, rfl⟩, [_], _, [], _, rfl, rfl, ⟨rfl, rfl⟩, [_], _, [], _, rfl, rfl, ⟨rfl, rfl⟩, ro_sl.2 ⟨_, rfl, r1⟩⟩
  · exact (show Fresh h.n g1.n (ids1) from f1)
def Q2x (a b c d : Q3m) (e : Q3n) (f : Q3p) := Prod.mk a (Prod.mk b (Prod.mk c (Prod.mk d (Prod.mk e f))))
theorem eqSay_spec (h : AHeap) (x y : saySh.T) (v1 : Value) (h1 : Sl h changeSh x.2.2.2.2.2 v1) (w1 : Value) (j1 : Sl h changeSh y.2.2.2.2.2 w1) (ok : saySh.ok x) :
    ACall Tryz.prog 25 [.agg #[.int .i64 x.1, .int .i64 x.2.1, .int .i64 x.2.2.1, .int .i64 x.2.2.2.1, .string x.2.2.2.2.1, v1], .agg #[.int .i64 y.1, .int .i64 y.2.1, .int .i64 y.2.2.1, .int .i64 y.2.2.2.1, .string y.2.2.2.2.1, w1]] h (.bool (eqb x y)) h := by
  obtain ⟨x1, x2, x3, x4, x5, x6⟩ := x
  obtain ⟨y1, y2, y3, y4, y5, y6⟩ := y
  try dsimp only at *
  obtain ⟨a1, c1, rfl⟩ := h1.isSlice
  obtain ⟨ab1, cb1, rfl⟩ := j1.isSlice
  refine acall_out (acall_vc (fun _ => false) (fun _ => []) (fun _ => .none) mixed Tryz.func25 rfl rfl rfl (Nat.le_of_ble_eq_true rfl) (by (refine vc_mp (by kernel_rfl : (Q2h (Qh ∧ Qh ∧ Qh ∧ True ∧ True)) = _) ?_; delta Qh Q2h); simp only [and_self]) ?_)
  (refine vc_mp (by kernel_rfl : (Q2i (decide (x1 = y1)) (eqb (Q2x x1 x2 x3 x4 x5 x6) (Q2x y1 y2 y3 y4 y5 y6)) h h (decide (x2 = y2)) (Q2i (decide (x3 = y3)) (eqb (Q2x x1 x2 x3 x4 x5 x6) (Q2x y1 y2 y3 y4 y5 y6)) h h (decide (x4 = y4)) (Q1h (decide (x5 = y5)) (eqb (Q2x x1 x2 x3 x4 x5 x6) (Q2x y1 y2 y3 y4 y5 y6)) h h (∃ (x : Bool) (h' : AHeap), Q2j 42 (Q2v a1 x6 c1) (Q2v ab1 y6 cb1) h x h' (eqb (Q2x x1 x2 x3 x4 x5 x6) (Q2x y1 y2 y3 y4 y5 y6)) h (Q1l (eqb (Q2x x1 x2 x3 x4 x5 x6) (Q2x y1 y2 y3 y4 y5 y6)) h' h))))) = _) ?_; delta Q1h Q1l Q2i Q2j Q2v Q2x)
  refine bs_dn (fun e => ⟨congrArg _ (eqb_false fun e' => e (by cases e'; rfl)), rfl⟩) (fun e1 => ?_)
  refine bs_dn (fun e => ⟨congrArg _ (eqb_false fun e' => e (by cases e'; rfl)), rfl⟩) (fun e2 => ?_)
  refine bs_dn (fun e => ⟨congrArg _ (eqb_false fun e' => e (by cases e'; rfl)), rfl⟩) (fun e3 => ?_)
  refine bs_dn (fun e => ⟨congrArg _ (eqb_false fun e' => e (by cases e'; rfl)), rfl⟩) (fun e4 => ?_)
  refine bs_dn (fun e => ⟨congrArg _ (eqb_false fun e' => e (by cases e'; rfl)), rfl⟩) (fun e5 => ?_)
  refine ⟨_, _, eqChangeS_spec h a1 _ c1 ab1 _ cb1 _ _ h1 j1 ok.2.2.2.2.2, bs_nb (fun e => ⟨congrArg _ (eqb_false fun e' => of_eqb_false e (by cases e'; rfl)), rfl⟩) (fun e6 => ?_)⟩
  exact ⟨congrArg _ (eqb_true (Prod.ext e1 (Prod.ext e2 (Prod.ext e3 (Prod.ext e4 (Prod.ext e5 (of_eqb e6))))))), rfl⟩
theorem eqSayS_spec (h : AHeap) (a : Option Addr) (n c : Nat) (a' : Option Addr) (n' c' : Nat) (xs ys : List saySh.T) (hx : Sl h saySh xs (.slice a n c)) (hy : Sl h saySh ys (.slice a' n' c')) (ok : (Sh.sl saySh).ok xs) :
    ACall Tryz.prog 11 [.slice a n c, .slice a' n' c'] h (.bool (eqb xs ys)) h := by
  have en := hx.len
  have en' := hy.len
  have hn : xs.length ≤ 9223372036854775807 := ok.1
  refine acall_out (acall_vc (fun _ => false) (fun _ => [(0, 0, []), (1, 0, []), (2, 0, []), (4, 0, []), (5, 0, []), (6, 0, []), (3, 1, []), (7, 1, []), (8, 3, []), (9, 0, [])]) (fun _ => eqLp h a n c a' n' c' xs ys) mixed Tryz.func11 rfl rfl rfl (Nat.le_of_ble_eq_true rfl) ?_ ?_)
  · (refine vc_mp (by kernel_rfl : (Q1e (∀ (i : Nat), EqI xs ys i → bs (decide ((↑i : Int) < (↑n : Int))) (∃ (l r : Nat), Q1f (Q2a a l r 6) i n (∃ (l_1 r_1 : Nat), Q1f (Q2a a' l_1 r_1 6) i n' (∃ (x x_1 x_2 x_3 : Int) (x_4 : ByteArray) (a_2 : Option Addr) (n_1 c_1 : Nat), Q1g h l r i 6 (Q2w x x_1 x_2 x_3 x_4 a_2 n_1 c_1) (∃ (x_5 x_6 x_7 x_8 : Int) (x_9 : ByteArray) (a_3 : Option Addr) (n_2 c_2 : Nat), Q1g h l_1 r_1 i 6 (Q2w x_5 x_6 x_7 x_8 x_9 a_3 n_2 c_2) (∃ (x_10 : Bool) (h' : AHeap), Q2j 25 (Q27 (Q2w x x_1 x_2 x_3 x_4 a_2 n_1 c_1)) (Q27 (Q2w x_5 x_6 x_7 x_8 x_9 a_3 n_2 c_2)) h x_10 h' (eqb xs ys) h (∃ (j : Nat), Q1i a n c a' n' c' i j h h' (EqI xs ys j) (List.length xs) (∀ (k : Unit), xs = ys → xs = ys) (∀ (v : Value) (h_1 : AHeap), Q1j v (eqb xs ys) h_1 h))))))) (∃ (j : Unit), h = h ∧ xs = ys))) = _) ?_; delta Qg Qh Qi Qj Qm Q10 Q16 Q1e Q1f Q1g Q1h Q1i Q1j Q27 Q2a Q2j Q2w)
    simp only [true_and, and_true]
    rintro (i : Nat) I
    have hl := I.len
    have hi := I.hi
    refine bs_d (fun hlt => ?_) (fun hge => ?_)
    · have hxi : i < xs.length := by omega
      have hyi : i < ys.length := by omega
      obtain ⟨l, r, row, ha, hin, hrd, hld⟩ := hx.elem (List.getElem?_eq_getElem hxi)
      obtain ⟨l', r', row', ha', hin', hrd', hld'⟩ := hy.elem (List.getElem?_eq_getElem hyi)
      obtain ⟨v1, rfl, k1⟩ := rd_say.1 hrd
      obtain ⟨w1, rfl, kk1⟩ := rd_say.1 hrd'
      obtain ⟨a1, c1, rfl⟩ := k1.isSlice
      obtain ⟨b1, d1, rfl⟩ := kk1.isSlice
      refine ⟨l, r, ha, Int.natCast_nonneg _, hlt, l', r', ha', Int.natCast_nonneg _, by omega, _, _, _, _, _, _, _, _, hld, _, _, _, _, _, _, _, _, hld', _, _, eqSay_spec h xs[i] ys[i] _ k1 _ kk1 (ok.2 _ (List.getElem_mem hxi)), bs_nb (fun hb => ?_) (fun hb => ?_)⟩
      · exact ⟨congrArg _ (eqb_false fun e => of_eqb_false hb (by subst e; rfl)), rfl⟩
      · exact ⟨i + 1, by rw [wrap_i64 (by omega)] <;> rfl, rfl, I.step hxi hyi (of_eqb hb), by omega, fun _ h => h, fun _ _ h => h⟩
    · have e : i = xs.length := by omega
      subst e
      exact ⟨(), I.all⟩
  · (refine vc_mp (by kernel_rfl : (Q1h (decide ((↑n : Int) = (↑n' : Int))) (eqb xs ys) h h (∃ (i : Nat), Q1k a n c a' n' c' i h (EqI xs ys i) (∀ (j : Unit), xs = ys → Q1l (eqb xs ys) h h) (∀ (v : Value) (h_1 : AHeap), Q1j v (eqb xs ys) h_1 h))) = _) ?_; delta Qi Qv Q10 Q1h Q1j Q1k Q1l)
    refine bs_dn (fun hne => ⟨congrArg _ (eqb_false fun e => hne (by rw [← en, ← en', e])), rfl⟩) (fun he => ?_)
    exact ⟨(0 : Nat), rfl, rfl, rfl, rfl, ⟨by omega, Nat.zero_le _, rfl⟩, fun j e => ⟨congrArg _ (eqb_true e), rfl⟩, fun _ _ h => h⟩
theorem szVote_spec (h : AHeap) (x : voteSh.T) (left : Int) (hl : 0 ≤ left ∧ left ≤ 1048576) (ok : voteSh.ok x) :
    ACall Tryz.prog 74 [.agg #[.int .i64 x.1, .int .i64 x.2.1, .int .i64 x.2.2.1, .string x.2.2.2.1, .int .i64 x.2.2.2.2], .int .i64 left] h (.int .i64 (voteSh.sz x left)) h := by
  obtain ⟨x1, x2, x3, x4, x5⟩ := x
  try dsimp only at *
  refine acall_out (acall_vc (fun _ => false) (fun _ => []) (fun _ => .none) mixed Tryz.func74 rfl rfl rfl (Nat.le_of_ble_eq_true rfl) (by (refine vc_mp (by kernel_rfl : (Qg True Qh) = _) ?_; delta Qg Qh); simp only [and_self]) ?_)
  (refine vc_mp (by kernel_rfl : (Qk (decide (Qm (Q1v left x4) < 0)) (Sh.sz voteSh (Prod.mk x1 (Prod.mk x2 (Prod.mk x3 (Prod.mk x4 x5)))) left) h h (Qj (Qm (Q1v left x4)) (Sh.sz voteSh (Prod.mk x1 (Prod.mk x2 (Prod.mk x3 (Prod.mk x4 x5)))) left) ∧ h = h)) = _) ?_; delta Qi Qj Qk Ql Qm Q1v)
  have o1 : (x4 : ByteArray).size ≤ 9223372036854775807 := ok.2.2.2.1
  rw [wrap_i64 (by omega)]
  refine bs_d (fun e1 => by refine ⟨congrArg _ (Eq.symm ?_), rfl⟩; exact sz_step rfl hl.1 (sz_step rfl hl.1 (sz_step rfl hl.1 (sz_stop (neg1 (sz_strn e1)))))) (fun e1 => ?_)
  refine ⟨congrArg _ (Eq.symm ?_), rfl⟩
  exact sz_step rfl hl.1 (sz_step rfl hl.1 (sz_step rfl hl.1 (sz_step (sz_str e1) (Int.not_lt.1 e1) (rfl))))
def Q2y (a : Q3q) (b : Int) (c : Nat) := szL (Sh.sz voteSh) a (Ql b c)
def Q2z (a : Q3i) (b : Q3q) := szL (Sh.sz voteSh) (List.drop (Prod.fst a) b) (Prod.snd a)
def Q30 (a b c : Int) (d : Q3k) (e : Int) := [Qi a, Qi b, Qi c, Value.string d, Qi e]
def Q31 := (5 : Nat)
theorem szVoteS_spec (h : AHeap) (a : Option Addr) (n c : Nat) (xs : List voteSh.T) (left : Int) (hx : Sl h voteSh xs (.slice a n c)) (hl : 0 ≤ left ∧ left ≤ 1048576) (ok : (Sh.sl voteSh).ok xs) :
    ACall Tryz.prog 29 [.slice a n c, .int .i64 left] h (.int .i64 ((Sh.sl voteSh).sz xs left)) h := by
  have en := hx.len
  have ok1 : xs.length ≤ 9223372036854775807 := ok.1
  have key : (Sh.sl voteSh).sz xs left = (if left - (xs.length : Int) < 0 then -1 else szL voteSh.sz xs (left - (xs.length : Int))) := rfl
  rw [key, en]
  refine acall_out (acall_vc (fun _ => false) (fun _ => []) (fun _ => szLp voteSh a n c h xs (szL voteSh.sz xs (left - n))) mixed Tryz.func29 rfl rfl rfl (Nat.le_of_ble_eq_true rfl) ?_ ?_)
  · (refine vc_mp (by kernel_rfl : (Q1m (∀ (i : Nat × Int), Q1r i n (Q2z i xs) (Q2y xs left n) → bs (decide (Q1p i < (↑n : Int))) (∃ (l r : Nat), Q1q (Q2a a l r Q31) i n (∃ (x x_1 x_2 : Int) (x_3 : ByteArray) (x_4 : Int), Q1g h l r (Prod.fst i) Q31 (Q30 x x_1 x_2 x_3 x_4) (∃ (x_5 : Int) (h' : AHeap), Q23 74 (Q27 (Q30 x x_1 x_2 x_3 x_4)) (Qi (Prod.snd i)) h x_5 h' (decide (x_5 < 0)) (Q2y xs left n) h (∃ (j : Nat × Int), Q1s a n c (Qj x_5 (Prod.snd j)) i j h h' (Q2z j xs) (Q2y xs left n) (∀ (k : Int), k = Q2y xs left n → k = Q2y xs left n) (∀ (v : Value) (h_1 : AHeap), Q1t v (Q2y xs left n) h_1 h (Q2y xs left n)))))) (∃ (j : Int), Q1n i j h (j = Q2y xs left n)))) = _) ?_; delta Qh Qi Qj Qk Ql Qm Q10 Q16 Q1g Q1m Q1n Q1p Q1q Q1r Q1s Q1t Q23 Q27 Q2a Q2y Q2z Q30 Q31)
    simp only [true_and, and_true]
    rintro ⟨i, x⟩ ⟨hi, h0, h1, he⟩
    dsimp only at *
    refine bs_d (fun hlt => ?_) (fun hge => ?_)
    · have hio : i < xs.length := by omega
      obtain ⟨l, r, row, ha, _, hrd, hld⟩ := hx.elem (List.getElem?_eq_getElem hio)
      have hoi := ok.2 xs[i] (List.getElem_mem hio)
      obtain rfl := rd_vote.1 hrd
      rw [List.drop_eq_getElem_cons hio] at he
      have he : (if voteSh.sz xs[i] x < 0 then -1 else szL voteSh.sz (xs.drop (i + 1)) (voteSh.sz xs[i] x)) = szL voteSh.sz xs (left - n) := he
      have b1 := voteSh.sz_le xs[i] x h0
      refine ⟨l, r, ha, Int.natCast_nonneg _, hlt, _, _, _, _, _, hld, voteSh.sz xs[i] x, h, szVote_spec h xs[i] x   ⟨h0, h1⟩ hoi, bs_d (fun hneg => ?_) (fun hpos => ?_)⟩
      · rw [if_pos hneg] at he; rw [← he]; exact ⟨rfl, rfl⟩
      · rw [if_neg hpos] at he
        exact ⟨(i + 1, voteSh.sz xs[i] x), rfl, by rw [wrap_i64 (by omega)] <;> rfl, rfl, ⟨by dsimp only; omega, by dsimp only; omega, by dsimp only; omega, he⟩, by dsimp only; omega, fun _ h => h, fun _ _ h => h⟩
    · have e : i = xs.length := by omega
      subst e
      rw [List.drop_length] at he
      exact ⟨x, rfl, he⟩
  · (refine vc_mp (by kernel_rfl : (Qk (decide (Qm (Ql left n) < 0)) (ite (Ql left n < 0) (-1) (Q2y xs left n)) h h (∃ (i : Nat × Int), Q1x a n c left i h (Q2z i xs) (Q2y xs left n) (∀ (j : Int), j = Q2y xs left n → Qj j (ite (Ql left n < 0) (-1) (Q2y xs left n)) ∧ h = h) (∀ (v : Value) (h_1 : AHeap), Q1t v (Q2y xs left n) h_1 h (ite (Ql left n < 0) (-1) (Q2y xs left n))))) = _) ?_; delta Qi Qj Qk Ql Qm Qv Q10 Q1p Q1r Q1t Q1x Q2y Q2z)
    rw [wrap_i64 (by omega)]
    refine bs_d (fun e => ?_) (fun e => ?_)
    · rw [if_pos e]; exact ⟨rfl, rfl⟩
    · rw [if_neg e]
      exact ⟨(0, left - n), rfl, rfl, rfl, rfl, ⟨Nat.zero_le _, by dsimp only; omega, by dsimp only; omega, rfl⟩, fun j hj => ⟨by rw [hj], rfl⟩, fun _ _ h => h⟩
theorem toVote_spec (h : AHeap) (x : voteSh.T) (hw : h.wf) :
    ∃ v h', ACall Tryz.prog 84 [.agg #[.int .i64 x.1, .int .i64 x.2.1, .int .i64 x.2.2.1, .string x.2.2.2.1, .int .i64 x.2.2.2.2]] h v h' ∧ h.Le h' ∧ h'.wf ∧ ∃ ids, v = .agg #[.int .i64 x.1, .int .i64 x.2.1, .int .i64 x.2.2.1, .string x.2.2.2.1, .int .i64 x.2.2.2.2] ∧ voteSh.ro h' x [.int .i64 x.1, .int .i64 x.2.1, .int .i64 x.2.2.1, .string x.2.2.2.1, .int .i64 x.2.2.2.2] ids ∧ Fresh h.n h'.n ids := by
  obtain ⟨x1, x2, x3, x4, x5⟩ := x
  try dsimp only at *
  refine acall_q fun Q HQ => ?_
  refine acall_vc (fun _ => false) (fun _ => []) (fun _ => .none) mixed Tryz.func84 rfl rfl rfl (Nat.le_of_ble_eq_true rfl) (by (refine vc_mp (by kernel_rfl : (Q2b (Qg True True)) = _) ?_; delta Qg Q2b); simp only [and_self]) ?_
  (refine vc_mp (by kernel_rfl : (Q (Q27 (Q30 x1 x2 x3 x4 x5)) h) = _) ?_; delta Qi Q27 Q30)
  exact HQ _ _ ⟨.refl _, hw, [], rfl, (ro_vote (x := (x1, x2, x3, x4, x5))).2 ⟨rfl, rfl⟩, .nil⟩
def Q32 (a : Nat) (b : Q3c) (c : Q3q) (d : Q3e) := ToI voteSh [Qv, Qv, Qv, Q1z, Qv] a b c a (Prod.fst d) (Qt d) (Qs d)
def Q33 (a : Nat) (b : Q3c) (c : Q3q) (d : Q3d) := ToI voteSh [Qv, Qv, Qv, Q1z, Qv] a b c (Prod.fst d) (Qo d) (Qt (Prod.snd d)) (Qs (Prod.snd d))
def Q34 (a : Q3c) (b : Nat) := Qp a (some Q31) b
theorem toVoteS_spec (h : AHeap) (a : Option Addr) (n c : Nat) (xs : List voteSh.T) (hw : h.wf) (hx : Sl h voteSh xs (.slice a n c)) (ok : (Sh.sl voteSh).small xs) :
    ∃ v h', ACall Tryz.prog 36 [.slice a n c] h v h' ∧ h.Le h' ∧ h'.wf ∧ ∃ ids, v = .slice (some ⟨h.n, 0, some 5⟩) n (n + 1) ∧ So h' voteSh xs (.slice (some ⟨h.n, 0, some 5⟩) n (n + 1)) ids ∧ Fresh h.n h'.n ids := by
  have en := hx.len
  have ok1 : xs.length ≤ 1048576 := ok.1
  refine acall_vc (fun _ => false) (fun _ => []) (fun _ => toL voteSh [.int .i64 0, .int .i64 0, .int .i64 0, .string ⟨#[]⟩, .int .i64 0] a n c h xs) mixed Tryz.func36 rfl rfl rfl (Nat.le_of_ble_eq_true rfl) ?_ ?_
  · (refine vc_mp (by kernel_rfl : (Qn (∀ (i : Nat × AHeap × List (List Value) × List (List Nat)), Q33 n h xs i → bs (decide (Qw i < (↑n : Int))) (∃ (l r : Nat), Qx (Q2a a l r Q31) i n (∃ (x x_1 x_2 : Int) (x_3 : ByteArray) (x_4 : Int), Qy i l r Q31 (Q30 x x_1 x_2 x_3 x_4) (∃ (x_5 x_6 x_7 : Int) (x_8 : ByteArray) (x_9 : Int) (h' : AHeap), ACall Tryz.prog 84 [Q27 (Q30 x x_1 x_2 x_3 x_4)] (Qo i) (Q27 (Q30 x_5 x_6 x_7 x_8 x_9)) h' ∧ (∃ (l r : Nat), Qx (Q2a (Q14 h voteSh) l r Q31) i n (∃ (h'_1 : AHeap), Qz h' l r i (Q30 x_5 x_6 x_7 x_8 x_9) h'_1 (∃ (j : Nat × AHeap × List (List Value) × List (List Nat)), Q11 a n c (Qq h voteSh n) i j h'_1 (Q33 n h xs j) (∀ (k : AHeap × List (List Value) × List (List Nat)), Q32 n h xs k → Q32 n h xs k) (∀ (v : Value) (h : AHeap), False → False))))))) (∃ (j : AHeap × List (List Value) × List (List Nat)), Qr h voteSh n j i (Q32 n h xs j)))) = _) ?_; delta Qg Qi Qj Qm Qn Qo Qp Qq Qr Qs Qt Qv Qw Qx Qy Qz Q10 Q11 Q14 Q1z Q27 Q2a Q30 Q31 Q32 Q33)
    simp only [true_and, and_true]
    rintro ⟨i, h1, rows, idss⟩ I
    dsimp only at *
    refine bs_d (fun hlt => ?_) (fun hge => ?_)
    · have hio : i < xs.length := by omega
      obtain ⟨l, r, row, ha, _, hrd, hld⟩ := (hx.mono I.le).elem (List.getElem?_eq_getElem hio)
      obtain rfl := rd_vote.1 hrd
      obtain ⟨v, h2, hA, hle, hw2, ids, rfl, hro, hf⟩ := toVote_spec h1 xs[i]   I.wf
      obtain ⟨h3, e3, I3⟩ := I.step (by omega) (List.getElem?_eq_getElem hio) hle hw2 hro hf
      refine ⟨l, r, ha, Int.natCast_nonneg _, hlt, _, _, _, _, _, hld, _, _, _, _, _, _, hA, h.n, 0, rfl, Int.natCast_nonneg _, hlt, h3, e3, (i + 1, h3, _, _), by rw [wrap_i64 (by omega)] <;> rfl, rfl, I3, by dsimp only; omega, fun _ h => h, fun _ _ h => h⟩
    · have hi := I.hi
      have e : i = n := by omega
      subst e
      exact ⟨(h1, rows, idss), rfl, I⟩
  · (refine vc_mp (by kernel_rfl : (Q15 n 48 (∃ (i : Nat × AHeap × List (List Value) × List (List Nat)), Q17 a n c (Q34 h (Q16 n)) h voteSh i [Q1d, Q1d, Q1d, Q1z, Q1d] Q31 (Q33 n h xs i) (∀ (j : AHeap × List (List Value) × List (List Nat)), Q1b (Q32 n h xs j) h j (∃ (ids : List Nat), Q1c h voteSh n (Q34 h n) (So (Prod.fst j) voteSh xs (Q34 h n) ids) j ids)) (∀ (v : Value) (h_1 : AHeap), Q18 h h_1 (∃ (ids : List Nat), Q19 (v = Q34 h n) (So h_1 voteSh xs (Q34 h n) ids) h h_1 ids)))) = _) ?_; delta Qi Qo Qp Qs Qt Qv Qw Q10 Q15 Q16 Q17 Q18 Q19 Q1b Q1c Q1d Q1z Q31 Q32 Q33 Q34)
    refine ⟨Int.natCast_nonneg _, Int.le_refl _, by omega, (0, _, _, _), rfl, rfl, rfl, rfl, ToI.start hw rfl, ?_, fun _ _ h => h.elim⟩
    rintro ⟨h1, rows, idss⟩ I
    obtain ⟨ids, h2, h3⟩ := ToI.finish I en (n + 1)
    exact ⟨I.le, I.wf, ids, rfl, h2, h3⟩
def Q35 (a b c : Q3m) (d : Q3n) (e : Q3m) := Prod.mk a (Prod.mk b (Prod.mk c (Prod.mk d e)))
theorem eqVote_spec (h : AHeap) (x y : voteSh.T) :
    ACall Tryz.prog 100 [.agg #[.int .i64 x.1, .int .i64 x.2.1, .int .i64 x.2.2.1, .string x.2.2.2.1, .int .i64 x.2.2.2.2], .agg #[.int .i64 y.1, .int .i64 y.2.1, .int .i64 y.2.2.1, .string y.2.2.2.1, .int .i64 y.2.2.2.2]] h (.bool (eqb x y)) h := by
  obtain ⟨x1, x2, x3, x4, x5⟩ := x
  obtain ⟨y1, y2, y3, y4, y5⟩ := y
  try dsimp only at *
  refine acall_out (acall_vc (fun _ => false) (fun _ => []) (fun _ => .none) mixed Tryz.func100 rfl rfl rfl (Nat.le_of_ble_eq_true rfl) (by (refine vc_mp (by kernel_rfl : (Q2h (Qh ∧ Qh ∧ True ∧ True)) = _) ?_; delta Qh Q2h); simp only [and_self]) ?_)
  (refine vc_mp (by kernel_rfl : (Q2i (decide (x1 = y1)) (eqb (Q35 x1 x2 x3 x4 x5) (Q35 y1 y2 y3 y4 y5)) h h (decide (x2 = y2)) (Q2i (decide (x3 = y3)) (eqb (Q35 x1 x2 x3 x4 x5) (Q35 y1 y2 y3 y4 y5)) h h (decide (x4 = y4)) (Q1h (decide (x5 = y5)) (eqb (Q35 x1 x2 x3 x4 x5) (Q35 y1 y2 y3 y4 y5)) h h (Q1l (eqb (Q35 x1 x2 x3 x4 x5) (Q35 y1 y2 y3 y4 y5)) h h)))) = _) ?_; delta Q1h Q1l Q2i Q35)
  refine bs_dn (fun e => ⟨congrArg _ (eqb_false fun e' => e (by cases e'; rfl)), rfl⟩) (fun e1 => ?_)
  refine bs_dn (fun e => ⟨congrArg _ (eqb_false fun e' => e (by cases e'; rfl)), rfl⟩) (fun e2 => ?_)
  refine bs_dn (fun e => ⟨congrArg _ (eqb_false fun e' => e (by cases e'; rfl)), rfl⟩) (fun e3 => ?_)
  refine bs_dn (fun e => ⟨congrArg _ (eqb_false fun e' => e (by cases e'; rfl)), rfl⟩) (fun e4 => ?_)
  refine bs_dn (fun e => ⟨congrArg _ (eqb_false fun e' => e (by cases e'; rfl)), rfl⟩) (fun e5 => ?_)
  exact ⟨congrArg _ (eqb_true (Prod.ext e1 (Prod.ext e2 (Prod.ext e3 (Prod.ext e4 e5))))), rfl⟩
theorem eqVoteS_spec (h : AHeap) (a : Option Addr) (n c : Nat) (a' : Option Addr) (n' c' : Nat) (xs ys : List voteSh.T) (hx : Sl h voteSh xs (.slice a n c)) (hy : Sl h voteSh ys (.slice a' n' c')) (ok : xs.length ≤ 9223372036854775807) :
    ACall Tryz.prog 41 [.slice a n c, .slice a' n' c'] h (.bool (eqb xs ys)) h := by
  have en := hx.len
  have en' := hy.len
  have hn : xs.length ≤ 9223372036854775807 := ok
  refine acall_out (acall_vc (fun _ => false) (fun _ => [(0, 0, []), (1, 0, []), (2, 0, []), (4, 0, []), (5, 0, []), (6, 0, []), (3, 1, []), (7, 1, []), (8, 3, []), (9, 0, [])]) (fun _ => eqLp h a n c a' n' c' xs ys) mixed Tryz.func41 rfl rfl rfl (Nat.le_of_ble_eq_true rfl) ?_ ?_)
  · (refine vc_mp (by kernel_rfl : (Q1e (∀ (i : Nat), EqI xs ys i → bs (decide ((↑i : Int) < (↑n : Int))) (∃ (l r : Nat), Q1f (Q2a a l r Q31) i n (∃ (l_1 r_1 : Nat), Q1f (Q2a a' l_1 r_1 Q31) i n' (∃ (x x_1 x_2 : Int) (x_3 : ByteArray) (x_4 : Int), Q1g h l r i Q31 (Q30 x x_1 x_2 x_3 x_4) (∃ (x_5 x_6 x_7 : Int) (x_8 : ByteArray) (x_9 : Int), Q1g h l_1 r_1 i Q31 (Q30 x_5 x_6 x_7 x_8 x_9) (∃ (x_10 : Bool) (h' : AHeap), Q2j 100 (Q27 (Q30 x x_1 x_2 x_3 x_4)) (Q27 (Q30 x_5 x_6 x_7 x_8 x_9)) h x_10 h' (eqb xs ys) h (∃ (j : Nat), Q1i a n c a' n' c' i j h h' (EqI xs ys j) (List.length xs) (∀ (k : Unit), xs = ys → xs = ys) (∀ (v : Value) (h_1 : AHeap), Q1j v (eqb xs ys) h_1 h))))))) (∃ (j : Unit), h = h ∧ xs = ys))) = _) ?_; delta Qg Qh Qi Qj Qm Q10 Q16 Q1e Q1f Q1g Q1h Q1i Q1j Q27 Q2a Q2j Q30 Q31)
    simp only [true_and, and_true]
    rintro (i : Nat) I
    have hl := I.len
    have hi := I.hi
    refine bs_d (fun hlt => ?_) (fun hge => ?_)
    · have hxi : i < xs.length := by omega
      have hyi : i < ys.length := by omega
      obtain ⟨l, r, row, ha, hin, hrd, hld⟩ := hx.elem (List.getElem?_eq_getElem hxi)
      obtain ⟨l', r', row', ha', hin', hrd', hld'⟩ := hy.elem (List.getElem?_eq_getElem hyi)
      obtain rfl := rd_vote.1 hrd
      obtain rfl := rd_vote.1 hrd'
      refine ⟨l, r, ha, Int.natCast_nonneg _, hlt, l', r', ha', Int.natCast_nonneg _, by omega, _, _, _, _, _, hld, _, _, _, _, _, hld', _, _, eqVote_spec h xs[i] ys[i], bs_nb (fun hb => ?_) (fun hb => ?_)⟩
      · exact ⟨congrArg _ (eqb_false fun e => of_eqb_false hb (by subst e; rfl)), rfl⟩
      · exact ⟨i + 1, by rw [wrap_i64 (by omega)] <;> rfl, rfl, I.step hxi hyi (of_eqb hb), by omega, fun _ h => h, fun _ _ h => h⟩
    · have e : i = xs.length := by omega
      subst e
      exact ⟨(), I.all⟩
  · (refine vc_mp (by kernel_rfl : (Q1h (decide ((↑n : Int) = (↑n' : Int))) (eqb xs ys) h h (∃ (i : Nat), Q1k a n c a' n' c' i h (EqI xs ys i) (∀ (j : Unit), xs = ys → Q1l (eqb xs ys) h h) (∀ (v : Value) (h_1 : AHeap), Q1j v (eqb xs ys) h_1 h))) = _) ?_; delta Qi Qv Q10 Q1h Q1j Q1k Q1l)
    refine bs_dn (fun hne => ⟨congrArg _ (eqb_false fun e => hne (by rw [← en, ← en', e])), rfl⟩) (fun he => ?_)
    exact ⟨(0 : Nat), rfl, rfl, rfl, rfl, ⟨by omega, Nat.zero_le _, rfl⟩, fun j e => ⟨congrArg _ (eqb_true e), rfl⟩, fun _ _ h => h⟩
def Q36 (a b : Q3m) (c : Sh.T Sh.bool) (d : Q3m) (e : Sh.T (Sh.sl voteSh)) (f : Q3p) (g h i j : Q3m) (k : Q3n) (l : Q3p) (m : Sh.T (Sh.sl Sh.str)) (n : Int) := Sh.sz replicaSh (Prod.mk a (Prod.mk b (Prod.mk c (Prod.mk d (Prod.mk e (Prod.mk f (Prod.mk (Q2u g h i j k l) m))))))) n
def Q37 (a : Q3h) (b : Q3j) (c : Nat) := Value.slice a (List.length b) c
def Q38 (a b c d : Int) (e : Q3k) (f : Q3h) (g : Q3o) (h : Nat) := Q27 [Qi a, Qi b, Qi c, Qi d, Value.string e, Q2v f g h]
def Q39 (a : Q3h) (b : Q3q) (c : Nat) := Value.slice a (List.length b) c
theorem szReplica_spec (h : AHeap) (x : replicaSh.T) (left : Int) (v1 : Value) (v2 : Value) (v3 : Value) (v4 : Value) (h1 : Sl h voteSh x.2.2.2.2.1 v1) (h2 : Sl h changeSh x.2.2.2.2.2.1 v2) (h3 : Sl h changeSh x.2.2.2.2.2.2.1.2.2.2.2.2 v3) (h4 : Sl h Sh.str x.2.2.2.2.2.2.2 v4) (hl : 0 ≤ left ∧ left ≤ 1048576) (ok : replicaSh.ok x) :
    ACall Tryz.prog 7 [.agg #[.int .i64 x.1, .int .i64 x.2.1, .bool x.2.2.1, .int .i64 x.2.2.2.1, v1, v2, .int .i64 x.2.2.2.2.2.2.1.1, .int .i64 x.2.2.2.2.2.2.1.2.1, .int .i64 x.2.2.2.2.2.2.1.2.2.1, .int .i64 x.2.2.2.2.2.2.1.2.2.2.1, .string x.2.2.2.2.2.2.1.2.2.2.2.1, v3, v4], .int .i64 left] h (.int .i64 (replicaSh.sz x left)) h := by
  obtain ⟨x1, x2, x3, x4, x5, x6, ⟨x7, x8, x9, x10, x11, x12⟩, x13⟩ := x
  try dsimp only at *
  obtain ⟨a1, c1, rfl⟩ := h1.isSlice
  obtain ⟨a2, c2, rfl⟩ := h2.isSlice
  obtain ⟨a3, c3, rfl⟩ := h3.isSlice
  obtain ⟨a4, c4, rfl⟩ := h4.isSlice
  refine acall_out (acall_vc (fun _ => false) (fun _ => []) (fun _ => .none) mixed Tryz.func7 rfl rfl rfl (Nat.le_of_ble_eq_true rfl) (by (refine vc_mp (by kernel_rfl : (Q21 (Qh ∧ True ∧ Qh ∧ True ∧ Q22)) = _) ?_; delta Qh Q21 Q22); simp only [and_self]) ?_)
  (refine vc_mp (by kernel_rfl : (∃ (x : Int) (h' : AHeap), Q23 29 (Q39 a1 x5 c1) (Qi left) h x h' (decide (x < 0)) (Q36 x1 x2 x3 x4 x5 x6 x7 x8 x9 x10 x11 x12 x13 left) h (∃ (x_1 : Int) (h'_1 : AHeap), Q23 30 (Q2v a2 x6 c2) (Qi x) h' x_1 h'_1 (decide (x_1 < 0)) (Q36 x1 x2 x3 x4 x5 x6 x7 x8 x9 x10 x11 x12 x13 left) h (∃ (x : Int) (h' : AHeap), Q23 21 (Q38 x7 x8 x9 x10 x11 a3 x12 c3) (Qi x_1) h'_1 x h' (decide (x < 0)) (Q36 x1 x2 x3 x4 x5 x6 x7 x8 x9 x10 x11 x12 x13 left) h (∃ (x_2 : Int) (h'_2 : AHeap), Q23 31 (Q37 a4 x13 c4) (Qi x) h' x_2 h'_2 (decide (x_2 < 0)) (Q36 x1 x2 x3 x4 x5 x6 x7 x8 x9 x10 x11 x12 x13 left) h (Qj x_2 (Q36 x1 x2 x3 x4 x5 x6 x7 x8 x9 x10 x11 x12 x13 left) ∧ h'_2 = h))))) = _) ?_; delta Qi Qj Qk Q23 Q27 Q2u Q2v Q36 Q37 Q38 Q39)
  have b1 := (Sh.sl voteSh).sz_le x5 left (by omega)
  refine ⟨_, _, szVoteS_spec h a1 _ c1 _ left h1 (by omega) ok.2.2.2.2.1, bs_d (fun e1 => by refine ⟨congrArg _ (Eq.symm ?_), rfl⟩; exact sz_step rfl hl.1 (sz_step rfl hl.1 (sz_step rfl hl.1 (sz_step rfl hl.1 (sz_stop e1))))) (fun e1 => ?_)⟩
  have b2 := (Sh.sl changeSh).sz_le x6 ((Sh.sl voteSh).sz x5 left) (by omega)
  refine ⟨_, _, szChangeS_spec h a2 _ c2 _ ((Sh.sl voteSh).sz x5 left) h2 (by omega) ok.2.2.2.2.2.1, bs_d (fun e2 => by refine ⟨congrArg _ (Eq.symm ?_), rfl⟩; exact sz_step rfl hl.1 (sz_step rfl hl.1 (sz_step rfl hl.1 (sz_step rfl hl.1 (sz_step rfl (Int.not_lt.1 e1) (sz_stop e2)))))) (fun e2 => ?_)⟩
  have b3 := saySh.sz_le (x7, x8, x9, x10, x11, x12) ((Sh.sl changeSh).sz x6 ((Sh.sl voteSh).sz x5 left)) (by omega)
  refine ⟨_, _, szSay_spec h (x7, x8, x9, x10, x11, x12) ((Sh.sl changeSh).sz x6 ((Sh.sl voteSh).sz x5 left)) _ h3 (by omega) ok.2.2.2.2.2.2.1, bs_d (fun e3 => by refine ⟨congrArg _ (Eq.symm ?_), rfl⟩; exact sz_step rfl hl.1 (sz_step rfl hl.1 (sz_step rfl hl.1 (sz_step rfl hl.1 (sz_step rfl (Int.not_lt.1 e1) (sz_step rfl (Int.not_lt.1 e2) (sz_stop e3))))))) (fun e3 => ?_)⟩
  have b4 := (Sh.sl Sh.str).sz_le x13 (saySh.sz (x7, x8, x9, x10, x11, x12) ((Sh.sl changeSh).sz x6 ((Sh.sl voteSh).sz x5 left))) (by omega)
  refine ⟨_, _, szStringS_spec h a4 _ c4 _ (saySh.sz (x7, x8, x9, x10, x11, x12) ((Sh.sl changeSh).sz x6 ((Sh.sl voteSh).sz x5 left))) h4 (by omega) ok.2.2.2.2.2.2.2, bs_d (fun e4 => by refine ⟨congrArg _ (Eq.symm ?_), rfl⟩; exact sz_step rfl hl.1 (sz_step rfl hl.1 (sz_step rfl hl.1 (sz_step rfl hl.1 (sz_step rfl (Int.not_lt.1 e1) (sz_step rfl (Int.not_lt.1 e2) (sz_step rfl (Int.not_lt.1 e3) (sz_neg (Int.not_lt.1 e3) e4)))))))) (fun e4 => ?_)⟩
  refine ⟨congrArg _ (Eq.symm ?_), rfl⟩
  exact sz_step rfl hl.1 (sz_step rfl hl.1 (sz_step rfl hl.1 (sz_step rfl hl.1 (sz_step rfl (Int.not_lt.1 e1) (sz_step rfl (Int.not_lt.1 e2) (sz_step rfl (Int.not_lt.1 e3) (rfl)))))))
def Q3a (a b : Int) (c : Bool) (d : Int) (e f : Value) (g h i j : Int) (k : Q3k) (l m : Value) := Q27 [Qi a, Qi b, Value.bool c, Qi d, e, f, Qi g, Qi h, Qi i, Qi j, Value.string k, l, m]
theorem toReplica_spec (h : AHeap) (x : replicaSh.T) (v1 : Value) (v2 : Value) (v3 : Value) (v4 : Value) (h1 : Sl h voteSh x.2.2.2.2.1 v1) (h2 : Sl h changeSh x.2.2.2.2.2.1 v2) (h3 : Sl h changeSh x.2.2.2.2.2.2.1.2.2.2.2.2 v3) (h4 : Sl h Sh.str x.2.2.2.2.2.2.2 v4) (hw : h.wf) (ok : replicaSh.small x) :
    ∃ v h', ACall Tryz.prog 9 [.agg #[.int .i64 x.1, .int .i64 x.2.1, .bool x.2.2.1, .int .i64 x.2.2.2.1, v1, v2, .int .i64 x.2.2.2.2.2.2.1.1, .int .i64 x.2.2.2.2.2.2.1.2.1, .int .i64 x.2.2.2.2.2.2.1.2.2.1, .int .i64 x.2.2.2.2.2.2.1.2.2.2.1, .string x.2.2.2.2.2.2.1.2.2.2.2.1, v3, v4]] h v h' ∧ h.Le h' ∧ h'.wf ∧ ∃ w1 w2 w3 w4 ids, v = .agg #[.int .i64 x.1, .int .i64 x.2.1, .bool x.2.2.1, .int .i64 x.2.2.2.1, w1, w2, .int .i64 x.2.2.2.2.2.2.1.1, .int .i64 x.2.2.2.2.2.2.1.2.1, .int .i64 x.2.2.2.2.2.2.1.2.2.1, .int .i64 x.2.2.2.2.2.2.1.2.2.2.1, .string x.2.2.2.2.2.2.1.2.2.2.2.1, w3, w4] ∧ replicaSh.ro h' x [.int .i64 x.1, .int .i64 x.2.1, .bool x.2.2.1, .int .i64 x.2.2.2.1, w1, w2, .int .i64 x.2.2.2.2.2.2.1.1, .int .i64 x.2.2.2.2.2.2.1.2.1, .int .i64 x.2.2.2.2.2.2.1.2.2.1, .int .i64 x.2.2.2.2.2.2.1.2.2.2.1, .string x.2.2.2.2.2.2.1.2.2.2.2.1, w3, w4] ids ∧ Fresh h.n h'.n ids := by
  obtain ⟨x1, x2, x3, x4, x5, x6, ⟨x7, x8, x9, x10, x11, x12⟩, x13⟩ := x
  try dsimp only at *
  obtain ⟨a1, c1, rfl⟩ := h1.isSlice
  obtain ⟨a2, c2, rfl⟩ := h2.isSlice
  obtain ⟨a3, c3, rfl⟩ := h3.isSlice
  obtain ⟨a4, c4, rfl⟩ := h4.isSlice
  refine acall_q fun Q HQ => ?_
  refine acall_vc (fun _ => false) (fun _ => []) (fun _ => .none) mixed Tryz.func9 rfl rfl rfl (Nat.le_of_ble_eq_true rfl) (by (refine vc_mp (by kernel_rfl : (Q2b (Q2b (True ∧ True ∧ True ∧ True))) = _) ?_; delta Q2b); simp only [and_self]) ?_
  (refine vc_mp (by kernel_rfl : (∃ (a : Option Addr) (n c : Nat) (h' : AHeap), Q2c 36 [Q39 a1 x5 c1] h a n c h' (∃ (a_1 : Option Addr) (n_1 c_1 : Nat) (h'_1 : AHeap), Q2c 37 [Q2v a2 x6 c2] h' a_1 n_1 c_1 h'_1 (∃ (x x_1 x_2 x_3 : Int) (x_4 : ByteArray) (a_2 : Option Addr) (n_2 c_2 : Nat) (h' : AHeap), ACall Tryz.prog 23 [Q38 x7 x8 x9 x10 x11 a3 x12 c3] h'_1 (Q27 (Q2w x x_1 x_2 x_3 x_4 a_2 n_2 c_2)) h' ∧ (∃ (a_3 : Option Addr) (n_3 c_3 : Nat) (h'_2 : AHeap), Q2c 38 [Q37 a4 x13 c4] h' a_3 n_3 c_3 h'_2 (Q (Q3a x1 x2 x3 x4 (Value.slice a n c) (Value.slice a_1 n_1 c_1) x x_1 x_2 x_3 x_4 (Value.slice a_2 n_2 c_2) (Value.slice a_3 n_3 c_3)) h'_2))))) = _) ?_; delta Qi Q27 Q2c Q2v Q2w Q37 Q38 Q39 Q3a)
  obtain ⟨u1, g1, A1, l1, W1, ids1, rfl, r1, f1⟩ := toVoteS_spec h a1 _ c1 _ hw h1 ok.2.2.2.2.1
  have L1 : h.Le g1 := l1
  obtain ⟨u2, g2, A2, l2, W2, ids2, rfl, r2, f2⟩ := toChangeS_spec g1 a2 _ c2 _ W1 (h2.mono L1) ok.2.2.2.2.2.1
  have L2 : h.Le g2 := L1.trans l2
  obtain ⟨u3, g3, A3, l3, W3, y3_0, ids3, rfl, r3, f3⟩ := toSay_spec g2 (x7, x8, x9, x10, x11, x12) _ (h3.mono L2) W2 ok.2.2.2.2.2.2.1
  obtain ⟨z3_0, ez3, q3_0⟩ := rd_say.1 r3.rd
  cases ez3
  obtain ⟨b3_0, d3_0, rfl⟩ := q3_0.isSlice
  have L3 : h.Le g3 := L2.trans l3
  obtain ⟨u4, g4, A4, l4, W4, ids4, rfl, r4, f4⟩ := toStringS_spec g3 a4 _ c4 _ W3 (h4.mono L3) ok.2.2.2.2.2.2.2
  have L4 : h.Le g4 := L3.trans l4
  refine ⟨_, _, _, _, A1, _, _, _, _, A2, _, _, _, _, _, _, _, _, _, A3, _, _, _, _, A4, HQ _ _ ⟨L4, W4, _, _, _, _, [] ++ ([] ++ ([] ++ ([] ++ (ids1 ++ (ids2 ++ (ids3 ++ (ids4))))))), rfl, ?_, ?_⟩⟩
  · exact ⟨[_], _, [], _, rfl, rfl, ⟨rfl, rfl⟩, [_], _, [], _, rfl, rfl, ⟨rfl, rfl⟩, [_], _, [], _, rfl, rfl, ⟨rfl, rfl⟩, [_], _, [], _, rfl, rfl, ⟨rfl, rfl⟩, [_], _, ids1, _, rfl, rfl, ro_sl.2 ⟨_, rfl, r1.le ((l2.trans l3).trans l4)⟩, [_], _, ids2, _, rfl, rfl, ro_sl.2 ⟨_, rfl, r2.le (l3.trans l4)⟩, [_, _, _, _, _, _], _, ids3, _, rfl, rfl, r3.le l4, ro_sl.2 ⟨_, rfl, r4⟩⟩
  · exact (show Fresh h.n g4.n (ids1 ++ (ids2 ++ (ids3 ++ (ids4)))) from .append l1.n ((l2.trans l3).trans l4).n f1 (.append l2.n (l3.trans l4).n f2 (.append l3.n l4.n f3 (f4))))
def Q3b (a b : Q3m) (c : Sh.T Sh.bool) (d : Q3m) (e : Sh.T (Sh.sl voteSh)) (f : Q3p) (g h i j : Q3m) (k : Q3n) (l : Q3p) (m : Sh.T (Sh.sl Sh.str)) := Prod.mk a (Prod.mk b (Prod.mk c (Prod.mk d (Prod.mk e (Prod.mk f (Prod.mk (Q2x g h i j k l) m))))))
theorem eqReplica_spec (h : AHeap) (x y : replicaSh.T) (v1 : Value) (v2 : Value) (v3 : Value) (v4 : Value) (h1 : Sl h voteSh x.2.2.2.2.1 v1) (h2 : Sl h changeSh x.2.2.2.2.2.1 v2) (h3 : Sl h changeSh x.2.2.2.2.2.2.1.2.2.2.2.2 v3) (h4 : Sl h Sh.str x.2.2.2.2.2.2.2 v4) (w1 : Value) (w2 : Value) (w3 : Value) (w4 : Value) (j1 : Sl h voteSh y.2.2.2.2.1 w1) (j2 : Sl h changeSh y.2.2.2.2.2.1 w2) (j3 : Sl h changeSh y.2.2.2.2.2.2.1.2.2.2.2.2 w3) (j4 : Sl h Sh.str y.2.2.2.2.2.2.2 w4) (ok : replicaSh.ok x) :
    ACall Tryz.prog 12 [.agg #[.int .i64 x.1, .int .i64 x.2.1, .bool x.2.2.1, .int .i64 x.2.2.2.1, v1, v2, .int .i64 x.2.2.2.2.2.2.1.1, .int .i64 x.2.2.2.2.2.2.1.2.1, .int .i64 x.2.2.2.2.2.2.1.2.2.1, .int .i64 x.2.2.2.2.2.2.1.2.2.2.1, .string x.2.2.2.2.2.2.1.2.2.2.2.1, v3, v4], .agg #[.int .i64 y.1, .int .i64 y.2.1, .bool y.2.2.1, .int .i64 y.2.2.2.1, w1, w2, .int .i64 y.2.2.2.2.2.2.1.1, .int .i64 y.2.2.2.2.2.2.1.2.1, .int .i64 y.2.2.2.2.2.2.1.2.2.1, .int .i64 y.2.2.2.2.2.2.1.2.2.2.1, .string y.2.2.2.2.2.2.1.2.2.2.2.1, w3, w4]] h (.bool (eqb x y)) h := by
  obtain ⟨x1, x2, x3, x4, x5, x6, ⟨x7, x8, x9, x10, x11, x12⟩, x13⟩ := x
  obtain ⟨y1, y2, y3, y4, y5, y6, ⟨y7, y8, y9, y10, y11, y12⟩, y13⟩ := y
  try dsimp only at *
  obtain ⟨a1, c1, rfl⟩ := h1.isSlice
  obtain ⟨a2, c2, rfl⟩ := h2.isSlice
  obtain ⟨a3, c3, rfl⟩ := h3.isSlice
  obtain ⟨a4, c4, rfl⟩ := h4.isSlice
  obtain ⟨ab1, cb1, rfl⟩ := j1.isSlice
  obtain ⟨ab2, cb2, rfl⟩ := j2.isSlice
  obtain ⟨ab3, cb3, rfl⟩ := j3.isSlice
  obtain ⟨ab4, cb4, rfl⟩ := j4.isSlice
  refine acall_out (acall_vc (fun _ => false) (fun _ => []) (fun _ => .none) mixed Tryz.func12 rfl rfl rfl (Nat.le_of_ble_eq_true rfl) (by (refine vc_mp (by kernel_rfl : (Q2h (Qh ∧ Qh ∧ Qh ∧ Qh ∧ Q22)) = _) ?_; delta Qh Q22 Q2h); simp only [and_self]) ?_)
  (refine vc_mp (by kernel_rfl : (Q2i (decide (x1 = y1)) (eqb (Q3b x1 x2 x3 x4 x5 x6 x7 x8 x9 x10 x11 x12 x13) (Q3b y1 y2 y3 y4 y5 y6 y7 y8 y9 y10 y11 y12 y13)) h h (decide (x2 = y2)) (Q2i (decide (x3 = y3)) (eqb (Q3b x1 x2 x3 x4 x5 x6 x7 x8 x9 x10 x11 x12 x13) (Q3b y1 y2 y3 y4 y5 y6 y7 y8 y9 y10 y11 y12 y13)) h h (decide (x4 = y4)) (∃ (x : Bool) (h' : AHeap), Q2j 41 (Q39 a1 x5 c1) (Q39 ab1 y5 cb1) h x h' (eqb (Q3b x1 x2 x3 x4 x5 x6 x7 x8 x9 x10 x11 x12 x13) (Q3b y1 y2 y3 y4 y5 y6 y7 y8 y9 y10 y11 y12 y13)) h (∃ (x : Bool) (h'_1 : AHeap), Q2j 42 (Q2v a2 x6 c2) (Q2v ab2 y6 cb2) h' x h'_1 (eqb (Q3b x1 x2 x3 x4 x5 x6 x7 x8 x9 x10 x11 x12 x13) (Q3b y1 y2 y3 y4 y5 y6 y7 y8 y9 y10 y11 y12 y13)) h (∃ (x : Bool) (h' : AHeap), Q2j 25 (Q38 x7 x8 x9 x10 x11 a3 x12 c3) (Q38 y7 y8 y9 y10 y11 ab3 y12 cb3) h'_1 x h' (eqb (Q3b x1 x2 x3 x4 x5 x6 x7 x8 x9 x10 x11 x12 x13) (Q3b y1 y2 y3 y4 y5 y6 y7 y8 y9 y10 y11 y12 y13)) h (∃ (x : Bool) (h'_2 : AHeap), Q2j 43 (Q37 a4 x13 c4) (Q37 ab4 y13 cb4) h' x h'_2 (eqb (Q3b x1 x2 x3 x4 x5 x6 x7 x8 x9 x10 x11 x12 x13) (Q3b y1 y2 y3 y4 y5 y6 y7 y8 y9 y10 y11 y12 y13)) h (Q1l (eqb (Q3b x1 x2 x3 x4 x5 x6 x7 x8 x9 x10 x11 x12 x13) (Q3b y1 y2 y3 y4 y5 y6 y7 y8 y9 y10 y11 y12 y13)) h'_2 h))))))) = _) ?_; delta Qi Q1h Q1l Q27 Q2i Q2j Q2v Q2x Q37 Q38 Q39 Q3b)
  refine bs_dn (fun e => ⟨congrArg _ (eqb_false fun e' => e (by cases e'; rfl)), rfl⟩) (fun e1 => ?_)
  refine bs_dn (fun e => ⟨congrArg _ (eqb_false fun e' => e (by cases e'; rfl)), rfl⟩) (fun e2 => ?_)
  refine bs_dn (fun e => ⟨congrArg _ (eqb_false fun e' => e (by cases e'; rfl)), rfl⟩) (fun e3 => ?_)
  refine bs_dn (fun e => ⟨congrArg _ (eqb_false fun e' => e (by cases e'; rfl)), rfl⟩) (fun e4 => ?_)
  refine ⟨_, _, eqVoteS_spec h a1 _ c1 ab1 _ cb1 _ _ h1 j1 ok.2.2.2.2.1.1, bs_nb (fun e => ⟨congrArg _ (eqb_false fun e' => of_eqb_false e (by cases e'; rfl)), rfl⟩) (fun e5 => ?_)⟩
  refine ⟨_, _, eqChangeS_spec h a2 _ c2 ab2 _ cb2 _ _ h2 j2 ok.2.2.2.2.2.1, bs_nb (fun e => ⟨congrArg _ (eqb_false fun e' => of_eqb_false e (by cases e'; rfl)), rfl⟩) (fun e6 => ?_)⟩
  refine ⟨_, _, eqSay_spec h (x7, x8, x9, x10, x11, x12) (y7, y8, y9, y10, y11, y12) _ h3 _ j3 ok.2.2.2.2.2.2.1, bs_nb (fun e => ⟨congrArg _ (eqb_false fun e' => of_eqb_false e (by cases e'; rfl)), rfl⟩) (fun e7 => ?_)⟩
  refine ⟨_, _, eqStringS_spec h a4 _ c4 ab4 _ cb4 _ _ h4 j4 ok.2.2.2.2.2.2.2.1, bs_nb (fun e => ⟨congrArg _ (eqb_false fun e' => of_eqb_false e (by cases e'; rfl)), rfl⟩) (fun e8 => ?_)⟩
  exact ⟨congrArg _ (eqb_true (Prod.ext e1 (Prod.ext e2 (Prod.ext e3 (Prod.ext e4 (Prod.ext (of_eqb e5) (Prod.ext (of_eqb e6) (Prod.ext (of_eqb e7) (of_eqb e8))))))))), rfl⟩
theorem eqReplicaOut_spec (h : AHeap) (x y : replicaOutSh.T) (v1 : Value) (v2 : Value) (v3 : Value) (v4 : Value) (v5 : Value) (h1 : Sl h voteSh x.1.2.2.2.2.1 v1) (h2 : Sl h changeSh x.1.2.2.2.2.2.1 v2) (h3 : Sl h changeSh x.1.2.2.2.2.2.2.1.2.2.2.2.2 v3) (h4 : Sl h Sh.str x.1.2.2.2.2.2.2.2 v4) (h5 : Sl h saySh x.2.1 v5) (w1 : Value) (w2 : Value) (w3 : Value) (w4 : Value) (w5 : Value) (j1 : Sl h voteSh y.1.2.2.2.2.1 w1) (j2 : Sl h changeSh y.1.2.2.2.2.2.1 w2) (j3 : Sl h changeSh y.1.2.2.2.2.2.2.1.2.2.2.2.2 w3) (j4 : Sl h Sh.str y.1.2.2.2.2.2.2.2 w4) (j5 : Sl h saySh y.2.1 w5) (ok : replicaOutSh.ok x) :
    ACall Tryz.prog 18 [.agg #[.int .i64 x.1.1, .int .i64 x.1.2.1, .bool x.1.2.2.1, .int .i64 x.1.2.2.2.1, v1, v2, .int .i64 x.1.2.2.2.2.2.2.1.1, .int .i64 x.1.2.2.2.2.2.2.1.2.1, .int .i64 x.1.2.2.2.2.2.2.1.2.2.1, .int .i64 x.1.2.2.2.2.2.2.1.2.2.2.1, .string x.1.2.2.2.2.2.2.1.2.2.2.2.1, v3, v4, v5, .int .i64 x.2.2], .agg #[.int .i64 y.1.1, .int .i64 y.1.2.1, .bool y.1.2.2.1, .int .i64 y.1.2.2.2.1, w1, w2, .int .i64 y.1.2.2.2.2.2.2.1.1, .int .i64 y.1.2.2.2.2.2.2.1.2.1, .int .i64 y.1.2.2.2.2.2.2.1.2.2.1, .int .i64 y.1.2.2.2.2.2.2.1.2.2.2.1, .string y.1.2.2.2.2.2.2.1.2.2.2.2.1, w3, w4, w5, .int .i64 y.2.2]] h (.bool (eqb x y)) h := by
  obtain ⟨⟨x1, x2, x3, x4, x5, x6, ⟨x7, x8, x9, x10, x11, x12⟩, x13⟩, x14, x15⟩ := x
  obtain ⟨⟨y1, y2, y3, y4, y5, y6, ⟨y7, y8, y9, y10, y11, y12⟩, y13⟩, y14, y15⟩ := y
  try dsimp only at *
  obtain ⟨a1, c1, rfl⟩ := h1.isSlice
  obtain ⟨a2, c2, rfl⟩ := h2.isSlice
  obtain ⟨a3, c3, rfl⟩ := h3.isSlice
  obtain ⟨a4, c4, rfl⟩ := h4.isSlice
  obtain ⟨a5, c5, rfl⟩ := h5.isSlice
  obtain ⟨ab1, cb1, rfl⟩ := j1.isSlice
  obtain ⟨ab2, cb2, rfl⟩ := j2.isSlice
  obtain ⟨ab3, cb3, rfl⟩ := j3.isSlice
  obtain ⟨ab4, cb4, rfl⟩ := j4.isSlice
  obtain ⟨ab5, cb5, rfl⟩ := j5.isSlice
  refine acall_out (acall_vc (fun _ => false) (fun _ => []) (fun _ => .none) mixed Tryz.func18 rfl rfl rfl (Nat.le_of_ble_eq_true rfl) (by (refine vc_mp (by kernel_rfl : (Q2h (True ∧ True)) = _) ?_; delta Qh Q2h); simp only [and_self]) ?_)
  (refine vc_mp (by kernel_rfl : (∃ (x : Bool) (h' : AHeap), Q2j 12 (Q3a x1 x2 x3 x4 (Q39 a1 x5 c1) (Q2v a2 x6 c2) x7 x8 x9 x10 x11 (Q2v a3 x12 c3) (Q37 a4 x13 c4)) (Q3a y1 y2 y3 y4 (Q39 ab1 y5 cb1) (Q2v ab2 y6 cb2) y7 y8 y9 y10 y11 (Q2v ab3 y12 cb3) (Q37 ab4 y13 cb4)) h x h' (eqb (Prod.mk (Q3b x1 x2 x3 x4 x5 x6 x7 x8 x9 x10 x11 x12 x13) (Prod.mk x14 x15)) (Prod.mk (Q3b y1 y2 y3 y4 y5 y6 y7 y8 y9 y10 y11 y12 y13) (Prod.mk y14 y15))) h (∃ (x : Bool) (h'_1 : AHeap), ACall Tryz.prog 11 [Value.slice a5 (List.length x14) c5, Value.slice ab5 (List.length y14) cb5] h' (Value.bool x) h'_1 ∧ Q2i x (eqb (Prod.mk (Q3b x1 x2 x3 x4 x5 x6 x7 x8 x9 x10 x11 x12 x13) (Prod.mk x14 x15)) (Prod.mk (Q3b y1 y2 y3 y4 y5 y6 y7 y8 y9 y10 y11 y12 y13) (Prod.mk y14 y15))) h'_1 h (decide (x15 = y15)) (Q1l (eqb (Prod.mk (Q3b x1 x2 x3 x4 x5 x6 x7 x8 x9 x10 x11 x12 x13) (Prod.mk x14 x15)) (Prod.mk (Q3b y1 y2 y3 y4 y5 y6 y7 y8 y9 y10 y11 y12 y13) (Prod.mk y14 y15))) h'_1 h))) = _) ?_; delta Qi Q1h Q1l Q27 Q2i Q2j Q2v Q2x Q37 Q39 Q3a Q3b)
  refine ⟨_, _, eqReplica_spec h (x1, x2, x3, x4, x5, x6, (x7, x8, x9, x10, x11, x12), x13) (y1, y2, y3, y4, y5, y6, (y7, y8, y9, y10, y11, y12), y13) _ _ _ _ h1 h2 h3 h4 _ _ _ _ j1 j2 j3 j4 ok.1, bs_nb (fun e => ⟨congrArg _ (eqb_false fun e' => of_eqb_false e (by cases e'; rfl)), rfl⟩) (fun e1 => ?_)⟩
  refine ⟨_, _, eqSayS_spec h a5 _ c5 ab5 _ cb5 _ _ h5 j5 ok.2.1, bs_nb (fun e => ⟨congrArg _ (eqb_false fun e' => of_eqb_false e (by cases e'; rfl)), rfl⟩) (fun e2 => ?_)⟩
  refine bs_dn (fun e => ⟨congrArg _ (eqb_false fun e' => e (by cases e'; rfl)), rfl⟩) (fun e3 => ?_)
  exact ⟨congrArg _ (eqb_true (Prod.ext (of_eqb e1) (Prod.ext (of_eqb e2) e3))), rfl⟩
end Go.Proofs.YtpgfjadjhliohaaGreat
