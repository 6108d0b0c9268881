/- PD. -/
import Derived.Test.YtpgfjadjhliohaaGreatV18PC
namespace Go.Dat
open Go.Abs
abbrev BP := Int × Int × ByteArray × Option Addr × Nat × Nat
def bc (x : BP) : List Value := [.int .i64 x.1, .int .i64 x.2.1, .string x.2.2.1, .slice x.2.2.2.1 x.2.2.2.2.1 x.2.2.2.2.2]
def brow (b : Nat → BP) : List Value := bc (b 0) ++ (bc (b 1) ++ (bc (b 2) ++ (bc (b 3) ++ (bc (b 4) ++ (bc (b 5) ++ bc (b 6))))))
def BIn (b : Nat → BP) (ps : List Prf) : Prop := ∀ q : Nat, 1 ≤ q → q ≤ 6 → ((b q).2.1 = 0 ∧ bestB q ps = none ∧ (b q).2.2.1 = ⟨#[]⟩) ∨ ((b q).2.1 = q ∧ bestB q ps = some ((b q).1, (b q).2.2.1))
def bset (b : Nat → BP) (q : Nat) (x : BP) : Nat → BP := fun k => if k = q then x else b k
theorem six {P : Nat → Prop} (h0 : P 0) (h1 : P 1) (h2 : P 2) (h3 : P 3) (h4 : P 4) (h5 : P 5) (h6 : P 6) (q : Nat) (hq : q ≤ 6) : P q := by
  rcases (by omega : q = 0 ∨ q = 1 ∨ q = 2 ∨ q = 3 ∨ q = 4 ∨ q = 5 ∨ q = 6) with rfl | rfl | rfl | rfl | rfl | rfl | rfl <;> assumption
theorem br_ld {g : AHeap} {l : Nat} {b : Nat → BP} (hg : g.get l = some ⟨[brow b], 28, true⟩) {q : Nat} (hq : q ≤ 6) : g.ld l 0 (0 + q * 4 + 0) 1 = some [.int .i64 (b q).1] ∧ g.ld l 0 (0 + q * 4 + 1) 1 = some [.int .i64 (b q).2.1] ∧ g.ld l 0 (0 + q * 4 + 2) 1 = some [.string (b q).2.2.1] := by
  have key : ∀ i vs, i + 1 ≤ 28 → ((brow b).drop i).take 1 = vs → g.ld l 0 i 1 = some vs := fun i vs hi e => by
    unfold AHeap.ld
    rw [hg]
    dsimp only
    rw [show (([brow b] : List (List Value))[0]? : Option (List Value)) = some (brow b) from rfl]
    dsimp only
    rw [show (brow b).length = 28 from rfl, decide_eq_true hi, cond_true, e]
  refine ⟨key _ _ (by omega) ?_, key _ _ (by omega) ?_, key _ _ (by omega) ?_⟩
  · exact six (P := fun q => ((brow b).drop (0 + q * 4 + 0)).take 1 = [.int .i64 (b q).1]) rfl rfl rfl rfl rfl rfl rfl q hq
  · exact six (P := fun q => ((brow b).drop (0 + q * 4 + 1)).take 1 = [.int .i64 (b q).2.1]) rfl rfl rfl rfl rfl rfl rfl q hq
  · exact six (P := fun q => ((brow b).drop (0 + q * 4 + 2)).take 1 = [.string (b q).2.2.1]) rfl rfl rfl rfl rfl rfl rfl q hq
theorem br_wr {g : AHeap} {l : Nat} {b : Nat → BP} (hg : g.get l = some ⟨[brow b], 28, true⟩) {q : Nat} (hq : q ≤ 6) (x : BP) : g.wr l 0 (0 + q * 4) (bc x) = some (g.put l (some ⟨[brow (bset b q x)], 28, true⟩)) := by
  have e : setRange (brow b) (0 + q * 4) (bc x) = brow (bset b q x) := six (P := fun q => setRange (brow b) (0 + q * 4) (bc x) = brow (bset b q x)) rfl rfl rfl rfl rfl rfl rfl q hq
  rw [wr_field (i := 0) hg rfl (by show 0 + q * 4 + 4 ≤ 28; omega), e]; rfl
theorem BIn.other {b : Nat → BP} {ps : List Prf} {pv : Int} {Q : Nat} {po : ByteArray} {pb : List Int} {q : Nat} (hn : ¬ q = Q) : bestB q (ps ++ [(pv, (Q : Int), po, pb)]) = bestB q ps := by
  rw [bestB_snoc]
  have hne : ¬ (Q : Int) = q := by omega
  cases bestB q ps with
  | none => exact if_neg hne
  | some y => exact if_neg fun e => hne e.1
theorem BIn.yes {b : Nat → BP} {ps : List Prf} (B : BIn b ps) {pv : Int} {Q : Nat} {po : ByteArray} {pb : List Int} (z : Option Addr × Nat × Nat) (h1 : 1 ≤ Q) (h6 : Q ≤ 6) (h : (b Q).2.1 = 0 ∨ (b Q).1 < pv) : BIn (bset b Q (pv, Q, po, z)) (ps ++ [(pv, (Q : Int), po, pb)]) := by
  intro q q1 q6
  by_cases hq : q = Q
  · subst hq
    right
    have e : bset b q (pv, (q : Int), po, z) q = (pv, (q : Int), po, z) := if_pos rfl
    rw [e, bestB_snoc]
    refine ⟨rfl, ?_⟩
    rcases B q q1 q6 with ⟨e0, e1, _⟩ | ⟨e0, e1⟩
    · rw [e1]; exact if_pos rfl
    · rw [e1]
      exact if_pos ⟨rfl, by rcases h with h | h; · omega
                            · exact h⟩
  · rw [BIn.other (b := b) hq]
    have e : bset b Q (pv, (Q : Int), po, z) q = b q := if_neg hq
    rw [e]; exact B q q1 q6
theorem BIn.no {b : Nat → BP} {ps : List Prf} (B : BIn b ps) {pv : Int} {Q : Nat} {po : ByteArray} {pb : List Int} (h1 : 1 ≤ Q) (h6 : Q ≤ 6) (h0 : ¬ (b Q).2.1 = 0) (h : ¬ (b Q).1 < pv) : BIn b (ps ++ [(pv, (Q : Int), po, pb)]) := by
  intro q q1 q6
  by_cases hq : q = Q
  · subst hq
    rcases B q q1 q6 with ⟨e0, _, _⟩ | ⟨e0, e1⟩
    · exact absurd e0 h0
    · right
      rw [bestB_snoc, e1]
      exact ⟨e0, if_neg fun e => h e.2⟩
  · rw [BIn.other (b := b) hq]; exact B q q1 q6
theorem BIn.op {b : Nat → BP} {ps : List Prf} (B : BIn b ps) {q : Nat} (h1 : 1 ≤ q) (h6 : q ≤ 6) : (b q).2.2.1 = opB (bestB q ps) := by
  rcases B q h1 h6 with ⟨_, e, e2⟩ | ⟨_, e⟩ <;> rw [e]
  · exact e2
  · rfl
end Go.Dat
namespace Go.Proofs.YtpgfjadjhliohaaGreat
open Go.Abs Go.Dat
set_option maxRecDepth 100000
set_option maxHeartbeats 8000000
structure WB (h : AHeap) (g : AHeap) (ps : List Prf) (b : Nat → BP) : Prop where
  le : h.Le g
  wf : g.wf
  n : h.n < g.n
  ob : g.get h.n = some ⟨[brow b], 28, true⟩
  bi : BIn b ps
def iwL (h : AHeap) (a : Option Addr) (c : Nat) (cs : List changeSh.T) : Nat → LSpec
  | 0 => {
    ι := Nat × AHeap
    κ := AHeap
    I := fun i => i.1 ≤ cs.length ∧ ∃ b, WB h i.2 (prfs (cs.take i.1)) b
    μ := fun i => cs.length - i.1
    head := fun i => ⟨[(3, .pointer (some ⟨h.n, 0, some 0⟩)), (4, .int .i64 (mostB (prfs (cs.take i.1)))), (11, .slice a cs.length c), (12, .int .i64 cs.length), (13, .int .i64 i.1)], [], i.2⟩
    post := fun g => ⟨[(3, .pointer (some ⟨h.n, 0, some 0⟩)), (4, .int .i64 (mostB (prfs cs)))], [], g⟩
    R := fun _ g => ∃ b, WB h g (prfs cs) b
    ret := fun _ _ _ => False }
  | 2 => {
    ι := Nat × Nat × AHeap × Option Addr × Nat
    κ := Nat × AHeap
    I := fun i => i.1 < cs.length ∧ i.2.1 ≤ (prA cs i.1).length ∧ (∃ b, WB h i.2.2.1 (prfs (cs.take i.1) ++ (prA cs i.1).take i.2.1) b) ∧ Sl h proofSh (prA cs i.1) (.slice i.2.2.2.1 (prA cs i.1).length i.2.2.2.2)
    μ := fun i => (prA cs i.1).length - i.2.1
    head := fun i => ⟨[(3, .pointer (some ⟨h.n, 0, some 0⟩)), (4, .int .i64 (mostB (prfs (cs.take i.1) ++ (prA cs i.1).take i.2.1))), (11, .slice a cs.length c), (12, .int .i64 cs.length), (13, .int .i64 i.1), (18, .slice i.2.2.2.1 (prA cs i.1).length i.2.2.2.2), (19, .int .i64 (prA cs i.1).length), (20, .int .i64 i.2.1)], [], i.2.2.1⟩
    post := fun i => ⟨[(3, .pointer (some ⟨h.n, 0, some 0⟩)), (4, .int .i64 (mostB (prfs (cs.take (i.1 + 1))))), (11, .slice a cs.length c), (12, .int .i64 cs.length), (13, .int .i64 i.1)], [], i.2⟩
    R := fun i j => j.1 = i.1 ∧ ∃ b, WB h j.2 (prfs (cs.take (i.1 + 1))) b
    ret := fun _ _ _ => False }
  | _ => {
    ι := Nat × OX freshSh.T × AHeap × (Nat → BP)
    κ := OX freshSh.T
    I := fun i => (i.1 : Int) ≤ mostB (prfs cs) ∧ WB h i.2.2.1 (prfs cs) i.2.2.2 ∧ OXok freshSh i.2.2.1 i.2.1 ∧ i.2.1.xs = wantN (prfs cs) i.1
    μ := fun i => (mostB (prfs cs)).toNat - i.1
    head := fun i => ⟨[(3, .pointer (some ⟨h.n, 0, some 0⟩)), (4, .int .i64 (mostB (prfs cs))), (9, .slice i.2.1.a i.2.1.xs.length i.2.1.c), (10, .int .i64 ((i.1 : Int) + 1))], [], i.2.1.g⟩
    post := fun o => ⟨[(9, .slice o.a o.xs.length o.c)], [], o.g⟩
    R := fun _ o => ∃ g, h.Le g ∧ OXok freshSh g o ∧ o.xs = wantM cs
    ret := fun _ _ _ => False }
abbrev Qux := Nat × OX (Sh.T freshSh) × AHeap × (Nat → BP)
abbrev Quy := List (Sh.T changeSh)
abbrev Quz := Nat × AHeap
abbrev Qv0 := Nat × Nat × AHeap × Option Addr × Nat
def Qtp (a b c d e : Prop) := a ∧ b ∧ c ∧ d ∧ e
def Qtq (a b c d : Prop) := a ∧ b ∧ c ∧ d
def Qtr (a b : AHeap) (c : OX (Sh.T freshSh)) (d : Prop) := AHeap.Le a b ∧ OXok freshSh b c ∧ d
def Qts (a : Qux) := Prod.fst (Prod.snd a)
def Qtt (a : Qux) := OX.g (Qts a)
def Qtu (a : OX (Sh.T freshSh)) (b : List (Sh.T freshSh)) := Value.slice (OX.a a) (List.length b) (OX.c a)
def Qtv (a : Qux) := Qtu (Qts a) (OX.xs (Qts a))
def Qtw (a : Int) (b : Prop) := 0 ≤ a ∧ a < (↑7 : Int) ∧ b
def Qtx (a : Quy) := mostB (prfs a)
def Qty (a : Qux) := Prod.fst (Prod.snd (Prod.snd a))
def Qtz (a b : Prop) (c : Qux) (d : Prop) := Qtq a b (OXok freshSh (Qty c) (Qts c)) d
def Qu0 (a : Qux) := Prod.snd (Prod.snd (Prod.snd a))
def Qu1 (a : Qux) := (↑(Prod.fst a) : Int)
def Qu2 (a : Int) := Value.int IntKind.i64 a
def Qu3 (a : Qux) := Qu1 a + 1
def Qu4 (a : Int) := Qu2 (IntKind.wrap IntKind.i64 (a + 1))
def Qu5 (a : List Prf) := Qu2 (mostB a)
def Qu6 := (0 : Nat)
def Qu7 (a : AHeap) := Value.pointer (some (Addr.mk (AHeap.n a) Qu6 (some Qu6)))
def Qu8 (a : Qux) (b : List (List Value)) := AHeap.push (Qtt a) (AObj.mk b 2 true)
def Qu9 := (4 : Nat)
def Qua (a : AHeap) (b : Value) (c : List Prf) (d : Option Addr) (e : Quy) (f : Nat) (g h : Prop) := Qtp (Qu7 a = Qu7 a) (b = Qu5 c) (Value.slice d (List.length e) f = Value.slice d (List.length e) f) g h
def Qub (a : Nat) (b : Quy) := prfs (List.take a b)
def Quc (a : AHeap) (b : Quz) (c : Qv0) (d : Quy) (e : Nat → BP) := WB a (Prod.snd b) (Qub (Prod.fst c + 1) d) e
def Qud (a : Quz) (b : Qv0) := Prod.fst a = Prod.fst b
def Que (a : Qv0) := Prod.fst (Prod.snd (Prod.snd a))
def Quf (a : Nat) := Qu2 (↑a : Int)
def Qug (a : Qv0) := Quf (Prod.fst a)
def Quh (a : Quy) := Quf (List.length a) = Quf (List.length a)
def Qui (a : Qv0) := Prod.fst (Prod.snd a)
def Quj (a : Qv0) (b : Quy) := Append.append (Qub (Prod.fst a) b) (List.take (Qui a) (prA b (Prod.fst a)))
def Quk (a : Quy) (b : Qv0) := List.length (prA a (Prod.fst b))
def Qul (a : Quy) (b : Qv0) := Quk a b - Qui b
def Qum (a : Qv0) := Prod.snd (Prod.snd (Prod.snd a))
def Qun (a : Qv0) (b : Quy) := Value.slice (Prod.fst (Qum a)) (Quk b a) (Prod.snd (Qum a))
def Quo (a : Qv0) (b : Quy) (c : Prop) (d : AHeap) := Qtq (Prod.fst a < List.length b) (Qui a ≤ Quk b a) c (Sl d proofSh (prA b (Prod.fst a)) (Qun a b))
def Qup (a : AHeap) (b : Qv0) (c : Quy) (d : Nat → BP) := WB a (Que b) (Quj b c) d
def Quq (a : Qv0) := (↑(Qui a) : Int)
def Qur (a : Qv0) (b : Quy) := mostB (Quj a b)
def Qus (a : Quz) (b : Quy) := Qub (Prod.fst a) b
def Qut (a : Quz) := (↑(Prod.fst a) : Int)
def Quu := Value.slice none Qu6 Qu6
def Quv := Value.string (ByteArray.mk (Array.mk List.nil))
def Quw := Qu2 (Int.ofNat Qu6)
theorem wanted_spec (h : AHeap) (hw : h.wf) (cs : List changeSh.T) (a : Option Addr) (c : Nat) (hx : Sl h changeSh cs (.slice a cs.length c)) (n1 : cs.length ≤ 1000) (n2 : ∀ c ∈ (show List (Int × Int × List Prf) from cs), c.2.2.length ≤ 1000) (HP : PrfsOk (prfs cs)) :
    ∃ r h', ACall Tryz.prog 156 [.slice a cs.length c] h r h' ∧ ∃ (g : AHeap) (o : OX freshSh.T), r = .slice o.a o.xs.length o.c ∧ h' = o.g ∧ h.Le g ∧ OXok freshSh g o ∧ o.xs = wantM cs := by
  refine acall_q fun Q HQ => ?_
  refine acall_vc (fun t => t == 3) (fun r => match r with | 10 => [(0, 0, []), (1, 1, []), (2, 0, []), (3, 0, []), (4, 1, []), (5, 0, []), (6, 0, []), (7, 0, []), (9, 0, []), (8, 1, []), (10, 1, []), (11, 0, []), (12, 0, []), (13, 1, []), (14, 0, []), (15, 0, [])] | _ => []) (iwL h a c cs) mixed Tryz.func156 rfl rfl rfl (Nat.le_of_ble_eq_true rfl) ?_ ?_
  · (refine vc_mp (by kernel_rfl : (Qtp True True True (Qtp True (∀ (i : Nat × AHeap), Prod.fst i ≤ List.length cs ∧ (∃ (b : Nat → BP), WB h (Prod.snd i) (Qus i cs) b) → bs (decide (Qut i < (↑(List.length cs) : Int))) (∃ (l r : Nat), Qtq (a = some (Addr.mk l r (some 3))) (0 ≤ Qut i) (Qut i < (↑(List.length cs) : Int)) (∃ (x x_1 : Int) (a_2 : Option Addr) (n c_1 : Nat), AHeap.ld (Prod.snd i) l (r + Int.toNat (Qut i)) Qu6 3 = some [Qu2 x, Qu2 x_1, Value.slice a_2 n c_1] ∧ (∃ (i_1 : Nat × Nat × AHeap × Option Addr × Nat), Qua h (Qu5 (Qus i cs)) (Quj i_1 cs) a cs c (Quh cs) (Qtp (Quf (Prod.fst i) = Qug i_1) (Value.slice a_2 n c_1 = Qun i_1 cs) (Quf n = Quf (Quk cs i_1)) (Qu2 0 = Quf (Qui i_1)) (Qtq (Que i_1 = Prod.snd i) (Quo i_1 cs (∃ (b : Nat → BP), Qup h i_1 cs b) h) (∀ (j : Nat × AHeap), Qud j i_1 ∧ (∃ (b : Nat → BP), Quc h j i_1 cs b) → (∃ (j_1 : Nat × AHeap), Qua h (Qu5 (Qub (Prod.fst j + 1) cs)) (Qus j_1 cs) a cs c (Quh cs) (Qtp (Qu4 (Qut j) = Quf (Prod.fst j_1)) (Prod.snd j_1 = Prod.snd j) (Prod.fst j_1 ≤ List.length cs ∧ (∃ (b : Nat → BP), WB h (Prod.snd j_1) (Qus j_1 cs) b)) (List.length cs - Prod.fst j_1 < List.length cs - Prod.fst i) ((∀ (k : AHeap), (∃ (b : Nat → BP), WB h k (prfs cs) b) → (∃ (b : Nat → BP), WB h k (prfs cs) b)) ∧ (∀ (v : Value) (h : AHeap), False → False))))) (∀ (v : Value) (h : AHeap), False → False)))))) (∃ (j : AHeap), Qtq (Qu7 h = Qu7 h) (Qu5 (Qus i cs) = Qu5 (prfs cs)) (j = Prod.snd i) (∃ (b : Nat → BP), WB h j (prfs cs) b))) True (True ∧ True) (Qtp True True (∀ (i : Nat × Nat × AHeap × Option Addr × Nat), Quo i cs (∃ (b : Nat → BP), Qup h i cs b) h → bs (decide (Quq i < (↑(Quk cs i) : Int))) (∃ (l r : Nat), Qtq (Prod.fst (Qum i) = some (Addr.mk l r (some Qu9))) (0 ≤ Quq i) (Quq i < (↑(Quk cs i) : Int)) (∃ (x x_1 : Int) (x_2 : ByteArray) (a_2 : Option Addr) (n c_1 : Nat), Qtq (AHeap.ld (Que i) l (r + Int.toNat (Quq i)) Qu6 Qu9 = some [Qu2 x, Qu2 x_1, Value.string x_2, Value.slice a_2 n c_1]) (0 ≤ x_1) (x_1 < (↑7 : Int)) (∃ (x_3 : Int), AHeap.ld (Que i) (AHeap.n h) Qu6 (Qu6 + Int.toNat x_1 * Qu9 + 1) 1 = some [Qu2 x_3] ∧ bs (decide (x_3 = 0)) (Qtw x_1 (∃ (h' : AHeap), AHeap.wr (Que i) (AHeap.n h) Qu6 (Qu6 + Int.toNat x_1 * Qu9) [Qu2 x, Qu2 x_1, Value.string x_2, Value.slice a_2 n c_1] = some h' ∧ (∃ (j : Nat × Nat × AHeap × Option Addr × Nat), Qua h (Qu2 (ite (x_1 > Qur i cs) x_1 (Qur i cs))) (Quj j cs) a cs c (Quh cs) (Qtp (Qug i = Qug j) (Qun i cs = Qun j cs) (Quf (Quk cs i) = Quf (Quk cs j)) (Qu4 (Quq i) = Quf (Qui j)) (Qtp (Que j = h') (Quo j cs (∃ (b : Nat → BP), Qup h j cs b) h) (Qul cs j < Qul cs i) (∀ (k : Nat × AHeap), Qud k j ∧ (∃ (b : Nat → BP), Quc h k j cs b) → Qud k i ∧ (∃ (b : Nat → BP), Quc h k i cs b)) (∀ (v : Value) (h : AHeap), False → False)))))) (Qtw x_1 (∃ (x_4 : Int), AHeap.ld (Que i) (AHeap.n h) Qu6 (Qu6 + Int.toNat x_1 * Qu9 + Qu6) 1 = some [Qu2 x_4] ∧ bs (decide (x > x_4)) (Qtw x_1 (∃ (h' : AHeap), AHeap.wr (Que i) (AHeap.n h) Qu6 (Qu6 + Int.toNat x_1 * Qu9) [Qu2 x, Qu2 x_1, Value.string x_2, Value.slice a_2 n c_1] = some h' ∧ (∃ (j : Nat × Nat × AHeap × Option Addr × Nat), Qua h (Qu2 (ite (x_1 > Qur i cs) x_1 (Qur i cs))) (Quj j cs) a cs c (Quh cs) (Qtp (Qug i = Qug j) (Qun i cs = Qun j cs) (Quf (Quk cs i) = Quf (Quk cs j)) (Qu4 (Quq i) = Quf (Qui j)) (Qtp (Que j = h') (Quo j cs (∃ (b : Nat → BP), Qup h j cs b) h) (Qul cs j < Qul cs i) (∀ (k : Nat × AHeap), Qud k j ∧ (∃ (b : Nat → BP), Quc h k j cs b) → Qud k i ∧ (∃ (b : Nat → BP), Quc h k i cs b)) (∀ (v : Value) (h : AHeap), False → False)))))) (∃ (j : Nat × Nat × AHeap × Option Addr × Nat), Qua h (Qu2 (ite (x_1 > Qur i cs) x_1 (Qur i cs))) (Quj j cs) a cs c (Quh cs) (Qtp (Qug i = Qug j) (Qun i cs = Qun j cs) (Quf (Quk cs i) = Quf (Quk cs j)) (Qu4 (Quq i) = Quf (Qui j)) (Qtp (Que j = Que i) (Quo j cs (∃ (b : Nat → BP), Qup h j cs b) h) (Qul cs j < Qul cs i) (∀ (k : Nat × AHeap), Qud k j ∧ (∃ (b : Nat → BP), Quc h k j cs b) → Qud k i ∧ (∃ (b : Nat → BP), Quc h k i cs b)) (∀ (v : Value) (h : AHeap), False → False))))))))) (∃ (j : Nat × AHeap), Qua h (Qu5 (Quj i cs)) (Qub (Prod.fst j + 1) cs) a cs c (Quh cs) (Qtq (Qug i = Quf (Prod.fst j)) (Prod.snd j = Que i) (Qud j i) (∃ (b : Nat → BP), Quc h j i cs b)))) True ((True ∧ True) ∧ Qtp True True True True True ∧ True) ∧ True)) (Qtq True (Qtp True (∀ (i : Nat × OX (Sh.T freshSh) × AHeap × (Nat → BP)), Qtz (Qu1 i ≤ Qtx cs) (WB h (Qty i) (prfs cs) (Qu0 i)) i (OX.xs (Qts i) = wantN (prfs cs) (Prod.fst i)) → bs (decide (Qu3 i ≤ Qtx cs)) (Qtw (Qu3 i) (∃ (x : ByteArray), AHeap.ld (Qtt i) (AHeap.n h) Qu6 (Qu6 + Int.toNat (Qu3 i) * Qu9 + 2) 1 = some [Value.string x] ∧ (∃ (xs : List (List Value)), Qtq (rowsV (Qu8 i [[Qu2 (Qu3 i), Value.string x]]) (Value.slice (some (Addr.mk (AHeap.n (Qtt i)) Qu6 (some 2))) 1 2) = some xs) (List.all xs (fun (row : List Value) =>
  decide (List.length row = (2 : Nat)) &&
    List.all row fun (v : Value) =>
      match v with
      | Value.agg cells => false
      | Value.tuple cells => false
      | Value.complex k re im => false
      | Value.chan r => false
      | x => true) = true) ((List.length (OX.xs (Qts i)) + List.length xs) * 24 ≤ 140737488355328) (∃ (a : Option Addr) (n c : Nat) (h' : AHeap), AHeap.app (Qu8 i [[Qu2 (Qu3 i), Value.string x]]) (Qtv i) xs 2 = some (Prod.mk (Value.slice a n c) h') ∧ (∃ (j : Nat × OX (Sh.T freshSh) × AHeap × (Nat → BP)), Qtp (Qu7 h = Qu7 h) (Qu5 (prfs cs) = Qu5 (prfs cs)) (Value.slice a n c = Qtv j) (Qu4 (Qu3 i) = Qu2 (Qu3 j)) (Qtp (Qtt j = h') (Qtz (Qu1 j ≤ Qtx cs) (WB h (Qty j) (prfs cs) (Qu0 j)) j (OX.xs (Qts j) = wantN (prfs cs) (Prod.fst j))) (Int.toNat (Qtx cs) - Prod.fst j < Int.toNat (Qtx cs) - Prod.fst i) (∀ (k : OX (Sh.T freshSh)), (∃ (g : AHeap), Qtr h g k (OX.xs k = wantM cs)) → (∃ (g : AHeap), Qtr h g k (OX.xs k = wantM cs))) (∀ (v : Value) (h : AHeap), False → False))))))) (∃ (j : OX (Sh.T freshSh)), Qtv i = Qtu j (OX.xs j) ∧ OX.g j = Qtt i ∧ (∃ (g : AHeap), Qtr h g j (OX.xs j = wantM cs)))) (True ∧ True ∧ True) True True) True True)) = _) ?_; delta Qtp Qtq Qtr Qts Qtt Qtu Qtv Qtw Qtx Qty Qtz Qu0 Qu1 Qu2 Qu3 Qu4 Qu5 Qu6 Qu7 Qu8 Qu9 Qua Qub Quc Qud Que Quf Qug Quh Qui Quj Quk Qul Qum Qun Quo Qup Quq Qur Qus Qut)
    simp only [true_and, and_true]
    have hm := HP.most
    refine ⟨⟨fun ⟨i, g⟩ ⟨hi, b, W⟩ => ?_, fun ⟨i, k, g, a2, c2⟩ ⟨hi, hk, ⟨b, W⟩, s1⟩ => ?_⟩, fun ⟨n, o, g, b⟩ ⟨hn, W, B, hxs⟩ => ?_⟩
    · dsimp only at *
      refine bs_d (fun hlt => ?_) (fun hge => ⟨g, by rw [List.take_of_length_le (by omega)], rfl, b, by rw [List.take_of_length_le (by omega)] at W; exact W⟩)
      obtain ⟨⟨f, v, ps⟩, hat⟩ : ∃ y : Int × Int × List Prf, cs[i]? = some y := ⟨_, List.getElem?_eq_getElem (by omega)⟩
      obtain ⟨l, r, row, ha, _, hrd, hld⟩ := hx.elem hat
      obtain ⟨v1, rfl, s1⟩ := rd_change.1 hrd
      obtain ⟨a2, c2, rfl⟩ := s1.isSlice
      dsimp only at hld s1
      exact ⟨l, r, ha, Int.natCast_nonneg _, hlt, _, _, _, _, _, W.le.ld hld, (i, 0, g, a2, c2), congrArg _ (congrArg _ (List.append_nil _).symm), rfl, by dsimp only; rw [prA_at hat], by dsimp only; rw [prA_at hat], rfl, rfl, ⟨by dsimp only; omega, Nat.zero_le _, ⟨b, by dsimp only; rw [show Append.append (prfs (cs.take i)) (List.take 0 (prA cs i)) = prfs (cs.take i) from List.append_nil _]; exact W⟩, by dsimp only; rw [prA_at hat]; exact s1⟩, fun ⟨j1, gj⟩ ⟨e1, b', W'⟩ => by
        dsimp only at e1 W' ⊢
        subst e1
        exact ⟨(j1 + 1, gj), rfl, by rw [wrap_i64 (by omega)]; rfl, rfl, ⟨by dsimp only; omega, b', W'⟩, by dsimp only; omega, fun _ h => h, fun _ _ h => h⟩, fun _ _ h => h⟩
    · dsimp only at *
      obtain ⟨⟨f, v, ps⟩, hat⟩ : ∃ y : Int × Int × List Prf, cs[i]? = some y := ⟨_, List.getElem?_eq_getElem hi⟩
      have n3 : ps.length ≤ 1000 := n2 _ (List.mem_of_getElem? hat)
      have ea := prA_at hat
      have W : WB h g (prfs (cs.take i) ++ (prA cs i).take k) b := W
      rw [ea] at hk s1 W ⊢
      refine bs_d (fun hlt => ?_) (fun hge => ⟨(i, g), ?_, rfl, rfl, rfl, b, ?_⟩)
      · obtain ⟨⟨pv, pq, po, pb⟩, hak⟩ : ∃ y : Prf, ps[k]? = some y := ⟨_, List.getElem?_eq_getElem (by omega)⟩
        obtain ⟨h0, h1, h6, _⟩ := HP _ (prfs_at hat hak)
        dsimp only at h0 h1 h6
        obtain ⟨q, rfl⟩ : ∃ q : Nat, pq = q := ⟨pq.toNat, by omega⟩
        obtain ⟨l2, r2, row2, ha2, _, hrd2, hld2⟩ := s1.elem hak
        obtain ⟨v2, rfl, s2⟩ := rd_proof.1 hrd2
        obtain ⟨a3, c3, rfl⟩ := s2.isSlice
        dsimp only at hld2
        obtain ⟨L0, L1, _⟩ := br_ld W.ob (q := q) (by omega)
        have mst : Value.int .i64 (if (q : Int) > mostB (prfs (cs.take i) ++ ps.take k) then (q : Int) else mostB (prfs (cs.take i) ++ ps.take k)) = Value.int .i64 (mostB (prfs (cs.take i) ++ ps.take (k + 1))) := by
          rw [snoc_take hak, mostB_snoc]
        have yes : (b q).2.1 = 0 ∨ (b q).1 < pv → WB h (g.put h.n (some ⟨[brow (bset b q (pv, (q : Int), po, a3, pb.length, c3))], 28, true⟩)) (prfs (cs.take i) ++ ps.take (k + 1)) (bset b q (pv, (q : Int), po, a3, pb.length, c3)) := fun hc => by
          refine ⟨W.le.put (hw h.n (Nat.le_refl _)) _, W.wf.put W.n _, W.n, AHeap.get_put_eq, ?_⟩
          rw [snoc_take hak]
          exact W.bi.yes _ (by omega) (by omega) hc
        refine ⟨l2, r2, ha2, Int.natCast_nonneg _, hlt, _, _, _, _, _, _, W.le.ld hld2, by omega, by show (q : Int) < 7; omega, _, L1, bs_d (fun e1 => ?_) (fun e1 => ?_)⟩
        · refine ⟨by omega, by show (q : Int) < 7; omega, _, br_wr W.ob (by omega) (pv, (q : Int), po, a3, pb.length, c3), (i, k + 1, _, a2, c2), ?_, rfl, by dsimp only; rw [ea], by dsimp only; rw [ea], by rw [wrap_i64 (by omega)]; rfl, rfl, ⟨hi, by dsimp only; rw [ea]; omega, ⟨_, by dsimp only; rw [ea]; exact yes (.inl e1)⟩, by dsimp only; rw [ea]; exact s1⟩, by dsimp only; rw [ea]; omega, fun _ h => h, fun _ _ h => h⟩
          dsimp only; rw [ea]; exact mst
        · refine ⟨by omega, by show (q : Int) < 7; omega, _, L0, bs_d (fun e2 => ?_) (fun e2 => ?_)⟩
          · refine ⟨by omega, by show (q : Int) < 7; omega, _, br_wr W.ob (by omega) (pv, (q : Int), po, a3, pb.length, c3), (i, k + 1, _, a2, c2), ?_, rfl, by dsimp only; rw [ea], by dsimp only; rw [ea], by rw [wrap_i64 (by omega)]; rfl, rfl, ⟨hi, by dsimp only; rw [ea]; omega, ⟨_, by dsimp only; rw [ea]; exact yes (.inr e2)⟩, by dsimp only; rw [ea]; exact s1⟩, by dsimp only; rw [ea]; omega, fun _ h => h, fun _ _ h => h⟩
            dsimp only; rw [ea]; exact mst
          · refine ⟨(i, k + 1, g, a2, c2), ?_, rfl, by dsimp only; rw [ea], by dsimp only; rw [ea], by rw [wrap_i64 (by omega)]; rfl, rfl, ⟨hi, by dsimp only; rw [ea]; omega, ⟨b, by dsimp only; rw [ea]; exact ⟨W.le, W.wf, W.n, W.ob, by rw [show Append.append (prfs (cs.take i)) (ps.take (k + 1)) = prfs (cs.take i) ++ ps.take (k + 1) from rfl, snoc_take hak]; exact W.bi.no (by omega) (by omega) e1 e2⟩⟩, by dsimp only; rw [ea]; exact s1⟩, by dsimp only; rw [ea]; omega, fun _ h => h, fun _ _ h => h⟩
            dsimp only; rw [ea]; exact mst
      · rw [prfs_take hat]; exact congrArg (fun z => Value.int .i64 (mostB (_ ++ z))) (List.take_of_length_le (by omega))
      · rw [prfs_take hat]; rw [List.take_of_length_le (l := ps) (by omega)] at W; exact W
    · dsimp only at *
      refine bs_d (fun hle => ?_) (fun hgt => ⟨o, rfl, rfl, g, W.le, B, by rw [hxs]; unfold wantM; rw [show n = (mostB (prfs cs)).toNat by omega]⟩)
      have ol : o.xs.length = n := by rw [hxs, wantN_len]
      have L2 := (br_ld W.ob (q := n + 1) (by omega)).2.2
      obtain ⟨o', e6, B', hx', _, _, _⟩ := B.app (x := ((n : Int) + 1, (b (n + 1)).2.2.1)) freshRn .nil (by simp)
      refine ⟨by omega, by show (n : Int) + 1 < 7; omega, _, B.le.ld L2, _, rowsV_push, rfl, by simp only [List.length_cons, List.length_nil]; omega, _, _, _, o'.g, e6, (n + 1, o', g, b), rfl, by rw [wrap_i64 (by omega)]; rfl, rfl, ⟨by dsimp only; omega, W, B', ?_⟩, by dsimp only; omega, fun _ h => h, fun _ _ h => h⟩
      dsimp only
      rw [hx', hxs, wantN, W.bi.op (by omega) (by omega)]
      rfl
  (refine vc_mp (by kernel_rfl : (∃ (i : Nat × AHeap), Qua h (Qu2 0) (Qus i cs) a cs c (Quh cs) (Qtp (Qu2 0 = Quf (Prod.fst i)) (Prod.snd i = AHeap.push h (AObj.mk [[Quw, Quw, Quv, Quu, Quw, Quw, Quv, Quu, Quw, Quw, Quv, Quu, Quw, Quw, Quv, Quu, Quw, Quw, Quv, Quu, Quw, Quw, Quv, Quu, Quw, Quw, Quv, Quu]] 28 true)) (Prod.fst i ≤ List.length cs ∧ (∃ (b : Nat → BP), WB h (Prod.snd i) (Qus i cs) b)) (∀ (j : AHeap), (∃ (b : Nat → BP), WB h j (prfs cs) b) → (∃ (i : Nat × OX (Sh.T freshSh) × AHeap × (Nat → BP)), Qtp (Qu7 h = Qu7 h) (Qu5 (prfs cs) = Qu5 (prfs cs)) (Quu = Qtv i) (Qu2 1 = Qu2 (Qu3 i)) (Qtq (Qtt i = j) (Qtz (Qu1 i ≤ Qtx cs) (WB h (Qty i) (prfs cs) (Qu0 i)) i (OX.xs (Qts i) = wantN (prfs cs) (Prod.fst i))) (∀ (j : OX (Sh.T freshSh)), (∃ (g : AHeap), Qtr h g j (OX.xs j = wantM cs)) → Q (Qtu j (OX.xs j)) (OX.g j)) (∀ (v : Value) (h : AHeap), False → Q v h)))) (∀ (v : Value) (h : AHeap), False → Q v h))) = _) ?_; delta Qtp Qtq Qtr Qts Qtt Qtu Qtv Qtx Qty Qtz Qu0 Qu1 Qu2 Qu3 Qu5 Qu6 Qu7 Qua Qub Quf Quh Qus Quu Quv Quw)
  have z : BP := (0, 0, ⟨#[]⟩, none, 0, 0)
  have wp := hw.push ⟨[brow fun _ => (0, 0, ⟨#[]⟩, none, 0, 0)], 28, true⟩
  have W0 : WB h (h.push ⟨[brow fun _ => (0, 0, ⟨#[]⟩, none, 0, 0)], 28, true⟩) [] (fun _ => (0, 0, ⟨#[]⟩, none, 0, 0)) := ⟨.push hw _, wp, Nat.lt_succ_self _, AHeap.get_push_eq, fun q _ _ => .inl ⟨rfl, rfl, rfl⟩⟩
  exact ⟨((0 : Nat), _), rfl, rfl, rfl, rfl, rfl, rfl, ⟨Nat.zero_le _, _, W0⟩, fun g ⟨b, W⟩ => ⟨(0, ⟨none, 0, [], [], g⟩, g, b), rfl, rfl, rfl, rfl, rfl, ⟨HP.most.1, W, OXok.nil W.wf, rfl⟩, fun o ⟨g, le, B, e⟩ => HQ _ _ ⟨g, o, rfl, rfl, le, B, e⟩, fun _ _ h => h.elim⟩, fun _ _ h => h.elim⟩
end Go.Proofs.YtpgfjadjhliohaaGreat
