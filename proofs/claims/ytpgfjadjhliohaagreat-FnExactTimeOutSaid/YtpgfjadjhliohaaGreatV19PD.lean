/- PD. -/
import Derived.Test.YtpgfjadjhliohaaGreatV19PC
namespace Go.Dat
open Go.Abs
abbrev BP := Int × Int × ByteArray × Option Addr × Nat × Nat
def bc (x : BP) : List Value := [.int .i64 x.1, .int .i64 x.2.1, .string x.2.2.1, .slice x.2.2.2.1 x.2.2.2.2.1 x.2.2.2.2.2]
def brow (b : Nat → BP) : List Value := bc (b 0) ++ (bc (b 1) ++ (bc (b 2) ++ (bc (b 3) ++ (bc (b 4) ++ (bc (b 5) ++ bc (b 6))))))
def BIn (b : Nat → BP) (ps : List Prf) : Prop := ∀ q : Nat, 1 ≤ q → q ≤ 6 → ((b q).2.1 = 0 ∧ bestB q ps = none ∧ (b q).2.2.1 = ⟨#[]⟩) ∨ ((b q).2.1 = q ∧ bestB q ps = some ((b q).1, (b q).2.2.1))
def bset (b : Nat → BP) (q : Nat) (x : BP) : Nat → BP := fun k => if k = q then x else b k
theorem six {P : Nat → Prop} (h0 : P 0) (h1 : P 1) (h2 : P 2) (h3 : P 3) (h4 : P 4) (h5 : P 5) (h6 : P 6) (q : Nat) (hq : q ≤ 6) : P q := by
  rcases (by omega : q = 0 ∨ q = 1 ∨ q = 2 ∨ q = 3 ∨ q = 4 ∨ q = 5 ∨ q = 6) with rfl | rfl | rfl | rfl | rfl | rfl | rfl <;> assumption
theorem br_ld {g : AHeap} {l : Nat} {b : Nat → BP} (hg : g.get l = some ⟨[brow b], 28, true⟩) {q : Nat} (hq : q ≤ 6) : g.ld l 0 (0 + q * 4 + 0) 1 = some [.int .i64 (b q).1] ∧ g.ld l 0 (0 + q * 4 + 1) 1 = some [.int .i64 (b q).2.1] ∧ g.ld l 0 (0 + q * 4 + 2) 1 = some [.string (b q).2.2.1] := by
  have key : ∀ i vs, i + 1 ≤ 28 → ((brow b).drop i).take 1 = vs → g.ld l 0 i 1 = some vs := fun i vs hi e => by
    unfold AHeap.ld
    rw [hg]
    dsimp only
    rw [show (([brow b] : List (List Value))[0]? : Option (List Value)) = some (brow b) from rfl]
    dsimp only
    rw [show (brow b).length = 28 from rfl, decide_eq_true hi, cond_true, e]
  refine ⟨key _ _ (by omega) ?_, key _ _ (by omega) ?_, key _ _ (by omega) ?_⟩
  · exact six (P := fun q => ((brow b).drop (0 + q * 4 + 0)).take 1 = [.int .i64 (b q).1]) rfl rfl rfl rfl rfl rfl rfl q hq
  · exact six (P := fun q => ((brow b).drop (0 + q * 4 + 1)).take 1 = [.int .i64 (b q).2.1]) rfl rfl rfl rfl rfl rfl rfl q hq
  · exact six (P := fun q => ((brow b).drop (0 + q * 4 + 2)).take 1 = [.string (b q).2.2.1]) rfl rfl rfl rfl rfl rfl rfl q hq
theorem br_wr {g : AHeap} {l : Nat} {b : Nat → BP} (hg : g.get l = some ⟨[brow b], 28, true⟩) {q : Nat} (hq : q ≤ 6) (x : BP) : g.wr l 0 (0 + q * 4) (bc x) = some (g.put l (some ⟨[brow (bset b q x)], 28, true⟩)) := by
  have e : setRange (brow b) (0 + q * 4) (bc x) = brow (bset b q x) := six (P := fun q => setRange (brow b) (0 + q * 4) (bc x) = brow (bset b q x)) rfl rfl rfl rfl rfl rfl rfl q hq
  rw [wr_field (i := 0) hg rfl (by show 0 + q * 4 + 4 ≤ 28; omega), e]; rfl
theorem BIn.other {b : Nat → BP} {ps : List Prf} {pv : Int} {Q : Nat} {po : ByteArray} {pb : List Int} {q : Nat} (hn : ¬ q = Q) : bestB q (ps ++ [(pv, (Q : Int), po, pb)]) = bestB q ps := by
  rw [bestB_snoc]
  have hne : ¬ (Q : Int) = q := by omega
  cases bestB q ps with
  | none => exact if_neg hne
  | some y => exact if_neg fun e => hne e.1
theorem BIn.yes {b : Nat → BP} {ps : List Prf} (B : BIn b ps) {pv : Int} {Q : Nat} {po : ByteArray} {pb : List Int} (z : Option Addr × Nat × Nat) (h1 : 1 ≤ Q) (h6 : Q ≤ 6) (h : (b Q).2.1 = 0 ∨ (b Q).1 < pv) : BIn (bset b Q (pv, Q, po, z)) (ps ++ [(pv, (Q : Int), po, pb)]) := by
  intro q q1 q6
  by_cases hq : q = Q
  · subst hq
    right
    have e : bset b q (pv, (q : Int), po, z) q = (pv, (q : Int), po, z) := if_pos rfl
    rw [e, bestB_snoc]
    refine ⟨rfl, ?_⟩
    rcases B q q1 q6 with ⟨e0, e1, _⟩ | ⟨e0, e1⟩
    · rw [e1]; exact if_pos rfl
    · rw [e1]
      exact if_pos ⟨rfl, by rcases h with h | h; · omega
                            · exact h⟩
  · rw [BIn.other (b := b) hq]
    have e : bset b Q (pv, (Q : Int), po, z) q = b q := if_neg hq
    rw [e]; exact B q q1 q6
theorem BIn.no {b : Nat → BP} {ps : List Prf} (B : BIn b ps) {pv : Int} {Q : Nat} {po : ByteArray} {pb : List Int} (h1 : 1 ≤ Q) (h6 : Q ≤ 6) (h0 : ¬ (b Q).2.1 = 0) (h : ¬ (b Q).1 < pv) : BIn b (ps ++ [(pv, (Q : Int), po, pb)]) := by
  intro q q1 q6
  by_cases hq : q = Q
  · subst hq
    rcases B q q1 q6 with ⟨e0, _, _⟩ | ⟨e0, e1⟩
    · exact absurd e0 h0
    · right
      rw [bestB_snoc, e1]
      exact ⟨e0, if_neg fun e => h e.2⟩
  · rw [BIn.other (b := b) hq]; exact B q q1 q6
theorem BIn.op {b : Nat → BP} {ps : List Prf} (B : BIn b ps) {q : Nat} (h1 : 1 ≤ q) (h6 : q ≤ 6) : (b q).2.2.1 = opB (bestB q ps) := by
  rcases B q h1 h6 with ⟨_, e, e2⟩ | ⟨_, e⟩ <;> rw [e]
  · exact e2
  · rfl
end Go.Dat
namespace Go.Proofs.YtpgfjadjhliohaaGreat
open Go.Abs Go.Dat
set_option maxRecDepth 100000
set_option maxHeartbeats 8000000
structure WB (h : AHeap) (g : AHeap) (ps : List Prf) (b : Nat → BP) : Prop where
  le : h.Le g
  wf : g.wf
  n : h.n < g.n
  ob : g.get h.n = some ⟨[brow b], 28, true⟩
  bi : BIn b ps
def iwL (h : AHeap) (a : Option Addr) (c : Nat) (cs : List changeSh.T) : Nat → LSpec
  | 0 => {
    ι := Nat × AHeap
    κ := AHeap
    I := fun i => i.1 ≤ cs.length ∧ ∃ b, WB h i.2 (prfs (cs.take i.1)) b
    μ := fun i => cs.length - i.1
    head := fun i => ⟨[(3, .pointer (some ⟨h.n, 0, some 0⟩)), (4, .int .i64 (mostB (prfs (cs.take i.1)))), (11, .slice a cs.length c), (12, .int .i64 cs.length), (13, .int .i64 i.1)], [], i.2⟩
    post := fun g => ⟨[(3, .pointer (some ⟨h.n, 0, some 0⟩)), (4, .int .i64 (mostB (prfs cs)))], [], g⟩
    R := fun _ g => ∃ b, WB h g (prfs cs) b
    ret := fun _ _ _ => False }
  | 2 => {
    ι := Nat × Nat × AHeap × Option Addr × Nat
    κ := Nat × AHeap
    I := fun i => i.1 < cs.length ∧ i.2.1 ≤ (prA cs i.1).length ∧ (∃ b, WB h i.2.2.1 (prfs (cs.take i.1) ++ (prA cs i.1).take i.2.1) b) ∧ Sl h proofSh (prA cs i.1) (.slice i.2.2.2.1 (prA cs i.1).length i.2.2.2.2)
    μ := fun i => (prA cs i.1).length - i.2.1
    head := fun i => ⟨[(3, .pointer (some ⟨h.n, 0, some 0⟩)), (4, .int .i64 (mostB (prfs (cs.take i.1) ++ (prA cs i.1).take i.2.1))), (11, .slice a cs.length c), (12, .int .i64 cs.length), (13, .int .i64 i.1), (18, .slice i.2.2.2.1 (prA cs i.1).length i.2.2.2.2), (19, .int .i64 (prA cs i.1).length), (20, .int .i64 i.2.1)], [], i.2.2.1⟩
    post := fun i => ⟨[(3, .pointer (some ⟨h.n, 0, some 0⟩)), (4, .int .i64 (mostB (prfs (cs.take (i.1 + 1))))), (11, .slice a cs.length c), (12, .int .i64 cs.length), (13, .int .i64 i.1)], [], i.2⟩
    R := fun i j => j.1 = i.1 ∧ ∃ b, WB h j.2 (prfs (cs.take (i.1 + 1))) b
    ret := fun _ _ _ => False }
  | _ => {
    ι := Nat × OX freshSh.T × AHeap × (Nat → BP)
    κ := OX freshSh.T
    I := fun i => (i.1 : Int) ≤ mostB (prfs cs) ∧ WB h i.2.2.1 (prfs cs) i.2.2.2 ∧ OXok freshSh i.2.2.1 i.2.1 ∧ i.2.1.xs = wantN (prfs cs) i.1
    μ := fun i => (mostB (prfs cs)).toNat - i.1
    head := fun i => ⟨[(3, .pointer (some ⟨h.n, 0, some 0⟩)), (4, .int .i64 (mostB (prfs cs))), (9, .slice i.2.1.a i.2.1.xs.length i.2.1.c), (10, .int .i64 ((i.1 : Int) + 1))], [], i.2.1.g⟩
    post := fun o => ⟨[(9, .slice o.a o.xs.length o.c)], [], o.g⟩
    R := fun _ o => ∃ g, h.Le g ∧ OXok freshSh g o ∧ o.xs = wantM cs
    ret := fun _ _ _ => False }
abbrev Qw1 := Nat × OX (Sh.T freshSh) × AHeap × (Nat → BP)
abbrev Qw2 := List (Sh.T changeSh)
abbrev Qw3 := Nat × AHeap
abbrev Qw4 := Nat × Nat × AHeap × Option Addr × Nat
def Qut (a b c d e : Prop) := a ∧ b ∧ c ∧ d ∧ e
def Quu (a b c d : Prop) := a ∧ b ∧ c ∧ d
def Quv (a b : AHeap) (c : OX (Sh.T freshSh)) (d : Prop) := AHeap.Le a b ∧ OXok freshSh b c ∧ d
def Quw (a : Qw1) := Prod.fst (Prod.snd a)
def Qux (a : Qw1) := OX.g (Quw a)
def Quy (a : OX (Sh.T freshSh)) (b : List (Sh.T freshSh)) := Value.slice (OX.a a) (List.length b) (OX.c a)
def Quz (a : Qw1) := Quy (Quw a) (OX.xs (Quw a))
def Qv0 (a : Int) (b : Prop) := 0 ≤ a ∧ a < (↑7 : Int) ∧ b
def Qv1 (a : Qw2) := mostB (prfs a)
def Qv2 (a : Qw1) := Prod.fst (Prod.snd (Prod.snd a))
def Qv3 (a b : Prop) (c : Qw1) (d : Prop) := Quu a b (OXok freshSh (Qv2 c) (Quw c)) d
def Qv4 (a : Qw1) := Prod.snd (Prod.snd (Prod.snd a))
def Qv5 (a : Qw1) := (↑(Prod.fst a) : Int)
def Qv6 (a : Int) := Value.int IntKind.i64 a
def Qv7 (a : Qw1) := Qv5 a + 1
def Qv8 (a : Int) := Qv6 (IntKind.wrap IntKind.i64 (a + 1))
def Qv9 (a : List Prf) := Qv6 (mostB a)
def Qva := (0 : Nat)
def Qvb (a : AHeap) := Value.pointer (some (Addr.mk (AHeap.n a) Qva (some Qva)))
def Qvc (a : Qw1) (b : List (List Value)) := AHeap.push (Qux a) (AObj.mk b 2 true)
def Qvd := (4 : Nat)
def Qve (a : AHeap) (b : Value) (c : List Prf) (d : Option Addr) (e : Qw2) (f : Nat) (g h : Prop) := Qut (Qvb a = Qvb a) (b = Qv9 c) (Value.slice d (List.length e) f = Value.slice d (List.length e) f) g h
def Qvf (a : Nat) (b : Qw2) := prfs (List.take a b)
def Qvg (a : AHeap) (b : Qw3) (c : Qw4) (d : Qw2) (e : Nat → BP) := WB a (Prod.snd b) (Qvf (Prod.fst c + 1) d) e
def Qvh (a : Qw3) (b : Qw4) := Prod.fst a = Prod.fst b
def Qvi (a : Qw4) := Prod.fst (Prod.snd (Prod.snd a))
def Qvj (a : Nat) := Qv6 (↑a : Int)
def Qvk (a : Qw4) := Qvj (Prod.fst a)
def Qvl (a : Qw2) := Qvj (List.length a) = Qvj (List.length a)
def Qvm (a : Qw4) := Prod.fst (Prod.snd a)
def Qvn (a : Qw4) (b : Qw2) := Append.append (Qvf (Prod.fst a) b) (List.take (Qvm a) (prA b (Prod.fst a)))
def Qvo (a : Qw2) (b : Qw4) := List.length (prA a (Prod.fst b))
def Qvp (a : Qw2) (b : Qw4) := Qvo a b - Qvm b
def Qvq (a : Qw4) := Prod.snd (Prod.snd (Prod.snd a))
def Qvr (a : Qw4) (b : Qw2) := Value.slice (Prod.fst (Qvq a)) (Qvo b a) (Prod.snd (Qvq a))
def Qvs (a : Qw4) (b : Qw2) (c : Prop) (d : AHeap) := Quu (Prod.fst a < List.length b) (Qvm a ≤ Qvo b a) c (Sl d proofSh (prA b (Prod.fst a)) (Qvr a b))
def Qvt (a : AHeap) (b : Qw4) (c : Qw2) (d : Nat → BP) := WB a (Qvi b) (Qvn b c) d
def Qvu (a : Qw4) := (↑(Qvm a) : Int)
def Qvv (a : Qw4) (b : Qw2) := mostB (Qvn a b)
def Qvw (a : Qw3) (b : Qw2) := Qvf (Prod.fst a) b
def Qvx (a : Qw3) := (↑(Prod.fst a) : Int)
def Qvy := Value.slice none Qva Qva
def Qvz := Value.string (ByteArray.mk (Array.mk List.nil))
def Qw0 := Qv6 (Int.ofNat Qva)
theorem wanted_spec (h : AHeap) (hw : h.wf) (cs : List changeSh.T) (a : Option Addr) (c : Nat) (hx : Sl h changeSh cs (.slice a cs.length c)) (n1 : cs.length ≤ 1000) (n2 : ∀ c ∈ (show List (Int × Int × List Prf) from cs), c.2.2.length ≤ 1000) (HP : PrfsOk (prfs cs)) :
    ∃ r h', ACall Tryz.prog 156 [.slice a cs.length c] h r h' ∧ ∃ (g : AHeap) (o : OX freshSh.T), r = .slice o.a o.xs.length o.c ∧ h' = o.g ∧ h.Le g ∧ OXok freshSh g o ∧ o.xs = wantM cs := by
  refine acall_q fun Q HQ => ?_
  refine acall_vc (fun t => t == 3) (fun r => match r with | 10 => [(0, 0, []), (1, 1, []), (2, 0, []), (3, 0, []), (4, 1, []), (5, 0, []), (6, 0, []), (7, 0, []), (9, 0, []), (8, 1, []), (10, 1, []), (11, 0, []), (12, 0, []), (13, 1, []), (14, 0, []), (15, 0, [])] | _ => []) (iwL h a c cs) mixed Tryz.func156 rfl rfl rfl (Nat.le_of_ble_eq_true rfl) ?_ ?_
  · (refine vc_mp (by kernel_rfl : (Qut True True True (Qut True (∀ (i : Nat × AHeap), Prod.fst i ≤ List.length cs ∧ (∃ (b : Nat → BP), WB h (Prod.snd i) (Qvw i cs) b) → bs (decide (Qvx i < (↑(List.length cs) : Int))) (∃ (l r : Nat), Quu (a = some (Addr.mk l r (some 3))) (0 ≤ Qvx i) (Qvx i < (↑(List.length cs) : Int)) (∃ (x x_1 : Int) (a_2 : Option Addr) (n c_1 : Nat), AHeap.ld (Prod.snd i) l (r + Int.toNat (Qvx i)) Qva 3 = some [Qv6 x, Qv6 x_1, Value.slice a_2 n c_1] ∧ (∃ (i_1 : Nat × Nat × AHeap × Option Addr × Nat), Qve h (Qv9 (Qvw i cs)) (Qvn i_1 cs) a cs c (Qvl cs) (Qut (Qvj (Prod.fst i) = Qvk i_1) (Value.slice a_2 n c_1 = Qvr i_1 cs) (Qvj n = Qvj (Qvo cs i_1)) (Qv6 0 = Qvj (Qvm i_1)) (Quu (Qvi i_1 = Prod.snd i) (Qvs i_1 cs (∃ (b : Nat → BP), Qvt h i_1 cs b) h) (∀ (j : Nat × AHeap), Qvh j i_1 ∧ (∃ (b : Nat → BP), Qvg h j i_1 cs b) → (∃ (j_1 : Nat × AHeap), Qve h (Qv9 (Qvf (Prod.fst j + 1) cs)) (Qvw j_1 cs) a cs c (Qvl cs) (Qut (Qv8 (Qvx j) = Qvj (Prod.fst j_1)) (Prod.snd j_1 = Prod.snd j) (Prod.fst j_1 ≤ List.length cs ∧ (∃ (b : Nat → BP), WB h (Prod.snd j_1) (Qvw j_1 cs) b)) (List.length cs - Prod.fst j_1 < List.length cs - Prod.fst i) ((∀ (k : AHeap), (∃ (b : Nat → BP), WB h k (prfs cs) b) → (∃ (b : Nat → BP), WB h k (prfs cs) b)) ∧ (∀ (v : Value) (h : AHeap), False → False))))) (∀ (v : Value) (h : AHeap), False → False)))))) (∃ (j : AHeap), Quu (Qvb h = Qvb h) (Qv9 (Qvw i cs) = Qv9 (prfs cs)) (j = Prod.snd i) (∃ (b : Nat → BP), WB h j (prfs cs) b))) True (True ∧ True) (Qut True True (∀ (i : Nat × Nat × AHeap × Option Addr × Nat), Qvs i cs (∃ (b : Nat → BP), Qvt h i cs b) h → bs (decide (Qvu i < (↑(Qvo cs i) : Int))) (∃ (l r : Nat), Quu (Prod.fst (Qvq i) = some (Addr.mk l r (some Qvd))) (0 ≤ Qvu i) (Qvu i < (↑(Qvo cs i) : Int)) (∃ (x x_1 : Int) (x_2 : ByteArray) (a_2 : Option Addr) (n c_1 : Nat), Quu (AHeap.ld (Qvi i) l (r + Int.toNat (Qvu i)) Qva Qvd = some [Qv6 x, Qv6 x_1, Value.string x_2, Value.slice a_2 n c_1]) (0 ≤ x_1) (x_1 < (↑7 : Int)) (∃ (x_3 : Int), AHeap.ld (Qvi i) (AHeap.n h) Qva (Qva + Int.toNat x_1 * Qvd + 1) 1 = some [Qv6 x_3] ∧ bs (decide (x_3 = 0)) (Qv0 x_1 (∃ (h' : AHeap), AHeap.wr (Qvi i) (AHeap.n h) Qva (Qva + Int.toNat x_1 * Qvd) [Qv6 x, Qv6 x_1, Value.string x_2, Value.slice a_2 n c_1] = some h' ∧ (∃ (j : Nat × Nat × AHeap × Option Addr × Nat), Qve h (Qv6 (ite (x_1 > Qvv i cs) x_1 (Qvv i cs))) (Qvn j cs) a cs c (Qvl cs) (Qut (Qvk i = Qvk j) (Qvr i cs = Qvr j cs) (Qvj (Qvo cs i) = Qvj (Qvo cs j)) (Qv8 (Qvu i) = Qvj (Qvm j)) (Qut (Qvi j = h') (Qvs j cs (∃ (b : Nat → BP), Qvt h j cs b) h) (Qvp cs j < Qvp cs i) (∀ (k : Nat × AHeap), Qvh k j ∧ (∃ (b : Nat → BP), Qvg h k j cs b) → Qvh k i ∧ (∃ (b : Nat → BP), Qvg h k i cs b)) (∀ (v : Value) (h : AHeap), False → False)))))) (Qv0 x_1 (∃ (x_4 : Int), AHeap.ld (Qvi i) (AHeap.n h) Qva (Qva + Int.toNat x_1 * Qvd + Qva) 1 = some [Qv6 x_4] ∧ bs (decide (x > x_4)) (Qv0 x_1 (∃ (h' : AHeap), AHeap.wr (Qvi i) (AHeap.n h) Qva (Qva + Int.toNat x_1 * Qvd) [Qv6 x, Qv6 x_1, Value.string x_2, Value.slice a_2 n c_1] = some h' ∧ (∃ (j : Nat × Nat × AHeap × Option Addr × Nat), Qve h (Qv6 (ite (x_1 > Qvv i cs) x_1 (Qvv i cs))) (Qvn j cs) a cs c (Qvl cs) (Qut (Qvk i = Qvk j) (Qvr i cs = Qvr j cs) (Qvj (Qvo cs i) = Qvj (Qvo cs j)) (Qv8 (Qvu i) = Qvj (Qvm j)) (Qut (Qvi j = h') (Qvs j cs (∃ (b : Nat → BP), Qvt h j cs b) h) (Qvp cs j < Qvp cs i) (∀ (k : Nat × AHeap), Qvh k j ∧ (∃ (b : Nat → BP), Qvg h k j cs b) → Qvh k i ∧ (∃ (b : Nat → BP), Qvg h k i cs b)) (∀ (v : Value) (h : AHeap), False → False)))))) (∃ (j : Nat × Nat × AHeap × Option Addr × Nat), Qve h (Qv6 (ite (x_1 > Qvv i cs) x_1 (Qvv i cs))) (Qvn j cs) a cs c (Qvl cs) (Qut (Qvk i = Qvk j) (Qvr i cs = Qvr j cs) (Qvj (Qvo cs i) = Qvj (Qvo cs j)) (Qv8 (Qvu i) = Qvj (Qvm j)) (Qut (Qvi j = Qvi i) (Qvs j cs (∃ (b : Nat → BP), Qvt h j cs b) h) (Qvp cs j < Qvp cs i) (∀ (k : Nat × AHeap), Qvh k j ∧ (∃ (b : Nat → BP), Qvg h k j cs b) → Qvh k i ∧ (∃ (b : Nat → BP), Qvg h k i cs b)) (∀ (v : Value) (h : AHeap), False → False))))))))) (∃ (j : Nat × AHeap), Qve h (Qv9 (Qvn i cs)) (Qvf (Prod.fst j + 1) cs) a cs c (Qvl cs) (Quu (Qvk i = Qvj (Prod.fst j)) (Prod.snd j = Qvi i) (Qvh j i) (∃ (b : Nat → BP), Qvg h j i cs b)))) True ((True ∧ True) ∧ Qut True True True True True ∧ True) ∧ True)) (Quu True (Qut True (∀ (i : Nat × OX (Sh.T freshSh) × AHeap × (Nat → BP)), Qv3 (Qv5 i ≤ Qv1 cs) (WB h (Qv2 i) (prfs cs) (Qv4 i)) i (OX.xs (Quw i) = wantN (prfs cs) (Prod.fst i)) → bs (decide (Qv7 i ≤ Qv1 cs)) (Qv0 (Qv7 i) (∃ (x : ByteArray), AHeap.ld (Qux i) (AHeap.n h) Qva (Qva + Int.toNat (Qv7 i) * Qvd + 2) 1 = some [Value.string x] ∧ (∃ (xs : List (List Value)), Quu (rowsV (Qvc i [[Qv6 (Qv7 i), Value.string x]]) (Value.slice (some (Addr.mk (AHeap.n (Qux i)) Qva (some 2))) 1 2) = some xs) (List.all xs (fun (row : List Value) =>
  decide (List.length row = (2 : Nat)) &&
    List.all row fun (v : Value) =>
      match v with
      | Value.agg cells => false
      | Value.tuple cells => false
      | Value.complex k re im => false
      | Value.chan r => false
      | x => true) = true) ((List.length (OX.xs (Quw i)) + List.length xs) * 24 ≤ 140737488355328) (∃ (a : Option Addr) (n c : Nat) (h' : AHeap), AHeap.app (Qvc i [[Qv6 (Qv7 i), Value.string x]]) (Quz i) xs 2 = some (Prod.mk (Value.slice a n c) h') ∧ (∃ (j : Nat × OX (Sh.T freshSh) × AHeap × (Nat → BP)), Qut (Qvb h = Qvb h) (Qv9 (prfs cs) = Qv9 (prfs cs)) (Value.slice a n c = Quz j) (Qv8 (Qv7 i) = Qv6 (Qv7 j)) (Qut (Qux j = h') (Qv3 (Qv5 j ≤ Qv1 cs) (WB h (Qv2 j) (prfs cs) (Qv4 j)) j (OX.xs (Quw j) = wantN (prfs cs) (Prod.fst j))) (Int.toNat (Qv1 cs) - Prod.fst j < Int.toNat (Qv1 cs) - Prod.fst i) (∀ (k : OX (Sh.T freshSh)), (∃ (g : AHeap), Quv h g k (OX.xs k = wantM cs)) → (∃ (g : AHeap), Quv h g k (OX.xs k = wantM cs))) (∀ (v : Value) (h : AHeap), False → False))))))) (∃ (j : OX (Sh.T freshSh)), Quz i = Quy j (OX.xs j) ∧ OX.g j = Qux i ∧ (∃ (g : AHeap), Quv h g j (OX.xs j = wantM cs)))) (True ∧ True ∧ True) True True) True True)) = _) ?_; delta Qut Quu Quv Quw Qux Quy Quz Qv0 Qv1 Qv2 Qv3 Qv4 Qv5 Qv6 Qv7 Qv8 Qv9 Qva Qvb Qvc Qvd Qve Qvf Qvg Qvh Qvi Qvj Qvk Qvl Qvm Qvn Qvo Qvp Qvq Qvr Qvs Qvt Qvu Qvv Qvw Qvx)
    simp only [true_and, and_true]
    have hm := HP.most
    refine ⟨⟨fun ⟨i, g⟩ ⟨hi, b, W⟩ => ?_, fun ⟨i, k, g, a2, c2⟩ ⟨hi, hk, ⟨b, W⟩, s1⟩ => ?_⟩, fun ⟨n, o, g, b⟩ ⟨hn, W, B, hxs⟩ => ?_⟩
    · dsimp only at *
      refine bs_d (fun hlt => ?_) (fun hge => ⟨g, by rw [List.take_of_length_le (by omega)], rfl, b, by rw [List.take_of_length_le (by omega)] at W; exact W⟩)
      obtain ⟨⟨f, v, ps⟩, hat⟩ : ∃ y : Int × Int × List Prf, cs[i]? = some y := ⟨_, List.getElem?_eq_getElem (by omega)⟩
      obtain ⟨l, r, row, ha, _, hrd, hld⟩ := hx.elem hat
      obtain ⟨v1, rfl, s1⟩ := rd_change.1 hrd
      obtain ⟨a2, c2, rfl⟩ := s1.isSlice
      dsimp only at hld s1
      exact ⟨l, r, ha, Int.natCast_nonneg _, hlt, _, _, _, _, _, W.le.ld hld, (i, 0, g, a2, c2), congrArg _ (congrArg _ (List.append_nil _).symm), rfl, by dsimp only; rw [prA_at hat], by dsimp only; rw [prA_at hat], rfl, rfl, ⟨by dsimp only; omega, Nat.zero_le _, ⟨b, by dsimp only; rw [show Append.append (prfs (cs.take i)) (List.take 0 (prA cs i)) = prfs (cs.take i) from List.append_nil _]; exact W⟩, by dsimp only; rw [prA_at hat]; exact s1⟩, fun ⟨j1, gj⟩ ⟨e1, b', W'⟩ => by
        dsimp only at e1 W' ⊢
        subst e1
        exact ⟨(j1 + 1, gj), rfl, by rw [wrap_i64 (by omega)]; rfl, rfl, ⟨by dsimp only; omega, b', W'⟩, by dsimp only; omega, fun _ h => h, fun _ _ h => h⟩, fun _ _ h => h⟩
    · dsimp only at *
      obtain ⟨⟨f, v, ps⟩, hat⟩ : ∃ y : Int × Int × List Prf, cs[i]? = some y := ⟨_, List.getElem?_eq_getElem hi⟩
      have n3 : ps.length ≤ 1000 := n2 _ (List.mem_of_getElem? hat)
      have ea := prA_at hat
      have W : WB h g (prfs (cs.take i) ++ (prA cs i).take k) b := W
      rw [ea] at hk s1 W ⊢
      refine bs_d (fun hlt => ?_) (fun hge => ⟨(i, g), ?_, rfl, rfl, rfl, b, ?_⟩)
      · obtain ⟨⟨pv, pq, po, pb⟩, hak⟩ : ∃ y : Prf, ps[k]? = some y := ⟨_, List.getElem?_eq_getElem (by omega)⟩
        obtain ⟨h0, h1, h6, _⟩ := HP _ (prfs_at hat hak)
        dsimp only at h0 h1 h6
        obtain ⟨q, rfl⟩ : ∃ q : Nat, pq = q := ⟨pq.toNat, by omega⟩
        obtain ⟨l2, r2, row2, ha2, _, hrd2, hld2⟩ := s1.elem hak
        obtain ⟨v2, rfl, s2⟩ := rd_proof.1 hrd2
        obtain ⟨a3, c3, rfl⟩ := s2.isSlice
        dsimp only at hld2
        obtain ⟨L0, L1, _⟩ := br_ld W.ob (q := q) (by omega)
        have mst : Value.int .i64 (if (q : Int) > mostB (prfs (cs.take i) ++ ps.take k) then (q : Int) else mostB (prfs (cs.take i) ++ ps.take k)) = Value.int .i64 (mostB (prfs (cs.take i) ++ ps.take (k + 1))) := by
          rw [snoc_take hak, mostB_snoc]
        have yes : (b q).2.1 = 0 ∨ (b q).1 < pv → WB h (g.put h.n (some ⟨[brow (bset b q (pv, (q : Int), po, a3, pb.length, c3))], 28, true⟩)) (prfs (cs.take i) ++ ps.take (k + 1)) (bset b q (pv, (q : Int), po, a3, pb.length, c3)) := fun hc => by
          refine ⟨W.le.put (hw h.n (Nat.le_refl _)) _, W.wf.put W.n _, W.n, AHeap.get_put_eq, ?_⟩
          rw [snoc_take hak]
          exact W.bi.yes _ (by omega) (by omega) hc
        refine ⟨l2, r2, ha2, Int.natCast_nonneg _, hlt, _, _, _, _, _, _, W.le.ld hld2, by omega, by show (q : Int) < 7; omega, _, L1, bs_d (fun e1 => ?_) (fun e1 => ?_)⟩
        · refine ⟨by omega, by show (q : Int) < 7; omega, _, br_wr W.ob (by omega) (pv, (q : Int), po, a3, pb.length, c3), (i, k + 1, _, a2, c2), ?_, rfl, by dsimp only; rw [ea], by dsimp only; rw [ea], by rw [wrap_i64 (by omega)]; rfl, rfl, ⟨hi, by dsimp only; rw [ea]; omega, ⟨_, by dsimp only; rw [ea]; exact yes (.inl e1)⟩, by dsimp only; rw [ea]; exact s1⟩, by dsimp only; rw [ea]; omega, fun _ h => h, fun _ _ h => h⟩
          dsimp only; rw [ea]; exact mst
        · refine ⟨by omega, by show (q : Int) < 7; omega, _, L0, bs_d (fun e2 => ?_) (fun e2 => ?_)⟩
          · refine ⟨by omega, by show (q : Int) < 7; omega, _, br_wr W.ob (by omega) (pv, (q : Int), po, a3, pb.length, c3), (i, k + 1, _, a2, c2), ?_, rfl, by dsimp only; rw [ea], by dsimp only; rw [ea], by rw [wrap_i64 (by omega)]; rfl, rfl, ⟨hi, by dsimp only; rw [ea]; omega, ⟨_, by dsimp only; rw [ea]; exact yes (.inr e2)⟩, by dsimp only; rw [ea]; exact s1⟩, by dsimp only; rw [ea]; omega, fun _ h => h, fun _ _ h => h⟩
            dsimp only; rw [ea]; exact mst
          · refine ⟨(i, k + 1, g, a2, c2), ?_, rfl, by dsimp only; rw [ea], by dsimp only; rw [ea], by rw [wrap_i64 (by omega)]; rfl, rfl, ⟨hi, by dsimp only; rw [ea]; omega, ⟨b, by dsimp only; rw [ea]; exact ⟨W.le, W.wf, W.n, W.ob, by rw [show Append.append (prfs (cs.take i)) (ps.take (k + 1)) = prfs (cs.take i) ++ ps.take (k + 1) from rfl, snoc_take hak]; exact W.bi.no (by omega) (by omega) e1 e2⟩⟩, by dsimp only; rw [ea]; exact s1⟩, by dsimp only; rw [ea]; omega, fun _ h => h, fun _ _ h => h⟩
            dsimp only; rw [ea]; exact mst
      · rw [prfs_take hat]; exact congrArg (fun z => Value.int .i64 (mostB (_ ++ z))) (List.take_of_length_le (by omega))
      · rw [prfs_take hat]; rw [List.take_of_length_le (l := ps) (by omega)] at W; exact W
    · dsimp only at *
      refine bs_d (fun hle => ?_) (fun hgt => ⟨o, rfl, rfl, g, W.le, B, by rw [hxs]; unfold wantM; rw [show n = (mostB (prfs cs)).toNat by omega]⟩)
      have ol : o.xs.length = n := by rw [hxs, wantN_len]
      have L2 := (br_ld W.ob (q := n + 1) (by omega)).2.2
      obtain ⟨o', e6, B', hx', _, _, _⟩ := B.app (x := ((n : Int) + 1, (b (n + 1)).2.2.1)) freshRn .nil (by simp)
      refine ⟨by omega, by show (n : Int) + 1 < 7; omega, _, B.le.ld L2, _, rowsV_push, rfl, by simp only [List.length_cons, List.length_nil]; omega, _, _, _, o'.g, e6, (n + 1, o', g, b), rfl, by rw [wrap_i64 (by omega)]; rfl, rfl, ⟨by dsimp only; omega, W, B', ?_⟩, by dsimp only; omega, fun _ h => h, fun _ _ h => h⟩
      dsimp only
      rw [hx', hxs, wantN, W.bi.op (by omega) (by omega)]
      rfl
  (refine vc_mp (by kernel_rfl : (∃ (i : Nat × AHeap), Qve h (Qv6 0) (Qvw i cs) a cs c (Qvl cs) (Qut (Qv6 0 = Qvj (Prod.fst i)) (Prod.snd i = AHeap.push h (AObj.mk [[Qw0, Qw0, Qvz, Qvy, Qw0, Qw0, Qvz, Qvy, Qw0, Qw0, Qvz, Qvy, Qw0, Qw0, Qvz, Qvy, Qw0, Qw0, Qvz, Qvy, Qw0, Qw0, Qvz, Qvy, Qw0, Qw0, Qvz, Qvy]] 28 true)) (Prod.fst i ≤ List.length cs ∧ (∃ (b : Nat → BP), WB h (Prod.snd i) (Qvw i cs) b)) (∀ (j : AHeap), (∃ (b : Nat → BP), WB h j (prfs cs) b) → (∃ (i : Nat × OX (Sh.T freshSh) × AHeap × (Nat → BP)), Qut (Qvb h = Qvb h) (Qv9 (prfs cs) = Qv9 (prfs cs)) (Qvy = Quz i) (Qv6 1 = Qv6 (Qv7 i)) (Quu (Qux i = j) (Qv3 (Qv5 i ≤ Qv1 cs) (WB h (Qv2 i) (prfs cs) (Qv4 i)) i (OX.xs (Quw i) = wantN (prfs cs) (Prod.fst i))) (∀ (j : OX (Sh.T freshSh)), (∃ (g : AHeap), Quv h g j (OX.xs j = wantM cs)) → Q (Quy j (OX.xs j)) (OX.g j)) (∀ (v : Value) (h : AHeap), False → Q v h)))) (∀ (v : Value) (h : AHeap), False → Q v h))) = _) ?_; delta Qut Quu Quv Quw Qux Quy Quz Qv1 Qv2 Qv3 Qv4 Qv5 Qv6 Qv7 Qv9 Qva Qvb Qve Qvf Qvj Qvl Qvw Qvy Qvz Qw0)
  have z : BP := (0, 0, ⟨#[]⟩, none, 0, 0)
  have wp := hw.push ⟨[brow fun _ => (0, 0, ⟨#[]⟩, none, 0, 0)], 28, true⟩
  have W0 : WB h (h.push ⟨[brow fun _ => (0, 0, ⟨#[]⟩, none, 0, 0)], 28, true⟩) [] (fun _ => (0, 0, ⟨#[]⟩, none, 0, 0)) := ⟨.push hw _, wp, Nat.lt_succ_self _, AHeap.get_push_eq, fun q _ _ => .inl ⟨rfl, rfl, rfl⟩⟩
  exact ⟨((0 : Nat), _), rfl, rfl, rfl, rfl, rfl, rfl, ⟨Nat.zero_le _, _, W0⟩, fun g ⟨b, W⟩ => ⟨(0, ⟨none, 0, [], [], g⟩, g, b), rfl, rfl, rfl, rfl, rfl, ⟨HP.most.1, W, OXok.nil W.wf, rfl⟩, fun o ⟨g, le, B, e⟩ => HQ _ _ ⟨g, o, rfl, rfl, le, B, e⟩, fun _ _ h => h.elim⟩, fun _ _ h => h.elim⟩
end Go.Proofs.YtpgfjadjhliohaaGreat
