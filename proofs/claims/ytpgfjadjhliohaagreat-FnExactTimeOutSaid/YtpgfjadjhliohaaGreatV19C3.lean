/- A29, G0, C1, C2, C3. -/
import Derived.Test.YtpgfjadjhliohaaGreatV19A28
import Derived.Test.YtpgfjadjhliohaaGreatProg
import Derived.KernelRfl
section
namespace Go.Dat
open Go.Abs
@[reducible] def proofSh : Sh := .pair .int (.pair .int (.pair .str (.sl Sh.int)))
@[reducible] def changeSh : Sh := .pair .int (.pair .int (.sl proofSh))
@[reducible] def saySh : Sh := .pair .int (.pair .int (.pair .int (.pair .int (.pair .str (.sl changeSh)))))
@[reducible] def voteSh : Sh := .pair .int (.pair .int (.pair .int (.pair .str .int)))
@[reducible] def freshSh : Sh := .pair .int .str
@[reducible] def replicaSh : Sh := .pair .int (.pair .int (.pair .bool (.pair .int (.pair (.sl voteSh) (.pair (.sl changeSh) (.pair saySh (.sl Sh.str)))))))
@[reducible] def replicaOutSh : Sh := .pair replicaSh (.pair (.sl saySh) .int)
theorem rd_proof {h : AHeap} {x : proofSh.T} {cs : List Value} : proofSh.rd h x cs ↔ ∃ v1, cs = [.int .i64 x.1, .int .i64 x.2.1, .string x.2.2.1, v1] ∧ Sl h Sh.int x.2.2.2 v1 := by
  constructor
  · rintro ⟨_, _, rfl, rfl, _, _, rfl, rfl, _, _, rfl, rfl, q1⟩
    obtain ⟨v1, rfl, k1⟩ := rd_sl.1 q1
    exact ⟨v1, rfl, k1⟩
  · rintro ⟨v1, rfl, k1⟩
    exact ⟨[_], _, rfl, rfl, [_], _, rfl, rfl, [_], _, rfl, rfl, rd_sl.2 ⟨_, rfl, k1⟩⟩
theorem ro_proof {h : AHeap} {x : proofSh.T} {cs : List Value} {ids : List Nat} : proofSh.ro h x cs ids ↔ ∃ v1 j1, cs = [.int .i64 x.1, .int .i64 x.2.1, .string x.2.2.1, v1] ∧ ids = [] ++ ([] ++ ([] ++ (j1))) ∧ So h Sh.int x.2.2.2 v1 j1 := by
  constructor
  · rintro ⟨_, _, _, _, rfl, rfl, ⟨rfl, rfl⟩, _, _, _, _, rfl, rfl, ⟨rfl, rfl⟩, _, _, _, _, rfl, rfl, ⟨rfl, rfl⟩, q1⟩
    obtain ⟨v1, rfl, k1⟩ := ro_sl.1 q1
    exact ⟨v1, _, rfl, rfl, k1⟩
  · rintro ⟨v1, j1, rfl, rfl, k1⟩
    exact ⟨[_], _, [], _, rfl, rfl, ⟨rfl, rfl⟩, [_], _, [], _, rfl, rfl, ⟨rfl, rfl⟩, [_], _, [], _, rfl, rfl, ⟨rfl, rfl⟩, ro_sl.2 ⟨_, rfl, k1⟩⟩
theorem rd_change {h : AHeap} {x : changeSh.T} {cs : List Value} : changeSh.rd h x cs ↔ ∃ v1, cs = [.int .i64 x.1, .int .i64 x.2.1, v1] ∧ Sl h proofSh x.2.2 v1 := by
  constructor
  · rintro ⟨_, _, rfl, rfl, _, _, rfl, rfl, q1⟩
    obtain ⟨v1, rfl, k1⟩ := rd_sl.1 q1
    exact ⟨v1, rfl, k1⟩
  · rintro ⟨v1, rfl, k1⟩
    exact ⟨[_], _, rfl, rfl, [_], _, rfl, rfl, rd_sl.2 ⟨_, rfl, k1⟩⟩
theorem ro_change {h : AHeap} {x : changeSh.T} {cs : List Value} {ids : List Nat} : changeSh.ro h x cs ids ↔ ∃ v1 j1, cs = [.int .i64 x.1, .int .i64 x.2.1, v1] ∧ ids = [] ++ ([] ++ (j1)) ∧ So h proofSh x.2.2 v1 j1 := by
  constructor
  · rintro ⟨_, _, _, _, rfl, rfl, ⟨rfl, rfl⟩, _, _, _, _, rfl, rfl, ⟨rfl, rfl⟩, q1⟩
    obtain ⟨v1, rfl, k1⟩ := ro_sl.1 q1
    exact ⟨v1, _, rfl, rfl, k1⟩
  · rintro ⟨v1, j1, rfl, rfl, k1⟩
    exact ⟨[_], _, [], _, rfl, rfl, ⟨rfl, rfl⟩, [_], _, [], _, rfl, rfl, ⟨rfl, rfl⟩, ro_sl.2 ⟨_, rfl, k1⟩⟩
theorem rd_say {h : AHeap} {x : saySh.T} {cs : List Value} : saySh.rd h x cs ↔ ∃ v1, cs = [.int .i64 x.1, .int .i64 x.2.1, .int .i64 x.2.2.1, .int .i64 x.2.2.2.1, .string x.2.2.2.2.1, v1] ∧ Sl h changeSh x.2.2.2.2.2 v1 := by
  constructor
  · rintro ⟨_, _, rfl, rfl, _, _, rfl, rfl, _, _, rfl, rfl, _, _, rfl, rfl, _, _, rfl, rfl, q1⟩
    obtain ⟨v1, rfl, k1⟩ := rd_sl.1 q1
    exact ⟨v1, rfl, k1⟩
  · rintro ⟨v1, rfl, k1⟩
    exact ⟨[_], _, rfl, rfl, [_], _, rfl, rfl, [_], _, rfl, rfl, [_], _, rfl, rfl, [_], _, rfl, rfl, rd_sl.2 ⟨_, rfl, k1⟩⟩
theorem ro_say {h : AHeap} {x : saySh.T} {cs : List Value} {ids : List Nat} : saySh.ro h x cs ids ↔ ∃ v1 j1, cs = [.int .i64 x.1, .int .i64 x.2.1, .int .i64 x.2.2.1, .int .i64 x.2.2.2.1, .string x.2.2.2.2.1, v1] ∧ ids = [] ++ ([] ++ ([] ++ ([] ++ ([] ++ (j1))))) ∧ So h changeSh x.2.2.2.2.2 v1 j1 := by
  constructor
  · rintro ⟨_, _, _, _, rfl, rfl, ⟨rfl, rfl⟩, _, _, _, _, rfl, rfl, ⟨rfl, rfl⟩, _, _, _, _, rfl, rfl, ⟨rfl, rfl⟩, _, _, _, _, rfl, rfl, ⟨rfl, rfl⟩, _, _, _, _, rfl, rfl, ⟨rfl, rfl⟩, q1⟩
    obtain ⟨v1, rfl, k1⟩ := ro_sl.1 q1
    exact ⟨v1, _, rfl, rfl, k1⟩
  · rintro ⟨v1, j1, rfl, rfl, k1⟩
    exact ⟨[_], _, [], _, rfl, rfl, ⟨rfl, rfl⟩, [_], _, [], _, rfl, rfl, ⟨rfl, rfl⟩, [_], _, [], _, rfl, rfl, ⟨rfl, rfl⟩, [_], _, [], _, rfl, rfl, ⟨rfl, rfl⟩, [_], _, [], _, rfl, rfl, ⟨rfl, rfl⟩, ro_sl.2 ⟨_, rfl, k1⟩⟩
theorem rd_vote {h : AHeap} {x : voteSh.T} {cs : List Value} : voteSh.rd h x cs ↔ cs = [.int .i64 x.1, .int .i64 x.2.1, .int .i64 x.2.2.1, .string x.2.2.2.1, .int .i64 x.2.2.2.2] := by
  constructor
  · rintro ⟨_, _, rfl, rfl, _, _, rfl, rfl, _, _, rfl, rfl, _, _, rfl, rfl, rfl⟩
    exact rfl
  · rintro rfl
    exact ⟨[_], _, rfl, rfl, [_], _, rfl, rfl, [_], _, rfl, rfl, [_], _, rfl, rfl, rfl⟩
theorem ro_vote {h : AHeap} {x : voteSh.T} {cs : List Value} {ids : List Nat} : voteSh.ro h x cs ids ↔ cs = [.int .i64 x.1, .int .i64 x.2.1, .int .i64 x.2.2.1, .string x.2.2.2.1, .int .i64 x.2.2.2.2] ∧ ids = [] ++ ([] ++ ([] ++ ([] ++ ([])))) := by
  constructor
  · rintro ⟨_, _, _, _, rfl, rfl, ⟨rfl, rfl⟩, _, _, _, _, rfl, rfl, ⟨rfl, rfl⟩, _, _, _, _, rfl, rfl, ⟨rfl, rfl⟩, _, _, _, _, rfl, rfl, ⟨rfl, rfl⟩, rfl, rfl⟩
    exact ⟨rfl, rfl⟩
  · rintro ⟨rfl, rfl⟩
    exact ⟨[_], _, [], _, rfl, rfl, ⟨rfl, rfl⟩, [_], _, [], _, rfl, rfl, ⟨rfl, rfl⟩, [_], _, [], _, rfl, rfl, ⟨rfl, rfl⟩, [_], _, [], _, rfl, rfl, ⟨rfl, rfl⟩, rfl, rfl⟩
theorem rd_fresh {h : AHeap} {x : freshSh.T} {cs : List Value} : freshSh.rd h x cs ↔ cs = [.int .i64 x.1, .string x.2] := by
  constructor
  · rintro ⟨_, _, rfl, rfl, rfl⟩
    exact rfl
  · rintro rfl
    exact ⟨[_], _, rfl, rfl, rfl⟩
theorem rd_replica {h : AHeap} {x : replicaSh.T} {cs : List Value} : replicaSh.rd h x cs ↔ ∃ v1 v2 v3 v4, cs = [.int .i64 x.1, .int .i64 x.2.1, .bool x.2.2.1, .int .i64 x.2.2.2.1, v1, v2, .int .i64 x.2.2.2.2.2.2.1.1, .int .i64 x.2.2.2.2.2.2.1.2.1, .int .i64 x.2.2.2.2.2.2.1.2.2.1, .int .i64 x.2.2.2.2.2.2.1.2.2.2.1, .string x.2.2.2.2.2.2.1.2.2.2.2.1, v3, v4] ∧ Sl h voteSh x.2.2.2.2.1 v1 ∧ Sl h changeSh x.2.2.2.2.2.1 v2 ∧ Sl h changeSh x.2.2.2.2.2.2.1.2.2.2.2.2 v3 ∧ Sl h Sh.str x.2.2.2.2.2.2.2 v4 := by
  constructor
  · rintro ⟨_, _, rfl, rfl, _, _, rfl, rfl, _, _, rfl, rfl, _, _, rfl, rfl, _, _, rfl, q1, _, _, rfl, q2, _, _, rfl, q3, q4⟩
    obtain ⟨v1, rfl, k1⟩ := rd_sl.1 q1
    obtain ⟨v2, rfl, k2⟩ := rd_sl.1 q2
    obtain ⟨w3_0, rfl, j3_0⟩ := rd_say.1 q3
    obtain ⟨v4, rfl, k4⟩ := rd_sl.1 q4
    exact ⟨v1, v2, w3_0, v4, rfl, k1, k2, j3_0, k4⟩
  · rintro ⟨v1, v2, v3, v4, rfl, k1, k2, k3, k4⟩
    exact ⟨[_], _, rfl, rfl, [_], _, rfl, rfl, [_], _, rfl, rfl, [_], _, rfl, rfl, [_], _, rfl, rd_sl.2 ⟨_, rfl, k1⟩, [_], _, rfl, rd_sl.2 ⟨_, rfl, k2⟩, [_, _, _, _, _, _], _, rfl, rd_say.2 ⟨_, rfl, k3⟩, rd_sl.2 ⟨_, rfl, k4⟩⟩
theorem ro_replica {h : AHeap} {x : replicaSh.T} {cs : List Value} {ids : List Nat} : replicaSh.ro h x cs ids ↔ ∃ v1 v2 v3 v4 j1 j2 j3 j4, cs = [.int .i64 x.1, .int .i64 x.2.1, .bool x.2.2.1, .int .i64 x.2.2.2.1, v1, v2, .int .i64 x.2.2.2.2.2.2.1.1, .int .i64 x.2.2.2.2.2.2.1.2.1, .int .i64 x.2.2.2.2.2.2.1.2.2.1, .int .i64 x.2.2.2.2.2.2.1.2.2.2.1, .string x.2.2.2.2.2.2.1.2.2.2.2.1, v3, v4] ∧ ids = [] ++ ([] ++ ([] ++ ([] ++ (j1 ++ (j2 ++ (([] ++ ([] ++ ([] ++ ([] ++ ([] ++ (j3)))))) ++ (j4))))))) ∧ So h voteSh x.2.2.2.2.1 v1 j1 ∧ So h changeSh x.2.2.2.2.2.1 v2 j2 ∧ So h changeSh x.2.2.2.2.2.2.1.2.2.2.2.2 v3 j3 ∧ So h Sh.str x.2.2.2.2.2.2.2 v4 j4 := by
  constructor
  · rintro ⟨_, _, _, _, rfl, rfl, ⟨rfl, rfl⟩, _, _, _, _, rfl, rfl, ⟨rfl, rfl⟩, _, _, _, _, rfl, rfl, ⟨rfl, rfl⟩, _, _, _, _, rfl, rfl, ⟨rfl, rfl⟩, _, _, _, _, rfl, rfl, q1, _, _, _, _, rfl, rfl, q2, _, _, _, _, rfl, rfl, q3, q4⟩
    obtain ⟨v1, rfl, k1⟩ := ro_sl.1 q1
    obtain ⟨v2, rfl, k2⟩ := ro_sl.1 q2
    obtain ⟨w3_0, i3_0, rfl, rfl, k3_0⟩ := ro_say.1 q3
    obtain ⟨v4, rfl, k4⟩ := ro_sl.1 q4
    exact ⟨v1, v2, w3_0, v4, _, _, _, _, rfl, rfl, k1, k2, k3_0, k4⟩
  · rintro ⟨v1, v2, v3, v4, j1, j2, j3, j4, rfl, rfl, k1, k2, k3, k4⟩
    exact ⟨[_], _, [], _, rfl, rfl, ⟨rfl, rfl⟩, [_], _, [], _, rfl, rfl, ⟨rfl, rfl⟩, [_], _, [], _, rfl, rfl, ⟨rfl, rfl⟩, [_], _, [], _, rfl, rfl, ⟨rfl, rfl⟩, [_], _, j1, _, rfl, rfl, ro_sl.2 ⟨_, rfl, k1⟩, [_], _, j2, _, rfl, rfl, ro_sl.2 ⟨_, rfl, k2⟩, [_, _, _, _, _, _], _, _, _, rfl, rfl, ro_say.2 ⟨_, j3, rfl, rfl, k3⟩, ro_sl.2 ⟨_, rfl, k4⟩⟩
theorem rd_replicaOut {h : AHeap} {x : replicaOutSh.T} {cs : List Value} : replicaOutSh.rd h x cs ↔ ∃ v1 v2 v3 v4 v5, cs = [.int .i64 x.1.1, .int .i64 x.1.2.1, .bool x.1.2.2.1, .int .i64 x.1.2.2.2.1, v1, v2, .int .i64 x.1.2.2.2.2.2.2.1.1, .int .i64 x.1.2.2.2.2.2.2.1.2.1, .int .i64 x.1.2.2.2.2.2.2.1.2.2.1, .int .i64 x.1.2.2.2.2.2.2.1.2.2.2.1, .string x.1.2.2.2.2.2.2.1.2.2.2.2.1, v3, v4, v5, .int .i64 x.2.2] ∧ Sl h voteSh x.1.2.2.2.2.1 v1 ∧ Sl h changeSh x.1.2.2.2.2.2.1 v2 ∧ Sl h changeSh x.1.2.2.2.2.2.2.1.2.2.2.2.2 v3 ∧ Sl h Sh.str x.1.2.2.2.2.2.2.2 v4 ∧ Sl h saySh x.2.1 v5 := by
  constructor
  · rintro ⟨_, _, rfl, q1, _, _, rfl, q2, rfl⟩
    obtain ⟨w1_0, w1_1, w1_2, w1_3, rfl, j1_0, j1_1, j1_2, j1_3⟩ := rd_replica.1 q1
    obtain ⟨v2, rfl, k2⟩ := rd_sl.1 q2
    exact ⟨w1_0, w1_1, w1_2, w1_3, v2, rfl, j1_0, j1_1, j1_2, j1_3, k2⟩
  · rintro ⟨v1, v2, v3, v4, v5, rfl, k1, k2, k3, k4, k5⟩
    exact ⟨[_, _, _, _, _, _, _, _, _, _, _, _, _], _, rfl, rd_replica.2 ⟨_, _, _, _, rfl, k1, k2, k3, k4⟩, [_], _, rfl, rd_sl.2 ⟨_, rfl, k5⟩, rfl⟩
theorem szL_int (xs : List Sh.int.T) (l : Int) (h : 0 ≤ l) : szL Sh.int.sz xs l = l := by
  induction xs with
  | nil => rfl
  | cons x xs ih =>
    show (if l < 0 then -1 else szL Sh.int.sz xs l) = l
    rw [if_neg (by omega)]; exact ih
end Go.Dat
end
section
namespace Go.Proofs.YtpgfjadjhliohaaGreat
open Go.Abs
theorem mixed : Tryz.prog.follows .mixedOrders = true := by kernel_rfl
end Go.Proofs.YtpgfjadjhliohaaGreat
end
section
namespace Go.Dat
def digB (k : Nat) : ByteArray := ⟨#[UInt8.ofNat (48 + k % 10)]⟩
def mtl (k : Nat) (out : ByteArray) : ByteArray := if k = 0 then out else mtl (k / 10) (digB k ++ out)
termination_by k
decreasing_by omega
def mtext (k : Int) : ByteArray := if k ≤ 0 then ⟨#[109, 48]⟩ else ⟨#[109]⟩ ++ mtl k.toNat ⟨#[]⟩
end Go.Dat
namespace Go.Proofs.YtpgfjadjhliohaaGreat
open Go.Abs Go.Dat
set_option maxRecDepth 100000
def mtL (k0 : Int) : LSpec where
  ι := Int × ByteArray × AHeap
  κ := ByteArray × AHeap
  I := fun i => 0 ≤ i.1 ∧ i.2.2.wf ∧ (i.2.1.size : Int) + i.1 ≤ k0
  μ := fun i => i.1.toNat
  head := fun i => ⟨[(0, .int .i64 i.1), (3, .string i.2.1)], [], i.2.2⟩
  post := fun j => ⟨[(3, .string j.1)], [], j.2⟩
  R := fun i j => j.1 = mtl i.1.toNat i.2.1 ∧ i.2.2.Le j.2 ∧ j.2.wf ∧ (j.1.size : Int) ≤ k0
  ret := fun _ _ _ => False
theorem digB_rows (k : Int) (hk : 0 ≤ k ∧ k ≤ 9223372036854775807) : [[Value.int .u8 (IntKind.wrap .u8 (IntKind.wrap .i64 (48 + Int.tmod k 10)))]] = bytesRows (digB k.toNat) := by
  have e : Int.tmod k 10 = k % 10 := Int.tmod_eq_emod_of_nonneg hk.1
  rw [e, wrap_i64 (by omega)]
  have e2 : IntKind.wrap .u8 (48 + k % 10) = 48 + k % 10 := by
    rw [wrap_u8]; omega
  rw [e2]
  unfold bytesRows digB
  simp only [List.map_cons, List.map_nil]
  congr 3
  rw [UInt8.toNat_ofNat']
  omega
abbrev Qe := ByteArray × AHeap
abbrev Qf := Int × ByteArray × AHeap
def Q0 (a : AHeap) (b : Prop) := AHeap.wf a ∧ b
def Q1 (a : Qe) (b : Prop) := Q0 (Prod.snd a) b
def Q2 (a : Qe) := ByteArray.size (Prod.fst a)
def Q3 (a : Qe) := (↑(Q2 a) : Int)
def Q4 (a : Qf) := Prod.snd (Prod.snd a)
def Q5 (a : Qf) (b : Qe) := AHeap.Le (Q4 a) (Prod.snd b)
def Q6 (a : Qf) := Prod.fst (Prod.snd a)
def Q7 (a : Qf) := mtl (Int.toNat (Prod.fst a)) (Q6 a)
def Q8 := (0 : Int)
def Q9 (a : Qf) (b : List (List Value)) := AHeap.push (Q4 a) (AObj.mk b 1 true)
def Qa (a : Int) := Value.int IntKind.u8 (IntKind.wrap IntKind.u8 (IntKind.wrap IntKind.i64 a))
def Qb (a : Int) := Value.int IntKind.i64 a
def Qc (a : List UInt8) := ByteArray.mk (Array.mk a)
theorem mt_spec (k : Int) (h : AHeap) (hw : h.wf) (hk : k ≤ 1000000000000000000)  : PCall Tryz.prog 47 [.int .i64 k] h fun v _ => v = .string (mtext k) := by
  refine acall_by (fun _ => true) (fun _ => []) (fun _ => mtL k) mixed Tryz.func47 rfl rfl rfl (Nat.le_of_ble_eq_true rfl) ?_ ?_
  · (refine Eq.mp (by kernel_rfl : (True ∧ (True ∧ (True ∧ True) ∧ True) ∧ True ∧ ((∀ (i : Int × ByteArray × AHeap), Q8 ≤ Prod.fst i ∧ Q0 (Q4 i) (Q3 (Prod.snd i) + Prod.fst i ≤ k) → bs (decide (Prod.fst i > Q8)) (10 ≠ Q8 ∧ (∃ (s : ByteArray), AHeap.rowsOf (Q9 i [[Qa (48 + Int.tmod (Prod.fst i) 10)]]) (Value.slice (some (Addr.mk (AHeap.n (Q4 i)) 0 (some 1))) 1 2) = some (bytesRows s) ∧ ByteArray.size s + Q2 (Prod.snd i) ≤ 9223372036854775807 ∧ 10 ≠ Q8 ∧ (∃ (j : Int × ByteArray × AHeap), Qb (IntKind.wrap IntKind.i64 (Int.tdiv (Prod.fst i) 10)) = Qb (Prod.fst j) ∧ Value.string (Append.append s (Q6 i)) = Value.string (Q6 j) ∧ Q4 j = Q9 i [[Qa (48 + Int.tmod (Prod.fst i) 10)]] ∧ (Q8 ≤ Prod.fst j ∧ Q0 (Q4 j) (Q3 (Prod.snd j) + Prod.fst j ≤ k)) ∧ Int.toNat (Prod.fst j) < Int.toNat (Prod.fst i) ∧ (∀ (k_1 : ByteArray × AHeap), Prod.fst k_1 = Q7 j ∧ Q5 j k_1 ∧ Q1 k_1 (Q3 k_1 ≤ k) → Prod.fst k_1 = Q7 i ∧ Q5 i k_1 ∧ Q1 k_1 (Q3 k_1 ≤ k)) ∧ (∀ (v : Value) (h : AHeap), False → False)))) (∃ (j : ByteArray × AHeap), Value.string (Q6 i) = Value.string (Prod.fst j) ∧ Prod.snd j = Q4 i ∧ Prod.fst j = Q7 i ∧ Q5 i j ∧ Q1 j (Q3 j ≤ k))) ∧ (True ∧ True ∧ True) ∧ True ∧ True) ∧ True ∧ True) = _) ?_; delta Q0 Q1 Q2 Q3 Q4 Q5 Q6 Q7 Q8 Q9 Qa Qb)
    simp only [true_and, and_true]
    rintro ⟨i, out, h1⟩ ⟨h0, hw1, hs⟩
    dsimp only at *
    refine bs_dec (fun hp => ?_) (fun hp => ?_)
    · rw [digB_rows i (by omega)]
      have e1 : Int.tdiv i 10 = i / 10 := Int.tdiv_eq_ediv_of_nonneg h0
      have e2 : (digB i.toNat).size = 1 := rfl
      refine ⟨by omega, digB i.toNat, ?_, by rw [e2]; omega, by omega, (i / 10, digB i.toNat ++ out, h1.push ⟨bytesRows (digB i.toNat), 1, true⟩), by rw [e1, wrap_i64 (by omega)], rfl, rfl, ⟨by dsimp only; omega, hw1.push _, ?_⟩, by dsimp only; omega, ?_, fun _ _ h => h⟩
      · unfold AHeap.rowsOf
        dsimp only
        rw [AHeap.get_push_eq]
        rfl
      · dsimp only; rw [ByteArray.size_append, e2]; omega
      · rintro ⟨o2, h2⟩ ⟨a, b, c, d⟩
        dsimp only at *
        refine ⟨?_, (AHeap.Le.push hw1 _).trans b, c, d⟩
        rw [mtl, if_neg (by omega), a]
        congr 1
        omega
    · refine ⟨(out, h1), rfl, rfl, ?_, .refl _, hw1, by dsimp only; omega⟩
      rw [mtl, if_pos (by omega)]
  · (refine Eq.mp (by kernel_rfl : (bs (decide (k ≤ Q8)) (AHeap.Le h h ∧ Q0 h (Value.string (Qc [109, 48]) = Value.string (mtext k))) (∃ (i : Int × ByteArray × AHeap), Qb k = Qb (Prod.fst i) ∧ Value.string (Qc List.nil) = Value.string (Q6 i) ∧ Q4 i = h ∧ (Q8 ≤ Prod.fst i ∧ Q0 (Q4 i) (Q3 (Prod.snd i) + Prod.fst i ≤ k)) ∧ (∀ (j : ByteArray × AHeap), Prod.fst j = Q7 i ∧ Q5 i j ∧ Q1 j (Q3 j ≤ k) → ByteArray.size (Qc [109]) + Q2 j ≤ 9223372036854775807 ∧ AHeap.Le h (Prod.snd j) ∧ Q1 j (Value.string (Append.append (Qc [109]) (Prod.fst j)) = Value.string (mtext k))) ∧ (∀ (v : Value) (h_1 : AHeap), False → AHeap.Le h h_1 ∧ Q0 h_1 (v = Value.string (mtext k))))) = _) ?_; delta Q0 Q1 Q2 Q3 Q4 Q5 Q6 Q7 Q8 Qb Qc)
    refine bs_dec (fun hp => ?_) (fun hp => ?_)
    · exact ⟨.refl _, hw, by unfold mtext; rw [if_pos hp]⟩
    · refine ⟨(k, ⟨#[]⟩, h), rfl, rfl, rfl, ⟨by dsimp only; omega, hw, ?_⟩, ?_, fun _ _ h => h.elim⟩
      · show ((0 : Nat) : Int) + k ≤ k; omega
      · rintro ⟨o, h2⟩ ⟨a, b, c, d⟩
        dsimp only at *
        refine ⟨?_, b, c, ?_⟩
        · show 1 + o.size ≤ _; omega
        · unfold mtext; rw [if_neg hp, a]; rfl
end Go.Proofs.YtpgfjadjhliohaaGreat
end
section
namespace Go.Dat
open Go.Abs
end Go.Dat
namespace Go.Proofs.YtpgfjadjhliohaaGreat
open Go.Abs Go.Dat
set_option maxRecDepth 100000
end Go.Proofs.YtpgfjadjhliohaaGreat
end
section
namespace Go.Proofs.YtpgfjadjhliohaaGreat
open Go.Abs Go.Dat
set_option maxRecDepth 100000
def Qd (a b c : Bool) := Value.bool a = Value.bool (b && c)
theorem within_spec (n lo hi : Int) (h : AHeap) : ACall Tryz.prog 88 [.int .i64 n, .int .i64 lo, .int .i64 hi] h (.bool (decide (lo ≤ n) && decide (n ≤ hi))) h := by
  refine acall_out (acall_by (fun _ => true) (fun _ => []) (fun _ => .none) mixed Tryz.func88 rfl rfl rfl (Nat.le_of_ble_eq_true rfl) ⟨trivial, trivial, trivial⟩ ?_)
  (refine Eq.mp (by kernel_rfl : (bs (decide (n ≥ lo)) (Qd (decide (n ≤ hi)) (decide (lo ≤ n)) (decide (n ≤ hi)) ∧ h = h) (Qd false (decide (lo ≤ n)) (decide (n ≤ hi)) ∧ h = h)) = _) ?_; delta Qd)
  refine bs_dec (fun e => ?_) (fun e => ?_)
  · simp only [ge_iff_le] at e; simp [e]
  · simp only [ge_iff_le] at e; simp [e]
theorem l03Is_spec (n lo hi : Int) (h : AHeap) : ACall Tryz.prog 78 [.int .i64 n, .int .i64 lo, .int .i64 hi] h (.bool (decide (lo ≤ n) && decide (n ≤ hi))) h := by
  refine acall_out (acall_by (fun _ => true) (fun _ => []) (fun _ => .none) mixed Tryz.func78 rfl rfl rfl (Nat.le_of_ble_eq_true rfl) ⟨trivial, trivial, trivial⟩ ?_)
  (refine Eq.mp (by kernel_rfl : (bs (decide (n ≥ lo)) (Qd (decide (n ≤ hi)) (decide (lo ≤ n)) (decide (n ≤ hi)) ∧ h = h) (Qd false (decide (lo ≤ n)) (decide (n ≤ hi)) ∧ h = h)) = _) ?_; delta Qd)
  refine bs_dec (fun e => ?_) (fun e => ?_)
  · simp only [ge_iff_le] at e; simp [e]
  · simp only [ge_iff_le] at e; simp [e]
theorem isReplica_spec (n : Int) (h : AHeap) : ACall Tryz.prog 86 [.int .i64 n] h (.bool (decide (0 ≤ n) && decide (n ≤ 3))) h := by
  refine acall_out (acall_by (fun _ => true) (fun _ => []) (fun _ => .none) mixed Tryz.func86 rfl rfl rfl (Nat.le_of_ble_eq_true rfl) ⟨trivial, trivial, trivial⟩ ?_)
  (refine Eq.mp (by kernel_rfl : (∃ (x : Bool) (h' : AHeap), ACall Tryz.prog 88 [Qb n, Qb Q8, Qb 3] h (Value.bool x) h' ∧ Qd x (decide (Q8 ≤ n)) (decide (n ≤ 3)) ∧ h' = h) = _) ?_; delta Q8 Qb Qd)
  exact ⟨_, _, within_spec n 0 3 h, rfl, rfl⟩
theorem l09Who_spec (n : Int) (h : AHeap) : ACall Tryz.prog 76 [.int .i64 n] h (.bool (decide (0 ≤ n) && decide (n ≤ 3))) h := by
  refine acall_out (acall_by (fun _ => true) (fun _ => []) (fun _ => .none) mixed Tryz.func76 rfl rfl rfl (Nat.le_of_ble_eq_true rfl) ⟨trivial, trivial, trivial⟩ ?_)
  (refine Eq.mp (by kernel_rfl : (∃ (x : Bool) (h' : AHeap), ACall Tryz.prog 78 [Qb n, Qb Q8, Qb 3] h (Value.bool x) h' ∧ Qd x (decide (Q8 ≤ n)) (decide (n ≤ 3)) ∧ h' = h) = _) ?_; delta Q8 Qb Qd)
  trace_state
  exact ⟨_, _, l03Is_spec n 0 3 h, rfl, rfl⟩
end Go.Proofs.YtpgfjadjhliohaaGreat
end
