/- Data types of the program: their shapes, and what reads as them. Written by gen.py. -/
import Derived.Test.YtanienlcebkijaaV10A28
namespace Go.Dat
open Go.Abs
@[reducible] def groupSh : Sh := .pair .str .int
@[reducible] def topicSh : Sh := .pair .str (.pair .int (.pair (.sl Sh.str) (.sl groupSh)))
@[reducible] def replySh : Sh := .pair .int (.pair .int .str)
@[reducible] def proofSh : Sh := .pair .int (.pair .int (.pair .str (.sl Sh.int)))
@[reducible] def changeSh : Sh := .pair .int (.pair .int (.sl proofSh))
@[reducible] def saySh : Sh := .pair .int (.pair .int (.pair .int (.pair .int (.pair .str (.sl changeSh)))))
@[reducible] def voteSh : Sh := .pair .int (.pair .int (.pair .int (.pair .str .int)))
@[reducible] def replicaSh : Sh := .pair .int (.pair .int (.pair .bool (.pair .int (.pair (.sl voteSh) (.pair (.sl changeSh) (.pair saySh (.sl Sh.str)))))))
theorem rd_proof {h : AHeap} {x : proofSh.T} {cs : List Value} : proofSh.rd h x cs ↔ ∃ v1, cs = [.int .i64 x.1, .int .i64 x.2.1, .string x.2.2.1, v1] ∧ Sl h Sh.int x.2.2.2 v1 := by
  constructor
  · rintro ⟨_, _, rfl, rfl, _, _, rfl, rfl, _, _, rfl, rfl, q1⟩
    obtain ⟨v1, rfl, k1⟩ := rd_sl.1 q1
    exact ⟨v1, rfl, k1⟩
  · rintro ⟨v1, rfl, k1⟩
    exact ⟨[_], _, rfl, rfl, [_], _, rfl, rfl, [_], _, rfl, rfl, rd_sl.2 ⟨_, rfl, k1⟩⟩
theorem rd_change {h : AHeap} {x : changeSh.T} {cs : List Value} : changeSh.rd h x cs ↔ ∃ v1, cs = [.int .i64 x.1, .int .i64 x.2.1, v1] ∧ Sl h proofSh x.2.2 v1 := by
  constructor
  · rintro ⟨_, _, rfl, rfl, _, _, rfl, rfl, q1⟩
    obtain ⟨v1, rfl, k1⟩ := rd_sl.1 q1
    exact ⟨v1, rfl, k1⟩
  · rintro ⟨v1, rfl, k1⟩
    exact ⟨[_], _, rfl, rfl, [_], _, rfl, rfl, rd_sl.2 ⟨_, rfl, k1⟩⟩
theorem rd_say {h : AHeap} {x : saySh.T} {cs : List Value} : saySh.rd h x cs ↔ ∃ v1, cs = [.int .i64 x.1, .int .i64 x.2.1, .int .i64 x.2.2.1, .int .i64 x.2.2.2.1, .string x.2.2.2.2.1, v1] ∧ Sl h changeSh x.2.2.2.2.2 v1 := by
  constructor
  · rintro ⟨_, _, rfl, rfl, _, _, rfl, rfl, _, _, rfl, rfl, _, _, rfl, rfl, _, _, rfl, rfl, q1⟩
    obtain ⟨v1, rfl, k1⟩ := rd_sl.1 q1
    exact ⟨v1, rfl, k1⟩
  · rintro ⟨v1, rfl, k1⟩
    exact ⟨[_], _, rfl, rfl, [_], _, rfl, rfl, [_], _, rfl, rfl, [_], _, rfl, rfl, [_], _, rfl, rfl, rd_sl.2 ⟨_, rfl, k1⟩⟩
theorem ro_say {h : AHeap} {x : saySh.T} {cs : List Value} {ids : List Nat} : saySh.ro h x cs ids ↔ ∃ v1 j1, cs = [.int .i64 x.1, .int .i64 x.2.1, .int .i64 x.2.2.1, .int .i64 x.2.2.2.1, .string x.2.2.2.2.1, v1] ∧ ids = [] ++ ([] ++ ([] ++ ([] ++ ([] ++ (j1))))) ∧ So h changeSh x.2.2.2.2.2 v1 j1 := by
  constructor
  · rintro ⟨_, _, _, _, rfl, rfl, ⟨rfl, rfl⟩, _, _, _, _, rfl, rfl, ⟨rfl, rfl⟩, _, _, _, _, rfl, rfl, ⟨rfl, rfl⟩, _, _, _, _, rfl, rfl, ⟨rfl, rfl⟩, _, _, _, _, rfl, rfl, ⟨rfl, rfl⟩, q1⟩
    obtain ⟨v1, rfl, k1⟩ := ro_sl.1 q1
    exact ⟨v1, _, rfl, rfl, k1⟩
  · rintro ⟨v1, j1, rfl, rfl, k1⟩
    exact ⟨[_], _, [], _, rfl, rfl, ⟨rfl, rfl⟩, [_], _, [], _, rfl, rfl, ⟨rfl, rfl⟩, [_], _, [], _, rfl, rfl, ⟨rfl, rfl⟩, [_], _, [], _, rfl, rfl, ⟨rfl, rfl⟩, [_], _, [], _, rfl, rfl, ⟨rfl, rfl⟩, ro_sl.2 ⟨_, rfl, k1⟩⟩
theorem rd_vote {h : AHeap} {x : voteSh.T} {cs : List Value} : voteSh.rd h x cs ↔ cs = [.int .i64 x.1, .int .i64 x.2.1, .int .i64 x.2.2.1, .string x.2.2.2.1, .int .i64 x.2.2.2.2] := by
  constructor
  · rintro ⟨_, _, rfl, rfl, _, _, rfl, rfl, _, _, rfl, rfl, _, _, rfl, rfl, rfl⟩
    exact rfl
  · rintro rfl
    exact ⟨[_], _, rfl, rfl, [_], _, rfl, rfl, [_], _, rfl, rfl, [_], _, rfl, rfl, rfl⟩
theorem ro_vote {h : AHeap} {x : voteSh.T} {cs : List Value} {ids : List Nat} : voteSh.ro h x cs ids ↔ cs = [.int .i64 x.1, .int .i64 x.2.1, .int .i64 x.2.2.1, .string x.2.2.2.1, .int .i64 x.2.2.2.2] ∧ ids = [] ++ ([] ++ ([] ++ ([] ++ ([])))) := by
  constructor
  · rintro ⟨_, _, _, _, rfl, rfl, ⟨rfl, rfl⟩, _, _, _, _, rfl, rfl, ⟨rfl, rfl⟩, _, _, _, _, rfl, rfl, ⟨rfl, rfl⟩, _, _, _, _, rfl, rfl, ⟨rfl, rfl⟩, rfl, rfl⟩
    exact ⟨rfl, rfl⟩
  · rintro ⟨rfl, rfl⟩
    exact ⟨[_], _, [], _, rfl, rfl, ⟨rfl, rfl⟩, [_], _, [], _, rfl, rfl, ⟨rfl, rfl⟩, [_], _, [], _, rfl, rfl, ⟨rfl, rfl⟩, [_], _, [], _, rfl, rfl, ⟨rfl, rfl⟩, rfl, rfl⟩
theorem rd_replica {h : AHeap} {x : replicaSh.T} {cs : List Value} : replicaSh.rd h x cs ↔ ∃ v1 v2 v3 v4, cs = [.int .i64 x.1, .int .i64 x.2.1, .bool x.2.2.1, .int .i64 x.2.2.2.1, v1, v2, .int .i64 x.2.2.2.2.2.2.1.1, .int .i64 x.2.2.2.2.2.2.1.2.1, .int .i64 x.2.2.2.2.2.2.1.2.2.1, .int .i64 x.2.2.2.2.2.2.1.2.2.2.1, .string x.2.2.2.2.2.2.1.2.2.2.2.1, v3, v4] ∧ Sl h voteSh x.2.2.2.2.1 v1 ∧ Sl h changeSh x.2.2.2.2.2.1 v2 ∧ Sl h changeSh x.2.2.2.2.2.2.1.2.2.2.2.2 v3 ∧ Sl h Sh.str x.2.2.2.2.2.2.2 v4 := by
  constructor
  · rintro ⟨_, _, rfl, rfl, _, _, rfl, rfl, _, _, rfl, rfl, _, _, rfl, rfl, _, _, rfl, q1, _, _, rfl, q2, _, _, rfl, q3, q4⟩
    obtain ⟨v1, rfl, k1⟩ := rd_sl.1 q1
    obtain ⟨v2, rfl, k2⟩ := rd_sl.1 q2
    obtain ⟨w3_0, rfl, j3_0⟩ := rd_say.1 q3
    obtain ⟨v4, rfl, k4⟩ := rd_sl.1 q4
    exact ⟨v1, v2, w3_0, v4, rfl, k1, k2, j3_0, k4⟩
  · rintro ⟨v1, v2, v3, v4, rfl, k1, k2, k3, k4⟩
    exact ⟨[_], _, rfl, rfl, [_], _, rfl, rfl, [_], _, rfl, rfl, [_], _, rfl, rfl, [_], _, rfl, rd_sl.2 ⟨_, rfl, k1⟩, [_], _, rfl, rd_sl.2 ⟨_, rfl, k2⟩, [_, _, _, _, _, _], _, rfl, rd_say.2 ⟨_, rfl, k3⟩, rd_sl.2 ⟨_, rfl, k4⟩⟩
theorem ro_replica {h : AHeap} {x : replicaSh.T} {cs : List Value} {ids : List Nat} : replicaSh.ro h x cs ids ↔ ∃ v1 v2 v3 v4 j1 j2 j3 j4, cs = [.int .i64 x.1, .int .i64 x.2.1, .bool x.2.2.1, .int .i64 x.2.2.2.1, v1, v2, .int .i64 x.2.2.2.2.2.2.1.1, .int .i64 x.2.2.2.2.2.2.1.2.1, .int .i64 x.2.2.2.2.2.2.1.2.2.1, .int .i64 x.2.2.2.2.2.2.1.2.2.2.1, .string x.2.2.2.2.2.2.1.2.2.2.2.1, v3, v4] ∧ ids = [] ++ ([] ++ ([] ++ ([] ++ (j1 ++ (j2 ++ (([] ++ ([] ++ ([] ++ ([] ++ ([] ++ (j3)))))) ++ (j4))))))) ∧ So h voteSh x.2.2.2.2.1 v1 j1 ∧ So h changeSh x.2.2.2.2.2.1 v2 j2 ∧ So h changeSh x.2.2.2.2.2.2.1.2.2.2.2.2 v3 j3 ∧ So h Sh.str x.2.2.2.2.2.2.2 v4 j4 := by
  constructor
  · rintro ⟨_, _, _, _, rfl, rfl, ⟨rfl, rfl⟩, _, _, _, _, rfl, rfl, ⟨rfl, rfl⟩, _, _, _, _, rfl, rfl, ⟨rfl, rfl⟩, _, _, _, _, rfl, rfl, ⟨rfl, rfl⟩, _, _, _, _, rfl, rfl, q1, _, _, _, _, rfl, rfl, q2, _, _, _, _, rfl, rfl, q3, q4⟩
    obtain ⟨v1, rfl, k1⟩ := ro_sl.1 q1
    obtain ⟨v2, rfl, k2⟩ := ro_sl.1 q2
    obtain ⟨w3_0, i3_0, rfl, rfl, k3_0⟩ := ro_say.1 q3
    obtain ⟨v4, rfl, k4⟩ := ro_sl.1 q4
    exact ⟨v1, v2, w3_0, v4, _, _, _, _, rfl, rfl, k1, k2, k3_0, k4⟩
  · rintro ⟨v1, v2, v3, v4, j1, j2, j3, j4, rfl, rfl, k1, k2, k3, k4⟩
    exact ⟨[_], _, [], _, rfl, rfl, ⟨rfl, rfl⟩, [_], _, [], _, rfl, rfl, ⟨rfl, rfl⟩, [_], _, [], _, rfl, rfl, ⟨rfl, rfl⟩, [_], _, [], _, rfl, rfl, ⟨rfl, rfl⟩, [_], _, j1, _, rfl, rfl, ro_sl.2 ⟨_, rfl, k1⟩, [_], _, j2, _, rfl, rfl, ro_sl.2 ⟨_, rfl, k2⟩, [_, _, _, _, _, _], _, _, _, rfl, rfl, ro_say.2 ⟨_, j3, rfl, rfl, k3⟩, ro_sl.2 ⟨_, rfl, k4⟩⟩
theorem szL_int (xs : List Sh.int.T) (l : Int) (h : 0 ≤ l) : szL Sh.int.sz xs l = l := by
  induction xs with
  | nil => rfl
  | cons x xs ih =>
    show (if l < 0 then -1 else szL Sh.int.sz xs l) = l
    rw [if_neg (by omega)]; exact ih
end Go.Dat
