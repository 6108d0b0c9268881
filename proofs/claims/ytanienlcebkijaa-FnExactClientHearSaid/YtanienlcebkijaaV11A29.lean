/- Data types of the program: their shapes, and what reads as them. Written by gen.py. -/
import Derived.Test.YtanienlcebkijaaV11A28
namespace Go.Dat
open Go.Abs
@[reducible] def groupSh : Sh := .pair .str .int
@[reducible] def topicSh : Sh := .pair .str (.pair .int (.pair (.sl Sh.str) (.sl groupSh)))
@[reducible] def replySh : Sh := .pair .int (.pair .int .str)
@[reducible] def proofSh : Sh := .pair .int (.pair .int (.pair .str (.sl Sh.int)))
@[reducible] def changeSh : Sh := .pair .int (.pair .int (.sl proofSh))
@[reducible] def heardSh : Sh := .pair .int .str
@[reducible] def clientSh : Sh := .pair .int (.pair .int (.pair .bool (.pair (.sl heardSh) .str)))
@[reducible] def clientOutSh : Sh := .pair clientSh (.pair .str .int)
theorem rd_reply {h : AHeap} {x : replySh.T} {cs : List Value} : replySh.rd h x cs ↔ cs = [.int .i64 x.1, .int .i64 x.2.1, .string x.2.2] := by
  constructor
  · rintro ⟨_, _, rfl, rfl, _, _, rfl, rfl, rfl⟩
    exact rfl
  · rintro rfl
    exact ⟨[_], _, rfl, rfl, [_], _, rfl, rfl, rfl⟩
theorem ro_reply {h : AHeap} {x : replySh.T} {cs : List Value} {ids : List Nat} : replySh.ro h x cs ids ↔ cs = [.int .i64 x.1, .int .i64 x.2.1, .string x.2.2] ∧ ids = [] ++ ([] ++ ([])) := by
  constructor
  · rintro ⟨_, _, _, _, rfl, rfl, ⟨rfl, rfl⟩, _, _, _, _, rfl, rfl, ⟨rfl, rfl⟩, rfl, rfl⟩
    exact ⟨rfl, rfl⟩
  · rintro ⟨rfl, rfl⟩
    exact ⟨[_], _, [], _, rfl, rfl, ⟨rfl, rfl⟩, [_], _, [], _, rfl, rfl, ⟨rfl, rfl⟩, rfl, rfl⟩
theorem rd_proof {h : AHeap} {x : proofSh.T} {cs : List Value} : proofSh.rd h x cs ↔ ∃ v1, cs = [.int .i64 x.1, .int .i64 x.2.1, .string x.2.2.1, v1] ∧ Sl h Sh.int x.2.2.2 v1 := by
  constructor
  · rintro ⟨_, _, rfl, rfl, _, _, rfl, rfl, _, _, rfl, rfl, q1⟩
    obtain ⟨v1, rfl, k1⟩ := rd_sl.1 q1
    exact ⟨v1, rfl, k1⟩
  · rintro ⟨v1, rfl, k1⟩
    exact ⟨[_], _, rfl, rfl, [_], _, rfl, rfl, [_], _, rfl, rfl, rd_sl.2 ⟨_, rfl, k1⟩⟩
theorem rd_heard {h : AHeap} {x : heardSh.T} {cs : List Value} : heardSh.rd h x cs ↔ cs = [.int .i64 x.1, .string x.2] := by
  constructor
  · rintro ⟨_, _, rfl, rfl, rfl⟩
    exact rfl
  · rintro rfl
    exact ⟨[_], _, rfl, rfl, rfl⟩
theorem ro_heard {h : AHeap} {x : heardSh.T} {cs : List Value} {ids : List Nat} : heardSh.ro h x cs ids ↔ cs = [.int .i64 x.1, .string x.2] ∧ ids = [] ++ ([]) := by
  constructor
  · rintro ⟨_, _, _, _, rfl, rfl, ⟨rfl, rfl⟩, rfl, rfl⟩
    exact ⟨rfl, rfl⟩
  · rintro ⟨rfl, rfl⟩
    exact ⟨[_], _, [], _, rfl, rfl, ⟨rfl, rfl⟩, rfl, rfl⟩
theorem rd_client {h : AHeap} {x : clientSh.T} {cs : List Value} : clientSh.rd h x cs ↔ ∃ v1, cs = [.int .i64 x.1, .int .i64 x.2.1, .bool x.2.2.1, v1, .string x.2.2.2.2] ∧ Sl h heardSh x.2.2.2.1 v1 := by
  constructor
  · rintro ⟨_, _, rfl, rfl, _, _, rfl, rfl, _, _, rfl, rfl, _, _, rfl, q1, rfl⟩
    obtain ⟨v1, rfl, k1⟩ := rd_sl.1 q1
    exact ⟨v1, rfl, k1⟩
  · rintro ⟨v1, rfl, k1⟩
    exact ⟨[_], _, rfl, rfl, [_], _, rfl, rfl, [_], _, rfl, rfl, [_], _, rfl, rd_sl.2 ⟨_, rfl, k1⟩, rfl⟩
theorem ro_client {h : AHeap} {x : clientSh.T} {cs : List Value} {ids : List Nat} : clientSh.ro h x cs ids ↔ ∃ v1 j1, cs = [.int .i64 x.1, .int .i64 x.2.1, .bool x.2.2.1, v1, .string x.2.2.2.2] ∧ ids = [] ++ ([] ++ ([] ++ (j1 ++ ([])))) ∧ So h heardSh x.2.2.2.1 v1 j1 := by
  constructor
  · rintro ⟨_, _, _, _, rfl, rfl, ⟨rfl, rfl⟩, _, _, _, _, rfl, rfl, ⟨rfl, rfl⟩, _, _, _, _, rfl, rfl, ⟨rfl, rfl⟩, _, _, _, _, rfl, rfl, q1, rfl, rfl⟩
    obtain ⟨v1, rfl, k1⟩ := ro_sl.1 q1
    exact ⟨v1, _, rfl, rfl, k1⟩
  · rintro ⟨v1, j1, rfl, rfl, k1⟩
    exact ⟨[_], _, [], _, rfl, rfl, ⟨rfl, rfl⟩, [_], _, [], _, rfl, rfl, ⟨rfl, rfl⟩, [_], _, [], _, rfl, rfl, ⟨rfl, rfl⟩, [_], _, j1, _, rfl, rfl, ro_sl.2 ⟨_, rfl, k1⟩, rfl, rfl⟩
theorem rd_clientOut {h : AHeap} {x : clientOutSh.T} {cs : List Value} : clientOutSh.rd h x cs ↔ ∃ v1, cs = [.int .i64 x.1.1, .int .i64 x.1.2.1, .bool x.1.2.2.1, v1, .string x.1.2.2.2.2, .string x.2.1, .int .i64 x.2.2] ∧ Sl h heardSh x.1.2.2.2.1 v1 := by
  constructor
  · rintro ⟨_, _, rfl, q1, _, _, rfl, rfl, rfl⟩
    obtain ⟨w1_0, rfl, j1_0⟩ := rd_client.1 q1
    exact ⟨w1_0, rfl, j1_0⟩
  · rintro ⟨v1, rfl, k1⟩
    exact ⟨[_, _, _, _, _], _, rfl, rd_client.2 ⟨_, rfl, k1⟩, [_], _, rfl, rfl, rfl⟩
theorem szL_int (xs : List Sh.int.T) (l : Int) (h : 0 ≤ l) : szL Sh.int.sz xs l = l := by
  induction xs with
  | nil => rfl
  | cons x xs ih =>
    show (if l < 0 then -1 else szL Sh.int.sz xs l) = l
    rw [if_neg (by omega)]; exact ih
end Go.Dat
