/- Data types of the program: their shapes, and what reads as them. Written by gen.py. -/
import Derived.Test.YtdcijleeoihlfaaV9A28
namespace Go.Dat
open Go.Abs
@[reducible] def groupSh : Sh := .pair .str .int
@[reducible] def topicSh : Sh := .pair .str (.pair .int (.pair (.sl Sh.str) (.sl groupSh)))
@[reducible] def replySh : Sh := .pair .int (.pair .int .str)
@[reducible] def brokerSh : Sh := .pair (.sl topicSh) (.sl replySh)
@[reducible] def proofSh : Sh := .pair .int (.pair .int (.pair .str (.sl Sh.int)))
@[reducible] def changeSh : Sh := .pair .int (.pair .int (.sl proofSh))
@[reducible] def saySh : Sh := .pair .int (.pair .int (.pair .int (.pair .int (.pair .str (.sl changeSh)))))
@[reducible] def sayOutSh : Sh := .pair saySh .int
theorem rd_reply {h : AHeap} {x : replySh.T} {cs : List Value} : replySh.rd h x cs ↔ cs = [.int .i64 x.1, .int .i64 x.2.1, .string x.2.2] := by
  constructor
  · rintro ⟨_, _, rfl, rfl, _, _, rfl, rfl, rfl⟩
    exact rfl
  · rintro rfl
    exact ⟨[_], _, rfl, rfl, [_], _, rfl, rfl, rfl⟩
theorem rd_proof {h : AHeap} {x : proofSh.T} {cs : List Value} : proofSh.rd h x cs ↔ ∃ v1, cs = [.int .i64 x.1, .int .i64 x.2.1, .string x.2.2.1, v1] ∧ Sl h Sh.int x.2.2.2 v1 := by
  constructor
  · rintro ⟨_, _, rfl, rfl, _, _, rfl, rfl, _, _, rfl, rfl, q1⟩
    obtain ⟨v1, rfl, k1⟩ := rd_sl.1 q1
    exact ⟨v1, rfl, k1⟩
  · rintro ⟨v1, rfl, k1⟩
    exact ⟨[_], _, rfl, rfl, [_], _, rfl, rfl, [_], _, rfl, rfl, rd_sl.2 ⟨_, rfl, k1⟩⟩
theorem ro_proof {h : AHeap} {x : proofSh.T} {cs : List Value} {ids : List Nat} : proofSh.ro h x cs ids ↔ ∃ v1 j1, cs = [.int .i64 x.1, .int .i64 x.2.1, .string x.2.2.1, v1] ∧ ids = [] ++ ([] ++ ([] ++ (j1))) ∧ So h Sh.int x.2.2.2 v1 j1 := by
  constructor
  · rintro ⟨_, _, _, _, rfl, rfl, ⟨rfl, rfl⟩, _, _, _, _, rfl, rfl, ⟨rfl, rfl⟩, _, _, _, _, rfl, rfl, ⟨rfl, rfl⟩, q1⟩
    obtain ⟨v1, rfl, k1⟩ := ro_sl.1 q1
    exact ⟨v1, _, rfl, rfl, k1⟩
  · rintro ⟨v1, j1, rfl, rfl, k1⟩
    exact ⟨[_], _, [], _, rfl, rfl, ⟨rfl, rfl⟩, [_], _, [], _, rfl, rfl, ⟨rfl, rfl⟩, [_], _, [], _, rfl, rfl, ⟨rfl, rfl⟩, ro_sl.2 ⟨_, rfl, k1⟩⟩
theorem rd_change {h : AHeap} {x : changeSh.T} {cs : List Value} : changeSh.rd h x cs ↔ ∃ v1, cs = [.int .i64 x.1, .int .i64 x.2.1, v1] ∧ Sl h proofSh x.2.2 v1 := by
  constructor
  · rintro ⟨_, _, rfl, rfl, _, _, rfl, rfl, q1⟩
    obtain ⟨v1, rfl, k1⟩ := rd_sl.1 q1
    exact ⟨v1, rfl, k1⟩
  · rintro ⟨v1, rfl, k1⟩
    exact ⟨[_], _, rfl, rfl, [_], _, rfl, rfl, rd_sl.2 ⟨_, rfl, k1⟩⟩
theorem ro_change {h : AHeap} {x : changeSh.T} {cs : List Value} {ids : List Nat} : changeSh.ro h x cs ids ↔ ∃ v1 j1, cs = [.int .i64 x.1, .int .i64 x.2.1, v1] ∧ ids = [] ++ ([] ++ (j1)) ∧ So h proofSh x.2.2 v1 j1 := by
  constructor
  · rintro ⟨_, _, _, _, rfl, rfl, ⟨rfl, rfl⟩, _, _, _, _, rfl, rfl, ⟨rfl, rfl⟩, q1⟩
    obtain ⟨v1, rfl, k1⟩ := ro_sl.1 q1
    exact ⟨v1, _, rfl, rfl, k1⟩
  · rintro ⟨v1, j1, rfl, rfl, k1⟩
    exact ⟨[_], _, [], _, rfl, rfl, ⟨rfl, rfl⟩, [_], _, [], _, rfl, rfl, ⟨rfl, rfl⟩, ro_sl.2 ⟨_, rfl, k1⟩⟩
theorem rd_say {h : AHeap} {x : saySh.T} {cs : List Value} : saySh.rd h x cs ↔ ∃ v1, cs = [.int .i64 x.1, .int .i64 x.2.1, .int .i64 x.2.2.1, .int .i64 x.2.2.2.1, .string x.2.2.2.2.1, v1] ∧ Sl h changeSh x.2.2.2.2.2 v1 := by
  constructor
  · rintro ⟨_, _, rfl, rfl, _, _, rfl, rfl, _, _, rfl, rfl, _, _, rfl, rfl, _, _, rfl, rfl, q1⟩
    obtain ⟨v1, rfl, k1⟩ := rd_sl.1 q1
    exact ⟨v1, rfl, k1⟩
  · rintro ⟨v1, rfl, k1⟩
    exact ⟨[_], _, rfl, rfl, [_], _, rfl, rfl, [_], _, rfl, rfl, [_], _, rfl, rfl, [_], _, rfl, rfl, rd_sl.2 ⟨_, rfl, k1⟩⟩
theorem rd_sayOut {h : AHeap} {x : sayOutSh.T} {cs : List Value} : sayOutSh.rd h x cs ↔ ∃ v1, cs = [.int .i64 x.1.1, .int .i64 x.1.2.1, .int .i64 x.1.2.2.1, .int .i64 x.1.2.2.2.1, .string x.1.2.2.2.2.1, v1, .int .i64 x.2] ∧ Sl h changeSh x.1.2.2.2.2.2 v1 := by
  constructor
  · rintro ⟨_, _, rfl, q1, rfl⟩
    obtain ⟨w1_0, rfl, j1_0⟩ := rd_say.1 q1
    exact ⟨w1_0, rfl, j1_0⟩
  · rintro ⟨v1, rfl, k1⟩
    exact ⟨[_, _, _, _, _, _], _, rfl, rd_say.2 ⟨_, rfl, k1⟩, rfl⟩
end Go.Dat
