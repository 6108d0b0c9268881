/- Data types of the program: their shapes, and what reads as them. Written by gen.py. -/
import Derived.Test.YtdcijleeoihlfaaV8A28
namespace Go.Dat
open Go.Abs
@[reducible] def groupSh : Sh := .pair .str .int
@[reducible] def topicSh : Sh := .pair .str (.pair .int (.pair (.sl Sh.str) (.sl groupSh)))
@[reducible] def replySh : Sh := .pair .int (.pair .int .str)
@[reducible] def brokerSh : Sh := .pair (.sl topicSh) (.sl replySh)
@[reducible] def snapSh : Sh := .pair .int brokerSh
@[reducible] def snapOutSh : Sh := .pair snapSh .int
theorem rd_group {h : AHeap} {x : groupSh.T} {cs : List Value} : groupSh.rd h x cs ↔ cs = [.string x.1, .int .i64 x.2] := by
  constructor
  · rintro ⟨_, _, rfl, rfl, rfl⟩
    exact rfl
  · rintro rfl
    exact ⟨[_], _, rfl, rfl, rfl⟩
theorem ro_group {h : AHeap} {x : groupSh.T} {cs : List Value} {ids : List Nat} : groupSh.ro h x cs ids ↔ cs = [.string x.1, .int .i64 x.2] ∧ ids = [] ++ ([]) := by
  constructor
  · rintro ⟨_, _, _, _, rfl, rfl, ⟨rfl, rfl⟩, rfl, rfl⟩
    exact ⟨rfl, rfl⟩
  · rintro ⟨rfl, rfl⟩
    exact ⟨[_], _, [], _, rfl, rfl, ⟨rfl, rfl⟩, rfl, rfl⟩
theorem rd_topic {h : AHeap} {x : topicSh.T} {cs : List Value} : topicSh.rd h x cs ↔ ∃ v1 v2, cs = [.string x.1, .int .i64 x.2.1, v1, v2] ∧ Sl h Sh.str x.2.2.1 v1 ∧ Sl h groupSh x.2.2.2 v2 := by
  constructor
  · rintro ⟨_, _, rfl, rfl, _, _, rfl, rfl, _, _, rfl, q1, q2⟩
    obtain ⟨v1, rfl, k1⟩ := rd_sl.1 q1
    obtain ⟨v2, rfl, k2⟩ := rd_sl.1 q2
    exact ⟨v1, v2, rfl, k1, k2⟩
  · rintro ⟨v1, v2, rfl, k1, k2⟩
    exact ⟨[_], _, rfl, rfl, [_], _, rfl, rfl, [_], _, rfl, rd_sl.2 ⟨_, rfl, k1⟩, rd_sl.2 ⟨_, rfl, k2⟩⟩
theorem ro_topic {h : AHeap} {x : topicSh.T} {cs : List Value} {ids : List Nat} : topicSh.ro h x cs ids ↔ ∃ v1 v2 j1 j2, cs = [.string x.1, .int .i64 x.2.1, v1, v2] ∧ ids = [] ++ ([] ++ (j1 ++ (j2))) ∧ So h Sh.str x.2.2.1 v1 j1 ∧ So h groupSh x.2.2.2 v2 j2 := by
  constructor
  · rintro ⟨_, _, _, _, rfl, rfl, ⟨rfl, rfl⟩, _, _, _, _, rfl, rfl, ⟨rfl, rfl⟩, _, _, _, _, rfl, rfl, q1, q2⟩
    obtain ⟨v1, rfl, k1⟩ := ro_sl.1 q1
    obtain ⟨v2, rfl, k2⟩ := ro_sl.1 q2
    exact ⟨v1, v2, _, _, rfl, rfl, k1, k2⟩
  · rintro ⟨v1, v2, j1, j2, rfl, rfl, k1, k2⟩
    exact ⟨[_], _, [], _, rfl, rfl, ⟨rfl, rfl⟩, [_], _, [], _, rfl, rfl, ⟨rfl, rfl⟩, [_], _, j1, _, rfl, rfl, ro_sl.2 ⟨_, rfl, k1⟩, ro_sl.2 ⟨_, rfl, k2⟩⟩
theorem rd_reply {h : AHeap} {x : replySh.T} {cs : List Value} : replySh.rd h x cs ↔ cs = [.int .i64 x.1, .int .i64 x.2.1, .string x.2.2] := by
  constructor
  · rintro ⟨_, _, rfl, rfl, _, _, rfl, rfl, rfl⟩
    exact rfl
  · rintro rfl
    exact ⟨[_], _, rfl, rfl, [_], _, rfl, rfl, rfl⟩
theorem ro_reply {h : AHeap} {x : replySh.T} {cs : List Value} {ids : List Nat} : replySh.ro h x cs ids ↔ cs = [.int .i64 x.1, .int .i64 x.2.1, .string x.2.2] ∧ ids = [] ++ ([] ++ ([])) := by
  constructor
  · rintro ⟨_, _, _, _, rfl, rfl, ⟨rfl, rfl⟩, _, _, _, _, rfl, rfl, ⟨rfl, rfl⟩, rfl, rfl⟩
    exact ⟨rfl, rfl⟩
  · rintro ⟨rfl, rfl⟩
    exact ⟨[_], _, [], _, rfl, rfl, ⟨rfl, rfl⟩, [_], _, [], _, rfl, rfl, ⟨rfl, rfl⟩, rfl, rfl⟩
theorem rd_broker {h : AHeap} {x : brokerSh.T} {cs : List Value} : brokerSh.rd h x cs ↔ ∃ v1 v2, cs = [v1, v2] ∧ Sl h topicSh x.1 v1 ∧ Sl h replySh x.2 v2 := by
  constructor
  · rintro ⟨_, _, rfl, q1, q2⟩
    obtain ⟨v1, rfl, k1⟩ := rd_sl.1 q1
    obtain ⟨v2, rfl, k2⟩ := rd_sl.1 q2
    exact ⟨v1, v2, rfl, k1, k2⟩
  · rintro ⟨v1, v2, rfl, k1, k2⟩
    exact ⟨[_], _, rfl, rd_sl.2 ⟨_, rfl, k1⟩, rd_sl.2 ⟨_, rfl, k2⟩⟩
theorem rd_snap {h : AHeap} {x : snapSh.T} {cs : List Value} : snapSh.rd h x cs ↔ ∃ v1 v2, cs = [.int .i64 x.1, v1, v2] ∧ Sl h topicSh x.2.1 v1 ∧ Sl h replySh x.2.2 v2 := by
  constructor
  · rintro ⟨_, _, rfl, rfl, q1⟩
    obtain ⟨w1_0, w1_1, rfl, j1_0, j1_1⟩ := rd_broker.1 q1
    exact ⟨w1_0, w1_1, rfl, j1_0, j1_1⟩
  · rintro ⟨v1, v2, rfl, k1, k2⟩
    exact ⟨[_], _, rfl, rfl, rd_broker.2 ⟨_, _, rfl, k1, k2⟩⟩
theorem rd_snapOut {h : AHeap} {x : snapOutSh.T} {cs : List Value} : snapOutSh.rd h x cs ↔ ∃ v1 v2, cs = [.int .i64 x.1.1, v1, v2, .int .i64 x.2] ∧ Sl h topicSh x.1.2.1 v1 ∧ Sl h replySh x.1.2.2 v2 := by
  constructor
  · rintro ⟨_, _, rfl, q1, rfl⟩
    obtain ⟨w1_0, w1_1, rfl, j1_0, j1_1⟩ := rd_snap.1 q1
    exact ⟨w1_0, w1_1, rfl, j1_0, j1_1⟩
  · rintro ⟨v1, v2, rfl, k1, k2⟩
    exact ⟨[_, _, _], _, rfl, rd_snap.2 ⟨_, _, rfl, k1, k2⟩, rfl⟩
end Go.Dat
