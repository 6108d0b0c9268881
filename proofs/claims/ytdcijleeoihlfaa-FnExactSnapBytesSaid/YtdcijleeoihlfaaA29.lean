/- Data types of the program: their shapes, and what reads as them. Written by gen.py. -/
import Derived.Test.YtdcijleeoihlfaaA28
namespace Go.Dat
open Go.Abs
@[reducible] def numOutSh : Sh := .pair .int (.pair .int .int)
@[reducible] def textOutSh : Sh := .pair .str (.pair .int .int)
@[reducible] def fileSh : Sh := .pair .str (.pair .str .int)
@[reducible] def fsSh : Sh := (.sl fileSh)
@[reducible] def fsOutSh : Sh := .pair fsSh .int
@[reducible] def framesOutSh : Sh := .pair (.sl Sh.str) (.pair .int .int)
@[reducible] def seglogSh : Sh := .pair fsSh (.pair .int .int)
@[reducible] def seglogOutSh : Sh := .pair seglogSh (.pair (.sl Sh.str) .int)
@[reducible] def commandSh : Sh := .pair .int (.pair .int (.pair .int (.pair .str (.pair .str (.pair .str .int)))))
@[reducible] def commandOutSh : Sh := .pair commandSh .int
@[reducible] def groupSh : Sh := .pair .str .int
@[reducible] def topicSh : Sh := .pair .str (.pair .int (.pair (.sl Sh.str) (.sl groupSh)))
@[reducible] def topicOutSh : Sh := .pair topicSh (.pair (.sl Sh.str) (.pair .int .int))
@[reducible] def replySh : Sh := .pair .int (.pair .int .str)
@[reducible] def brokerSh : Sh := .pair (.sl topicSh) (.sl replySh)
@[reducible] def brokerOutSh : Sh := .pair brokerSh (.pair .str .int)
@[reducible] def proofSh : Sh := .pair .int (.pair .int (.pair .str (.sl Sh.int)))
@[reducible] def changeSh : Sh := .pair .int (.pair .int (.sl proofSh))
@[reducible] def saySh : Sh := .pair .int (.pair .int (.pair .int (.pair .int (.pair .str (.sl changeSh)))))
@[reducible] def sayOutSh : Sh := .pair saySh .int
@[reducible] def voteSh : Sh := .pair .int (.pair .int (.pair .int (.pair .str .int)))
@[reducible] def votesOutSh : Sh := .pair (.sl voteSh) (.pair .bool .int)
@[reducible] def freshSh : Sh := .pair .int .str
@[reducible] def replicaSh : Sh := .pair .int (.pair .int (.pair .bool (.pair .int (.pair (.sl voteSh) (.pair (.sl changeSh) (.pair saySh (.sl Sh.str)))))))
@[reducible] def replicaOutSh : Sh := .pair replicaSh (.pair (.sl saySh) .int)
@[reducible] def keeperSh : Sh := .pair seglogSh replicaSh
@[reducible] def keeperOutSh : Sh := .pair keeperSh (.pair (.sl saySh) .int)
@[reducible] def heardSh : Sh := .pair .int .str
@[reducible] def clientSh : Sh := .pair .int (.pair .int (.pair .bool (.pair (.sl heardSh) .str)))
@[reducible] def clientOutSh : Sh := .pair clientSh (.pair .str .int)
@[reducible] def clusterOutSh : Sh := .pair (.sl replicaSh) (.pair (.sl Sh.str) .int)
@[reducible] def snapSh : Sh := .pair .int brokerSh
@[reducible] def snapOutSh : Sh := .pair snapSh .int
@[reducible] def opinionSh : Sh := .pair .int .str
@[reducible] def deskOutSh : Sh := .pair .str (.pair .int .int)
theorem rd_numOut {h : AHeap} {x : numOutSh.T} {cs : List Value} : numOutSh.rd h x cs ↔ cs = [.int .i64 x.1, .int .i64 x.2.1, .int .i64 x.2.2] := by
  constructor
  · rintro ⟨_, _, rfl, rfl, _, _, rfl, rfl, rfl⟩
    exact rfl
  · rintro rfl
    exact ⟨[_], _, rfl, rfl, [_], _, rfl, rfl, rfl⟩
theorem ro_numOut {h : AHeap} {x : numOutSh.T} {cs : List Value} {ids : List Nat} : numOutSh.ro h x cs ids ↔ cs = [.int .i64 x.1, .int .i64 x.2.1, .int .i64 x.2.2] ∧ ids = [] ++ ([] ++ ([])) := by
  constructor
  · rintro ⟨_, _, _, _, rfl, rfl, ⟨rfl, rfl⟩, _, _, _, _, rfl, rfl, ⟨rfl, rfl⟩, rfl, rfl⟩
    exact ⟨rfl, rfl⟩
  · rintro ⟨rfl, rfl⟩
    exact ⟨[_], _, [], _, rfl, rfl, ⟨rfl, rfl⟩, [_], _, [], _, rfl, rfl, ⟨rfl, rfl⟩, rfl, rfl⟩
theorem rd_textOut {h : AHeap} {x : textOutSh.T} {cs : List Value} : textOutSh.rd h x cs ↔ cs = [.string x.1, .int .i64 x.2.1, .int .i64 x.2.2] := by
  constructor
  · rintro ⟨_, _, rfl, rfl, _, _, rfl, rfl, rfl⟩
    exact rfl
  · rintro rfl
    exact ⟨[_], _, rfl, rfl, [_], _, rfl, rfl, rfl⟩
theorem ro_textOut {h : AHeap} {x : textOutSh.T} {cs : List Value} {ids : List Nat} : textOutSh.ro h x cs ids ↔ cs = [.string x.1, .int .i64 x.2.1, .int .i64 x.2.2] ∧ ids = [] ++ ([] ++ ([])) := by
  constructor
  · rintro ⟨_, _, _, _, rfl, rfl, ⟨rfl, rfl⟩, _, _, _, _, rfl, rfl, ⟨rfl, rfl⟩, rfl, rfl⟩
    exact ⟨rfl, rfl⟩
  · rintro ⟨rfl, rfl⟩
    exact ⟨[_], _, [], _, rfl, rfl, ⟨rfl, rfl⟩, [_], _, [], _, rfl, rfl, ⟨rfl, rfl⟩, rfl, rfl⟩
theorem rd_file {h : AHeap} {x : fileSh.T} {cs : List Value} : fileSh.rd h x cs ↔ cs = [.string x.1, .string x.2.1, .int .i64 x.2.2] := by
  constructor
  · rintro ⟨_, _, rfl, rfl, _, _, rfl, rfl, rfl⟩
    exact rfl
  · rintro rfl
    exact ⟨[_], _, rfl, rfl, [_], _, rfl, rfl, rfl⟩
theorem ro_file {h : AHeap} {x : fileSh.T} {cs : List Value} {ids : List Nat} : fileSh.ro h x cs ids ↔ cs = [.string x.1, .string x.2.1, .int .i64 x.2.2] ∧ ids = [] ++ ([] ++ ([])) := by
  constructor
  · rintro ⟨_, _, _, _, rfl, rfl, ⟨rfl, rfl⟩, _, _, _, _, rfl, rfl, ⟨rfl, rfl⟩, rfl, rfl⟩
    exact ⟨rfl, rfl⟩
  · rintro ⟨rfl, rfl⟩
    exact ⟨[_], _, [], _, rfl, rfl, ⟨rfl, rfl⟩, [_], _, [], _, rfl, rfl, ⟨rfl, rfl⟩, rfl, rfl⟩
theorem rd_fs {h : AHeap} {x : fsSh.T} {cs : List Value} : fsSh.rd h x cs ↔ ∃ v1, cs = [v1] ∧ Sl h fileSh x v1 := by
  constructor
  · rintro q1
    obtain ⟨v1, rfl, k1⟩ := rd_sl.1 q1
    exact ⟨v1, rfl, k1⟩
  · rintro ⟨v1, rfl, k1⟩
    exact rd_sl.2 ⟨_, rfl, k1⟩
theorem ro_fs {h : AHeap} {x : fsSh.T} {cs : List Value} {ids : List Nat} : fsSh.ro h x cs ids ↔ ∃ v1 j1, cs = [v1] ∧ ids = j1 ∧ So h fileSh x v1 j1 := by
  constructor
  · intro q
    obtain ⟨v1, e, k1⟩ := ro_sl.1 q
    exact ⟨v1, ids, e, rfl, k1⟩
  · rintro ⟨v1, j1, rfl, rfl, k1⟩
    exact ro_sl.2 ⟨v1, rfl, k1⟩
theorem rd_fsOut {h : AHeap} {x : fsOutSh.T} {cs : List Value} : fsOutSh.rd h x cs ↔ ∃ v1, cs = [v1, .int .i64 x.2] ∧ Sl h fileSh x.1 v1 := by
  constructor
  · rintro ⟨_, _, rfl, q1, rfl⟩
    obtain ⟨w1_0, rfl, j1_0⟩ := rd_fs.1 q1
    exact ⟨w1_0, rfl, j1_0⟩
  · rintro ⟨v1, rfl, k1⟩
    exact ⟨[_], _, rfl, rd_fs.2 ⟨_, rfl, k1⟩, rfl⟩
theorem ro_fsOut {h : AHeap} {x : fsOutSh.T} {cs : List Value} {ids : List Nat} : fsOutSh.ro h x cs ids ↔ ∃ v1 j1, cs = [v1, .int .i64 x.2] ∧ ids = j1 ++ ([]) ∧ So h fileSh x.1 v1 j1 := by
  constructor
  · rintro ⟨_, _, _, _, rfl, rfl, q1, rfl, rfl⟩
    obtain ⟨w1_0, i1_0, rfl, rfl, k1_0⟩ := ro_fs.1 q1
    exact ⟨w1_0, _, rfl, rfl, k1_0⟩
  · rintro ⟨v1, j1, rfl, rfl, k1⟩
    exact ⟨[_], _, _, _, rfl, rfl, ro_fs.2 ⟨_, j1, rfl, rfl, k1⟩, rfl, rfl⟩
theorem rd_framesOut {h : AHeap} {x : framesOutSh.T} {cs : List Value} : framesOutSh.rd h x cs ↔ ∃ v1, cs = [v1, .int .i64 x.2.1, .int .i64 x.2.2] ∧ Sl h Sh.str x.1 v1 := by
  constructor
  · rintro ⟨_, _, rfl, q1, _, _, rfl, rfl, rfl⟩
    obtain ⟨v1, rfl, k1⟩ := rd_sl.1 q1
    exact ⟨v1, rfl, k1⟩
  · rintro ⟨v1, rfl, k1⟩
    exact ⟨[_], _, rfl, rd_sl.2 ⟨_, rfl, k1⟩, [_], _, rfl, rfl, rfl⟩
theorem ro_framesOut {h : AHeap} {x : framesOutSh.T} {cs : List Value} {ids : List Nat} : framesOutSh.ro h x cs ids ↔ ∃ v1 j1, cs = [v1, .int .i64 x.2.1, .int .i64 x.2.2] ∧ ids = j1 ++ ([] ++ ([])) ∧ So h Sh.str x.1 v1 j1 := by
  constructor
  · rintro ⟨_, _, _, _, rfl, rfl, q1, _, _, _, _, rfl, rfl, ⟨rfl, rfl⟩, rfl, rfl⟩
    obtain ⟨v1, rfl, k1⟩ := ro_sl.1 q1
    exact ⟨v1, _, rfl, rfl, k1⟩
  · rintro ⟨v1, j1, rfl, rfl, k1⟩
    exact ⟨[_], _, j1, _, rfl, rfl, ro_sl.2 ⟨_, rfl, k1⟩, [_], _, [], _, rfl, rfl, ⟨rfl, rfl⟩, rfl, rfl⟩
theorem rd_seglog {h : AHeap} {x : seglogSh.T} {cs : List Value} : seglogSh.rd h x cs ↔ ∃ v1, cs = [v1, .int .i64 x.2.1, .int .i64 x.2.2] ∧ Sl h fileSh x.1 v1 := by
  constructor
  · rintro ⟨_, _, rfl, q1, _, _, rfl, rfl, rfl⟩
    obtain ⟨w1_0, rfl, j1_0⟩ := rd_fs.1 q1
    exact ⟨w1_0, rfl, j1_0⟩
  · rintro ⟨v1, rfl, k1⟩
    exact ⟨[_], _, rfl, rd_fs.2 ⟨_, rfl, k1⟩, [_], _, rfl, rfl, rfl⟩
theorem ro_seglog {h : AHeap} {x : seglogSh.T} {cs : List Value} {ids : List Nat} : seglogSh.ro h x cs ids ↔ ∃ v1 j1, cs = [v1, .int .i64 x.2.1, .int .i64 x.2.2] ∧ ids = j1 ++ ([] ++ ([])) ∧ So h fileSh x.1 v1 j1 := by
  constructor
  · rintro ⟨_, _, _, _, rfl, rfl, q1, _, _, _, _, rfl, rfl, ⟨rfl, rfl⟩, rfl, rfl⟩
    obtain ⟨w1_0, i1_0, rfl, rfl, k1_0⟩ := ro_fs.1 q1
    exact ⟨w1_0, _, rfl, rfl, k1_0⟩
  · rintro ⟨v1, j1, rfl, rfl, k1⟩
    exact ⟨[_], _, _, _, rfl, rfl, ro_fs.2 ⟨_, j1, rfl, rfl, k1⟩, [_], _, [], _, rfl, rfl, ⟨rfl, rfl⟩, rfl, rfl⟩
theorem rd_seglogOut {h : AHeap} {x : seglogOutSh.T} {cs : List Value} : seglogOutSh.rd h x cs ↔ ∃ v1 v2, cs = [v1, .int .i64 x.1.2.1, .int .i64 x.1.2.2, v2, .int .i64 x.2.2] ∧ Sl h fileSh x.1.1 v1 ∧ Sl h Sh.str x.2.1 v2 := by
  constructor
  · rintro ⟨_, _, rfl, q1, _, _, rfl, q2, rfl⟩
    obtain ⟨w1_0, rfl, j1_0⟩ := rd_seglog.1 q1
    obtain ⟨v2, rfl, k2⟩ := rd_sl.1 q2
    exact ⟨w1_0, v2, rfl, j1_0, k2⟩
  · rintro ⟨v1, v2, rfl, k1, k2⟩
    exact ⟨[_, _, _], _, rfl, rd_seglog.2 ⟨_, rfl, k1⟩, [_], _, rfl, rd_sl.2 ⟨_, rfl, k2⟩, rfl⟩
theorem ro_seglogOut {h : AHeap} {x : seglogOutSh.T} {cs : List Value} {ids : List Nat} : seglogOutSh.ro h x cs ids ↔ ∃ v1 v2 j1 j2, cs = [v1, .int .i64 x.1.2.1, .int .i64 x.1.2.2, v2, .int .i64 x.2.2] ∧ ids = (j1 ++ ([] ++ ([]))) ++ (j2 ++ ([])) ∧ So h fileSh x.1.1 v1 j1 ∧ So h Sh.str x.2.1 v2 j2 := by
  constructor
  · rintro ⟨_, _, _, _, rfl, rfl, q1, _, _, _, _, rfl, rfl, q2, rfl, rfl⟩
    obtain ⟨w1_0, i1_0, rfl, rfl, k1_0⟩ := ro_seglog.1 q1
    obtain ⟨v2, rfl, k2⟩ := ro_sl.1 q2
    exact ⟨w1_0, v2, _, _, rfl, rfl, k1_0, k2⟩
  · rintro ⟨v1, v2, j1, j2, rfl, rfl, k1, k2⟩
    exact ⟨[_, _, _], _, _, _, rfl, rfl, ro_seglog.2 ⟨_, j1, rfl, rfl, k1⟩, [_], _, j2, _, rfl, rfl, ro_sl.2 ⟨_, rfl, k2⟩, rfl, rfl⟩
theorem rd_command {h : AHeap} {x : commandSh.T} {cs : List Value} : commandSh.rd h x cs ↔ cs = [.int .i64 x.1, .int .i64 x.2.1, .int .i64 x.2.2.1, .string x.2.2.2.1, .string x.2.2.2.2.1, .string x.2.2.2.2.2.1, .int .i64 x.2.2.2.2.2.2] := by
  constructor
  · rintro ⟨_, _, rfl, rfl, _, _, rfl, rfl, _, _, rfl, rfl, _, _, rfl, rfl, _, _, rfl, rfl, _, _, rfl, rfl, rfl⟩
    exact rfl
  · rintro rfl
    exact ⟨[_], _, rfl, rfl, [_], _, rfl, rfl, [_], _, rfl, rfl, [_], _, rfl, rfl, [_], _, rfl, rfl, [_], _, rfl, rfl, rfl⟩
theorem ro_command {h : AHeap} {x : commandSh.T} {cs : List Value} {ids : List Nat} : commandSh.ro h x cs ids ↔ cs = [.int .i64 x.1, .int .i64 x.2.1, .int .i64 x.2.2.1, .string x.2.2.2.1, .string x.2.2.2.2.1, .string x.2.2.2.2.2.1, .int .i64 x.2.2.2.2.2.2] ∧ ids = [] ++ ([] ++ ([] ++ ([] ++ ([] ++ ([] ++ ([])))))) := by
  constructor
  · rintro ⟨_, _, _, _, rfl, rfl, ⟨rfl, rfl⟩, _, _, _, _, rfl, rfl, ⟨rfl, rfl⟩, _, _, _, _, rfl, rfl, ⟨rfl, rfl⟩, _, _, _, _, rfl, rfl, ⟨rfl, rfl⟩, _, _, _, _, rfl, rfl, ⟨rfl, rfl⟩, _, _, _, _, rfl, rfl, ⟨rfl, rfl⟩, rfl, rfl⟩
    exact ⟨rfl, rfl⟩
  · rintro ⟨rfl, rfl⟩
    exact ⟨[_], _, [], _, rfl, rfl, ⟨rfl, rfl⟩, [_], _, [], _, rfl, rfl, ⟨rfl, rfl⟩, [_], _, [], _, rfl, rfl, ⟨rfl, rfl⟩, [_], _, [], _, rfl, rfl, ⟨rfl, rfl⟩, [_], _, [], _, rfl, rfl, ⟨rfl, rfl⟩, [_], _, [], _, rfl, rfl, ⟨rfl, rfl⟩, rfl, rfl⟩
theorem rd_commandOut {h : AHeap} {x : commandOutSh.T} {cs : List Value} : commandOutSh.rd h x cs ↔ cs = [.int .i64 x.1.1, .int .i64 x.1.2.1, .int .i64 x.1.2.2.1, .string x.1.2.2.2.1, .string x.1.2.2.2.2.1, .string x.1.2.2.2.2.2.1, .int .i64 x.1.2.2.2.2.2.2, .int .i64 x.2] := by
  constructor
  · rintro ⟨_, _, rfl, q1, rfl⟩
    obtain rfl := rd_command.1 q1
    exact rfl
  · rintro rfl
    exact ⟨[_, _, _, _, _, _, _], _, rfl, rd_command.2 rfl, rfl⟩
theorem ro_commandOut {h : AHeap} {x : commandOutSh.T} {cs : List Value} {ids : List Nat} : commandOutSh.ro h x cs ids ↔ cs = [.int .i64 x.1.1, .int .i64 x.1.2.1, .int .i64 x.1.2.2.1, .string x.1.2.2.2.1, .string x.1.2.2.2.2.1, .string x.1.2.2.2.2.2.1, .int .i64 x.1.2.2.2.2.2.2, .int .i64 x.2] ∧ ids = ([] ++ ([] ++ ([] ++ ([] ++ ([] ++ ([] ++ ([]))))))) ++ ([]) := by
  constructor
  · rintro ⟨_, _, _, _, rfl, rfl, q1, rfl, rfl⟩
    obtain ⟨rfl, rfl⟩ := ro_command.1 q1
    exact ⟨rfl, rfl⟩
  · rintro ⟨rfl, rfl⟩
    exact ⟨[_, _, _, _, _, _, _], _, _, _, rfl, rfl, ro_command.2 ⟨rfl, rfl⟩, rfl, rfl⟩
theorem rd_group {h : AHeap} {x : groupSh.T} {cs : List Value} : groupSh.rd h x cs ↔ cs = [.string x.1, .int .i64 x.2] := by
  constructor
  · rintro ⟨_, _, rfl, rfl, rfl⟩
    exact rfl
  · rintro rfl
    exact ⟨[_], _, rfl, rfl, rfl⟩
theorem ro_group {h : AHeap} {x : groupSh.T} {cs : List Value} {ids : List Nat} : groupSh.ro h x cs ids ↔ cs = [.string x.1, .int .i64 x.2] ∧ ids = [] ++ ([]) := by
  constructor
  · rintro ⟨_, _, _, _, rfl, rfl, ⟨rfl, rfl⟩, rfl, rfl⟩
    exact ⟨rfl, rfl⟩
  · rintro ⟨rfl, rfl⟩
    exact ⟨[_], _, [], _, rfl, rfl, ⟨rfl, rfl⟩, rfl, rfl⟩
theorem rd_topic {h : AHeap} {x : topicSh.T} {cs : List Value} : topicSh.rd h x cs ↔ ∃ v1 v2, cs = [.string x.1, .int .i64 x.2.1, v1, v2] ∧ Sl h Sh.str x.2.2.1 v1 ∧ Sl h groupSh x.2.2.2 v2 := by
  constructor
  · rintro ⟨_, _, rfl, rfl, _, _, rfl, rfl, _, _, rfl, q1, q2⟩
    obtain ⟨v1, rfl, k1⟩ := rd_sl.1 q1
    obtain ⟨v2, rfl, k2⟩ := rd_sl.1 q2
    exact ⟨v1, v2, rfl, k1, k2⟩
  · rintro ⟨v1, v2, rfl, k1, k2⟩
    exact ⟨[_], _, rfl, rfl, [_], _, rfl, rfl, [_], _, rfl, rd_sl.2 ⟨_, rfl, k1⟩, rd_sl.2 ⟨_, rfl, k2⟩⟩
theorem ro_topic {h : AHeap} {x : topicSh.T} {cs : List Value} {ids : List Nat} : topicSh.ro h x cs ids ↔ ∃ v1 v2 j1 j2, cs = [.string x.1, .int .i64 x.2.1, v1, v2] ∧ ids = [] ++ ([] ++ (j1 ++ (j2))) ∧ So h Sh.str x.2.2.1 v1 j1 ∧ So h groupSh x.2.2.2 v2 j2 := by
  constructor
  · rintro ⟨_, _, _, _, rfl, rfl, ⟨rfl, rfl⟩, _, _, _, _, rfl, rfl, ⟨rfl, rfl⟩, _, _, _, _, rfl, rfl, q1, q2⟩
    obtain ⟨v1, rfl, k1⟩ := ro_sl.1 q1
    obtain ⟨v2, rfl, k2⟩ := ro_sl.1 q2
    exact ⟨v1, v2, _, _, rfl, rfl, k1, k2⟩
  · rintro ⟨v1, v2, j1, j2, rfl, rfl, k1, k2⟩
    exact ⟨[_], _, [], _, rfl, rfl, ⟨rfl, rfl⟩, [_], _, [], _, rfl, rfl, ⟨rfl, rfl⟩, [_], _, j1, _, rfl, rfl, ro_sl.2 ⟨_, rfl, k1⟩, ro_sl.2 ⟨_, rfl, k2⟩⟩
theorem rd_topicOut {h : AHeap} {x : topicOutSh.T} {cs : List Value} : topicOutSh.rd h x cs ↔ ∃ v1 v2 v3, cs = [.string x.1.1, .int .i64 x.1.2.1, v1, v2, v3, .int .i64 x.2.2.1, .int .i64 x.2.2.2] ∧ Sl h Sh.str x.1.2.2.1 v1 ∧ Sl h groupSh x.1.2.2.2 v2 ∧ Sl h Sh.str x.2.1 v3 := by
  constructor
  · rintro ⟨_, _, rfl, q1, _, _, rfl, q2, _, _, rfl, rfl, rfl⟩
    obtain ⟨w1_0, w1_1, rfl, j1_0, j1_1⟩ := rd_topic.1 q1
    obtain ⟨v2, rfl, k2⟩ := rd_sl.1 q2
    exact ⟨w1_0, w1_1, v2, rfl, j1_0, j1_1, k2⟩
  · rintro ⟨v1, v2, v3, rfl, k1, k2, k3⟩
    exact ⟨[_, _, _, _], _, rfl, rd_topic.2 ⟨_, _, rfl, k1, k2⟩, [_], _, rfl, rd_sl.2 ⟨_, rfl, k3⟩, [_], _, rfl, rfl, rfl⟩
theorem ro_topicOut {h : AHeap} {x : topicOutSh.T} {cs : List Value} {ids : List Nat} : topicOutSh.ro h x cs ids ↔ ∃ v1 v2 v3 j1 j2 j3, cs = [.string x.1.1, .int .i64 x.1.2.1, v1, v2, v3, .int .i64 x.2.2.1, .int .i64 x.2.2.2] ∧ ids = ([] ++ ([] ++ (j1 ++ (j2)))) ++ (j3 ++ ([] ++ ([]))) ∧ So h Sh.str x.1.2.2.1 v1 j1 ∧ So h groupSh x.1.2.2.2 v2 j2 ∧ So h Sh.str x.2.1 v3 j3 := by
  constructor
  · rintro ⟨_, _, _, _, rfl, rfl, q1, _, _, _, _, rfl, rfl, q2, _, _, _, _, rfl, rfl, ⟨rfl, rfl⟩, rfl, rfl⟩
    obtain ⟨w1_0, w1_1, i1_0, i1_1, rfl, rfl, k1_0, k1_1⟩ := ro_topic.1 q1
    obtain ⟨v2, rfl, k2⟩ := ro_sl.1 q2
    exact ⟨w1_0, w1_1, v2, _, _, _, rfl, rfl, k1_0, k1_1, k2⟩
  · rintro ⟨v1, v2, v3, j1, j2, j3, rfl, rfl, k1, k2, k3⟩
    exact ⟨[_, _, _, _], _, _, _, rfl, rfl, ro_topic.2 ⟨_, _, j1, j2, rfl, rfl, k1, k2⟩, [_], _, j3, _, rfl, rfl, ro_sl.2 ⟨_, rfl, k3⟩, [_], _, [], _, rfl, rfl, ⟨rfl, rfl⟩, rfl, rfl⟩
theorem rd_reply {h : AHeap} {x : replySh.T} {cs : List Value} : replySh.rd h x cs ↔ cs = [.int .i64 x.1, .int .i64 x.2.1, .string x.2.2] := by
  constructor
  · rintro ⟨_, _, rfl, rfl, _, _, rfl, rfl, rfl⟩
    exact rfl
  · rintro rfl
    exact ⟨[_], _, rfl, rfl, [_], _, rfl, rfl, rfl⟩
theorem ro_reply {h : AHeap} {x : replySh.T} {cs : List Value} {ids : List Nat} : replySh.ro h x cs ids ↔ cs = [.int .i64 x.1, .int .i64 x.2.1, .string x.2.2] ∧ ids = [] ++ ([] ++ ([])) := by
  constructor
  · rintro ⟨_, _, _, _, rfl, rfl, ⟨rfl, rfl⟩, _, _, _, _, rfl, rfl, ⟨rfl, rfl⟩, rfl, rfl⟩
    exact ⟨rfl, rfl⟩
  · rintro ⟨rfl, rfl⟩
    exact ⟨[_], _, [], _, rfl, rfl, ⟨rfl, rfl⟩, [_], _, [], _, rfl, rfl, ⟨rfl, rfl⟩, rfl, rfl⟩
theorem rd_broker {h : AHeap} {x : brokerSh.T} {cs : List Value} : brokerSh.rd h x cs ↔ ∃ v1 v2, cs = [v1, v2] ∧ Sl h topicSh x.1 v1 ∧ Sl h replySh x.2 v2 := by
  constructor
  · rintro ⟨_, _, rfl, q1, q2⟩
    obtain ⟨v1, rfl, k1⟩ := rd_sl.1 q1
    obtain ⟨v2, rfl, k2⟩ := rd_sl.1 q2
    exact ⟨v1, v2, rfl, k1, k2⟩
  · rintro ⟨v1, v2, rfl, k1, k2⟩
    exact ⟨[_], _, rfl, rd_sl.2 ⟨_, rfl, k1⟩, rd_sl.2 ⟨_, rfl, k2⟩⟩
theorem ro_broker {h : AHeap} {x : brokerSh.T} {cs : List Value} {ids : List Nat} : brokerSh.ro h x cs ids ↔ ∃ v1 v2 j1 j2, cs = [v1, v2] ∧ ids = j1 ++ (j2) ∧ So h topicSh x.1 v1 j1 ∧ So h replySh x.2 v2 j2 := by
  constructor
  · rintro ⟨_, _, _, _, rfl, rfl, q1, q2⟩
    obtain ⟨v1, rfl, k1⟩ := ro_sl.1 q1
    obtain ⟨v2, rfl, k2⟩ := ro_sl.1 q2
    exact ⟨v1, v2, _, _, rfl, rfl, k1, k2⟩
  · rintro ⟨v1, v2, j1, j2, rfl, rfl, k1, k2⟩
    exact ⟨[_], _, j1, _, rfl, rfl, ro_sl.2 ⟨_, rfl, k1⟩, ro_sl.2 ⟨_, rfl, k2⟩⟩
theorem rd_brokerOut {h : AHeap} {x : brokerOutSh.T} {cs : List Value} : brokerOutSh.rd h x cs ↔ ∃ v1 v2, cs = [v1, v2, .string x.2.1, .int .i64 x.2.2] ∧ Sl h topicSh x.1.1 v1 ∧ Sl h replySh x.1.2 v2 := by
  constructor
  · rintro ⟨_, _, rfl, q1, _, _, rfl, rfl, rfl⟩
    obtain ⟨w1_0, w1_1, rfl, j1_0, j1_1⟩ := rd_broker.1 q1
    exact ⟨w1_0, w1_1, rfl, j1_0, j1_1⟩
  · rintro ⟨v1, v2, rfl, k1, k2⟩
    exact ⟨[_, _], _, rfl, rd_broker.2 ⟨_, _, rfl, k1, k2⟩, [_], _, rfl, rfl, rfl⟩
theorem ro_brokerOut {h : AHeap} {x : brokerOutSh.T} {cs : List Value} {ids : List Nat} : brokerOutSh.ro h x cs ids ↔ ∃ v1 v2 j1 j2, cs = [v1, v2, .string x.2.1, .int .i64 x.2.2] ∧ ids = (j1 ++ (j2)) ++ ([] ++ ([])) ∧ So h topicSh x.1.1 v1 j1 ∧ So h replySh x.1.2 v2 j2 := by
  constructor
  · rintro ⟨_, _, _, _, rfl, rfl, q1, _, _, _, _, rfl, rfl, ⟨rfl, rfl⟩, rfl, rfl⟩
    obtain ⟨w1_0, w1_1, i1_0, i1_1, rfl, rfl, k1_0, k1_1⟩ := ro_broker.1 q1
    exact ⟨w1_0, w1_1, _, _, rfl, rfl, k1_0, k1_1⟩
  · rintro ⟨v1, v2, j1, j2, rfl, rfl, k1, k2⟩
    exact ⟨[_, _], _, _, _, rfl, rfl, ro_broker.2 ⟨_, _, j1, j2, rfl, rfl, k1, k2⟩, [_], _, [], _, rfl, rfl, ⟨rfl, rfl⟩, rfl, rfl⟩
theorem rd_proof {h : AHeap} {x : proofSh.T} {cs : List Value} : proofSh.rd h x cs ↔ ∃ v1, cs = [.int .i64 x.1, .int .i64 x.2.1, .string x.2.2.1, v1] ∧ Sl h Sh.int x.2.2.2 v1 := by
  constructor
  · rintro ⟨_, _, rfl, rfl, _, _, rfl, rfl, _, _, rfl, rfl, q1⟩
    obtain ⟨v1, rfl, k1⟩ := rd_sl.1 q1
    exact ⟨v1, rfl, k1⟩
  · rintro ⟨v1, rfl, k1⟩
    exact ⟨[_], _, rfl, rfl, [_], _, rfl, rfl, [_], _, rfl, rfl, rd_sl.2 ⟨_, rfl, k1⟩⟩
theorem ro_proof {h : AHeap} {x : proofSh.T} {cs : List Value} {ids : List Nat} : proofSh.ro h x cs ids ↔ ∃ v1 j1, cs = [.int .i64 x.1, .int .i64 x.2.1, .string x.2.2.1, v1] ∧ ids = [] ++ ([] ++ ([] ++ (j1))) ∧ So h Sh.int x.2.2.2 v1 j1 := by
  constructor
  · rintro ⟨_, _, _, _, rfl, rfl, ⟨rfl, rfl⟩, _, _, _, _, rfl, rfl, ⟨rfl, rfl⟩, _, _, _, _, rfl, rfl, ⟨rfl, rfl⟩, q1⟩
    obtain ⟨v1, rfl, k1⟩ := ro_sl.1 q1
    exact ⟨v1, _, rfl, rfl, k1⟩
  · rintro ⟨v1, j1, rfl, rfl, k1⟩
    exact ⟨[_], _, [], _, rfl, rfl, ⟨rfl, rfl⟩, [_], _, [], _, rfl, rfl, ⟨rfl, rfl⟩, [_], _, [], _, rfl, rfl, ⟨rfl, rfl⟩, ro_sl.2 ⟨_, rfl, k1⟩⟩
theorem rd_change {h : AHeap} {x : changeSh.T} {cs : List Value} : changeSh.rd h x cs ↔ ∃ v1, cs = [.int .i64 x.1, .int .i64 x.2.1, v1] ∧ Sl h proofSh x.2.2 v1 := by
  constructor
  · rintro ⟨_, _, rfl, rfl, _, _, rfl, rfl, q1⟩
    obtain ⟨v1, rfl, k1⟩ := rd_sl.1 q1
    exact ⟨v1, rfl, k1⟩
  · rintro ⟨v1, rfl, k1⟩
    exact ⟨[_], _, rfl, rfl, [_], _, rfl, rfl, rd_sl.2 ⟨_, rfl, k1⟩⟩
theorem ro_change {h : AHeap} {x : changeSh.T} {cs : List Value} {ids : List Nat} : changeSh.ro h x cs ids ↔ ∃ v1 j1, cs = [.int .i64 x.1, .int .i64 x.2.1, v1] ∧ ids = [] ++ ([] ++ (j1)) ∧ So h proofSh x.2.2 v1 j1 := by
  constructor
  · rintro ⟨_, _, _, _, rfl, rfl, ⟨rfl, rfl⟩, _, _, _, _, rfl, rfl, ⟨rfl, rfl⟩, q1⟩
    obtain ⟨v1, rfl, k1⟩ := ro_sl.1 q1
    exact ⟨v1, _, rfl, rfl, k1⟩
  · rintro ⟨v1, j1, rfl, rfl, k1⟩
    exact ⟨[_], _, [], _, rfl, rfl, ⟨rfl, rfl⟩, [_], _, [], _, rfl, rfl, ⟨rfl, rfl⟩, ro_sl.2 ⟨_, rfl, k1⟩⟩
theorem rd_say {h : AHeap} {x : saySh.T} {cs : List Value} : saySh.rd h x cs ↔ ∃ v1, cs = [.int .i64 x.1, .int .i64 x.2.1, .int .i64 x.2.2.1, .int .i64 x.2.2.2.1, .string x.2.2.2.2.1, v1] ∧ Sl h changeSh x.2.2.2.2.2 v1 := by
  constructor
  · rintro ⟨_, _, rfl, rfl, _, _, rfl, rfl, _, _, rfl, rfl, _, _, rfl, rfl, _, _, rfl, rfl, q1⟩
    obtain ⟨v1, rfl, k1⟩ := rd_sl.1 q1
    exact ⟨v1, rfl, k1⟩
  · rintro ⟨v1, rfl, k1⟩
    exact ⟨[_], _, rfl, rfl, [_], _, rfl, rfl, [_], _, rfl, rfl, [_], _, rfl, rfl, [_], _, rfl, rfl, rd_sl.2 ⟨_, rfl, k1⟩⟩
theorem ro_say {h : AHeap} {x : saySh.T} {cs : List Value} {ids : List Nat} : saySh.ro h x cs ids ↔ ∃ v1 j1, cs = [.int .i64 x.1, .int .i64 x.2.1, .int .i64 x.2.2.1, .int .i64 x.2.2.2.1, .string x.2.2.2.2.1, v1] ∧ ids = [] ++ ([] ++ ([] ++ ([] ++ ([] ++ (j1))))) ∧ So h changeSh x.2.2.2.2.2 v1 j1 := by
  constructor
  · rintro ⟨_, _, _, _, rfl, rfl, ⟨rfl, rfl⟩, _, _, _, _, rfl, rfl, ⟨rfl, rfl⟩, _, _, _, _, rfl, rfl, ⟨rfl, rfl⟩, _, _, _, _, rfl, rfl, ⟨rfl, rfl⟩, _, _, _, _, rfl, rfl, ⟨rfl, rfl⟩, q1⟩
    obtain ⟨v1, rfl, k1⟩ := ro_sl.1 q1
    exact ⟨v1, _, rfl, rfl, k1⟩
  · rintro ⟨v1, j1, rfl, rfl, k1⟩
    exact ⟨[_], _, [], _, rfl, rfl, ⟨rfl, rfl⟩, [_], _, [], _, rfl, rfl, ⟨rfl, rfl⟩, [_], _, [], _, rfl, rfl, ⟨rfl, rfl⟩, [_], _, [], _, rfl, rfl, ⟨rfl, rfl⟩, [_], _, [], _, rfl, rfl, ⟨rfl, rfl⟩, ro_sl.2 ⟨_, rfl, k1⟩⟩
theorem rd_sayOut {h : AHeap} {x : sayOutSh.T} {cs : List Value} : sayOutSh.rd h x cs ↔ ∃ v1, cs = [.int .i64 x.1.1, .int .i64 x.1.2.1, .int .i64 x.1.2.2.1, .int .i64 x.1.2.2.2.1, .string x.1.2.2.2.2.1, v1, .int .i64 x.2] ∧ Sl h changeSh x.1.2.2.2.2.2 v1 := by
  constructor
  · rintro ⟨_, _, rfl, q1, rfl⟩
    obtain ⟨w1_0, rfl, j1_0⟩ := rd_say.1 q1
    exact ⟨w1_0, rfl, j1_0⟩
  · rintro ⟨v1, rfl, k1⟩
    exact ⟨[_, _, _, _, _, _], _, rfl, rd_say.2 ⟨_, rfl, k1⟩, rfl⟩
theorem ro_sayOut {h : AHeap} {x : sayOutSh.T} {cs : List Value} {ids : List Nat} : sayOutSh.ro h x cs ids ↔ ∃ v1 j1, cs = [.int .i64 x.1.1, .int .i64 x.1.2.1, .int .i64 x.1.2.2.1, .int .i64 x.1.2.2.2.1, .string x.1.2.2.2.2.1, v1, .int .i64 x.2] ∧ ids = ([] ++ ([] ++ ([] ++ ([] ++ ([] ++ (j1)))))) ++ ([]) ∧ So h changeSh x.1.2.2.2.2.2 v1 j1 := by
  constructor
  · rintro ⟨_, _, _, _, rfl, rfl, q1, rfl, rfl⟩
    obtain ⟨w1_0, i1_0, rfl, rfl, k1_0⟩ := ro_say.1 q1
    exact ⟨w1_0, _, rfl, rfl, k1_0⟩
  · rintro ⟨v1, j1, rfl, rfl, k1⟩
    exact ⟨[_, _, _, _, _, _], _, _, _, rfl, rfl, ro_say.2 ⟨_, j1, rfl, rfl, k1⟩, rfl, rfl⟩
theorem rd_vote {h : AHeap} {x : voteSh.T} {cs : List Value} : voteSh.rd h x cs ↔ cs = [.int .i64 x.1, .int .i64 x.2.1, .int .i64 x.2.2.1, .string x.2.2.2.1, .int .i64 x.2.2.2.2] := by
  constructor
  · rintro ⟨_, _, rfl, rfl, _, _, rfl, rfl, _, _, rfl, rfl, _, _, rfl, rfl, rfl⟩
    exact rfl
  · rintro rfl
    exact ⟨[_], _, rfl, rfl, [_], _, rfl, rfl, [_], _, rfl, rfl, [_], _, rfl, rfl, rfl⟩
theorem ro_vote {h : AHeap} {x : voteSh.T} {cs : List Value} {ids : List Nat} : voteSh.ro h x cs ids ↔ cs = [.int .i64 x.1, .int .i64 x.2.1, .int .i64 x.2.2.1, .string x.2.2.2.1, .int .i64 x.2.2.2.2] ∧ ids = [] ++ ([] ++ ([] ++ ([] ++ ([])))) := by
  constructor
  · rintro ⟨_, _, _, _, rfl, rfl, ⟨rfl, rfl⟩, _, _, _, _, rfl, rfl, ⟨rfl, rfl⟩, _, _, _, _, rfl, rfl, ⟨rfl, rfl⟩, _, _, _, _, rfl, rfl, ⟨rfl, rfl⟩, rfl, rfl⟩
    exact ⟨rfl, rfl⟩
  · rintro ⟨rfl, rfl⟩
    exact ⟨[_], _, [], _, rfl, rfl, ⟨rfl, rfl⟩, [_], _, [], _, rfl, rfl, ⟨rfl, rfl⟩, [_], _, [], _, rfl, rfl, ⟨rfl, rfl⟩, [_], _, [], _, rfl, rfl, ⟨rfl, rfl⟩, rfl, rfl⟩
theorem rd_votesOut {h : AHeap} {x : votesOutSh.T} {cs : List Value} : votesOutSh.rd h x cs ↔ ∃ v1, cs = [v1, .bool x.2.1, .int .i64 x.2.2] ∧ Sl h voteSh x.1 v1 := by
  constructor
  · rintro ⟨_, _, rfl, q1, _, _, rfl, rfl, rfl⟩
    obtain ⟨v1, rfl, k1⟩ := rd_sl.1 q1
    exact ⟨v1, rfl, k1⟩
  · rintro ⟨v1, rfl, k1⟩
    exact ⟨[_], _, rfl, rd_sl.2 ⟨_, rfl, k1⟩, [_], _, rfl, rfl, rfl⟩
theorem ro_votesOut {h : AHeap} {x : votesOutSh.T} {cs : List Value} {ids : List Nat} : votesOutSh.ro h x cs ids ↔ ∃ v1 j1, cs = [v1, .bool x.2.1, .int .i64 x.2.2] ∧ ids = j1 ++ ([] ++ ([])) ∧ So h voteSh x.1 v1 j1 := by
  constructor
  · rintro ⟨_, _, _, _, rfl, rfl, q1, _, _, _, _, rfl, rfl, ⟨rfl, rfl⟩, rfl, rfl⟩
    obtain ⟨v1, rfl, k1⟩ := ro_sl.1 q1
    exact ⟨v1, _, rfl, rfl, k1⟩
  · rintro ⟨v1, j1, rfl, rfl, k1⟩
    exact ⟨[_], _, j1, _, rfl, rfl, ro_sl.2 ⟨_, rfl, k1⟩, [_], _, [], _, rfl, rfl, ⟨rfl, rfl⟩, rfl, rfl⟩
theorem rd_fresh {h : AHeap} {x : freshSh.T} {cs : List Value} : freshSh.rd h x cs ↔ cs = [.int .i64 x.1, .string x.2] := by
  constructor
  · rintro ⟨_, _, rfl, rfl, rfl⟩
    exact rfl
  · rintro rfl
    exact ⟨[_], _, rfl, rfl, rfl⟩
theorem ro_fresh {h : AHeap} {x : freshSh.T} {cs : List Value} {ids : List Nat} : freshSh.ro h x cs ids ↔ cs = [.int .i64 x.1, .string x.2] ∧ ids = [] ++ ([]) := by
  constructor
  · rintro ⟨_, _, _, _, rfl, rfl, ⟨rfl, rfl⟩, rfl, rfl⟩
    exact ⟨rfl, rfl⟩
  · rintro ⟨rfl, rfl⟩
    exact ⟨[_], _, [], _, rfl, rfl, ⟨rfl, rfl⟩, rfl, rfl⟩
theorem rd_replica {h : AHeap} {x : replicaSh.T} {cs : List Value} : replicaSh.rd h x cs ↔ ∃ v1 v2 v3 v4, cs = [.int .i64 x.1, .int .i64 x.2.1, .bool x.2.2.1, .int .i64 x.2.2.2.1, v1, v2, .int .i64 x.2.2.2.2.2.2.1.1, .int .i64 x.2.2.2.2.2.2.1.2.1, .int .i64 x.2.2.2.2.2.2.1.2.2.1, .int .i64 x.2.2.2.2.2.2.1.2.2.2.1, .string x.2.2.2.2.2.2.1.2.2.2.2.1, v3, v4] ∧ Sl h voteSh x.2.2.2.2.1 v1 ∧ Sl h changeSh x.2.2.2.2.2.1 v2 ∧ Sl h changeSh x.2.2.2.2.2.2.1.2.2.2.2.2 v3 ∧ Sl h Sh.str x.2.2.2.2.2.2.2 v4 := by
  constructor
  · rintro ⟨_, _, rfl, rfl, _, _, rfl, rfl, _, _, rfl, rfl, _, _, rfl, rfl, _, _, rfl, q1, _, _, rfl, q2, _, _, rfl, q3, q4⟩
    obtain ⟨v1, rfl, k1⟩ := rd_sl.1 q1
    obtain ⟨v2, rfl, k2⟩ := rd_sl.1 q2
    obtain ⟨w3_0, rfl, j3_0⟩ := rd_say.1 q3
    obtain ⟨v4, rfl, k4⟩ := rd_sl.1 q4
    exact ⟨v1, v2, w3_0, v4, rfl, k1, k2, j3_0, k4⟩
  · rintro ⟨v1, v2, v3, v4, rfl, k1, k2, k3, k4⟩
    exact ⟨[_], _, rfl, rfl, [_], _, rfl, rfl, [_], _, rfl, rfl, [_], _, rfl, rfl, [_], _, rfl, rd_sl.2 ⟨_, rfl, k1⟩, [_], _, rfl, rd_sl.2 ⟨_, rfl, k2⟩, [_, _, _, _, _, _], _, rfl, rd_say.2 ⟨_, rfl, k3⟩, rd_sl.2 ⟨_, rfl, k4⟩⟩
theorem ro_replica {h : AHeap} {x : replicaSh.T} {cs : List Value} {ids : List Nat} : replicaSh.ro h x cs ids ↔ ∃ v1 v2 v3 v4 j1 j2 j3 j4, cs = [.int .i64 x.1, .int .i64 x.2.1, .bool x.2.2.1, .int .i64 x.2.2.2.1, v1, v2, .int .i64 x.2.2.2.2.2.2.1.1, .int .i64 x.2.2.2.2.2.2.1.2.1, .int .i64 x.2.2.2.2.2.2.1.2.2.1, .int .i64 x.2.2.2.2.2.2.1.2.2.2.1, .string x.2.2.2.2.2.2.1.2.2.2.2.1, v3, v4] ∧ ids = [] ++ ([] ++ ([] ++ ([] ++ (j1 ++ (j2 ++ (([] ++ ([] ++ ([] ++ ([] ++ ([] ++ (j3)))))) ++ (j4))))))) ∧ So h voteSh x.2.2.2.2.1 v1 j1 ∧ So h changeSh x.2.2.2.2.2.1 v2 j2 ∧ So h changeSh x.2.2.2.2.2.2.1.2.2.2.2.2 v3 j3 ∧ So h Sh.str x.2.2.2.2.2.2.2 v4 j4 := by
  constructor
  · rintro ⟨_, _, _, _, rfl, rfl, ⟨rfl, rfl⟩, _, _, _, _, rfl, rfl, ⟨rfl, rfl⟩, _, _, _, _, rfl, rfl, ⟨rfl, rfl⟩, _, _, _, _, rfl, rfl, ⟨rfl, rfl⟩, _, _, _, _, rfl, rfl, q1, _, _, _, _, rfl, rfl, q2, _, _, _, _, rfl, rfl, q3, q4⟩
    obtain ⟨v1, rfl, k1⟩ := ro_sl.1 q1
    obtain ⟨v2, rfl, k2⟩ := ro_sl.1 q2
    obtain ⟨w3_0, i3_0, rfl, rfl, k3_0⟩ := ro_say.1 q3
    obtain ⟨v4, rfl, k4⟩ := ro_sl.1 q4
    exact ⟨v1, v2, w3_0, v4, _, _, _, _, rfl, rfl, k1, k2, k3_0, k4⟩
  · rintro ⟨v1, v2, v3, v4, j1, j2, j3, j4, rfl, rfl, k1, k2, k3, k4⟩
    exact ⟨[_], _, [], _, rfl, rfl, ⟨rfl, rfl⟩, [_], _, [], _, rfl, rfl, ⟨rfl, rfl⟩, [_], _, [], _, rfl, rfl, ⟨rfl, rfl⟩, [_], _, [], _, rfl, rfl, ⟨rfl, rfl⟩, [_], _, j1, _, rfl, rfl, ro_sl.2 ⟨_, rfl, k1⟩, [_], _, j2, _, rfl, rfl, ro_sl.2 ⟨_, rfl, k2⟩, [_, _, _, _, _, _], _, _, _, rfl, rfl, ro_say.2 ⟨_, j3, rfl, rfl, k3⟩, ro_sl.2 ⟨_, rfl, k4⟩⟩
theorem rd_replicaOut {h : AHeap} {x : replicaOutSh.T} {cs : List Value} : replicaOutSh.rd h x cs ↔ ∃ v1 v2 v3 v4 v5, cs = [.int .i64 x.1.1, .int .i64 x.1.2.1, .bool x.1.2.2.1, .int .i64 x.1.2.2.2.1, v1, v2, .int .i64 x.1.2.2.2.2.2.2.1.1, .int .i64 x.1.2.2.2.2.2.2.1.2.1, .int .i64 x.1.2.2.2.2.2.2.1.2.2.1, .int .i64 x.1.2.2.2.2.2.2.1.2.2.2.1, .string x.1.2.2.2.2.2.2.1.2.2.2.2.1, v3, v4, v5, .int .i64 x.2.2] ∧ Sl h voteSh x.1.2.2.2.2.1 v1 ∧ Sl h changeSh x.1.2.2.2.2.2.1 v2 ∧ Sl h changeSh x.1.2.2.2.2.2.2.1.2.2.2.2.2 v3 ∧ Sl h Sh.str x.1.2.2.2.2.2.2.2 v4 ∧ Sl h saySh x.2.1 v5 := by
  constructor
  · rintro ⟨_, _, rfl, q1, _, _, rfl, q2, rfl⟩
    obtain ⟨w1_0, w1_1, w1_2, w1_3, rfl, j1_0, j1_1, j1_2, j1_3⟩ := rd_replica.1 q1
    obtain ⟨v2, rfl, k2⟩ := rd_sl.1 q2
    exact ⟨w1_0, w1_1, w1_2, w1_3, v2, rfl, j1_0, j1_1, j1_2, j1_3, k2⟩
  · rintro ⟨v1, v2, v3, v4, v5, rfl, k1, k2, k3, k4, k5⟩
    exact ⟨[_, _, _, _, _, _, _, _, _, _, _, _, _], _, rfl, rd_replica.2 ⟨_, _, _, _, rfl, k1, k2, k3, k4⟩, [_], _, rfl, rd_sl.2 ⟨_, rfl, k5⟩, rfl⟩
theorem ro_replicaOut {h : AHeap} {x : replicaOutSh.T} {cs : List Value} {ids : List Nat} : replicaOutSh.ro h x cs ids ↔ ∃ v1 v2 v3 v4 v5 j1 j2 j3 j4 j5, cs = [.int .i64 x.1.1, .int .i64 x.1.2.1, .bool x.1.2.2.1, .int .i64 x.1.2.2.2.1, v1, v2, .int .i64 x.1.2.2.2.2.2.2.1.1, .int .i64 x.1.2.2.2.2.2.2.1.2.1, .int .i64 x.1.2.2.2.2.2.2.1.2.2.1, .int .i64 x.1.2.2.2.2.2.2.1.2.2.2.1, .string x.1.2.2.2.2.2.2.1.2.2.2.2.1, v3, v4, v5, .int .i64 x.2.2] ∧ ids = ([] ++ ([] ++ ([] ++ ([] ++ (j1 ++ (j2 ++ (([] ++ ([] ++ ([] ++ ([] ++ ([] ++ (j3)))))) ++ (j4)))))))) ++ (j5 ++ ([])) ∧ So h voteSh x.1.2.2.2.2.1 v1 j1 ∧ So h changeSh x.1.2.2.2.2.2.1 v2 j2 ∧ So h changeSh x.1.2.2.2.2.2.2.1.2.2.2.2.2 v3 j3 ∧ So h Sh.str x.1.2.2.2.2.2.2.2 v4 j4 ∧ So h saySh x.2.1 v5 j5 := by
  constructor
  · rintro ⟨_, _, _, _, rfl, rfl, q1, _, _, _, _, rfl, rfl, q2, rfl, rfl⟩
    obtain ⟨w1_0, w1_1, w1_2, w1_3, i1_0, i1_1, i1_2, i1_3, rfl, rfl, k1_0, k1_1, k1_2, k1_3⟩ := ro_replica.1 q1
    obtain ⟨v2, rfl, k2⟩ := ro_sl.1 q2
    exact ⟨w1_0, w1_1, w1_2, w1_3, v2, _, _, _, _, _, rfl, rfl, k1_0, k1_1, k1_2, k1_3, k2⟩
  · rintro ⟨v1, v2, v3, v4, v5, j1, j2, j3, j4, j5, rfl, rfl, k1, k2, k3, k4, k5⟩
    exact ⟨[_, _, _, _, _, _, _, _, _, _, _, _, _], _, _, _, rfl, rfl, ro_replica.2 ⟨_, _, _, _, j1, j2, j3, j4, rfl, rfl, k1, k2, k3, k4⟩, [_], _, j5, _, rfl, rfl, ro_sl.2 ⟨_, rfl, k5⟩, rfl, rfl⟩
theorem rd_keeper {h : AHeap} {x : keeperSh.T} {cs : List Value} : keeperSh.rd h x cs ↔ ∃ v1 v2 v3 v4 v5, cs = [v1, .int .i64 x.1.2.1, .int .i64 x.1.2.2, .int .i64 x.2.1, .int .i64 x.2.2.1, .bool x.2.2.2.1, .int .i64 x.2.2.2.2.1, v2, v3, .int .i64 x.2.2.2.2.2.2.2.1.1, .int .i64 x.2.2.2.2.2.2.2.1.2.1, .int .i64 x.2.2.2.2.2.2.2.1.2.2.1, .int .i64 x.2.2.2.2.2.2.2.1.2.2.2.1, .string x.2.2.2.2.2.2.2.1.2.2.2.2.1, v4, v5] ∧ Sl h fileSh x.1.1 v1 ∧ Sl h voteSh x.2.2.2.2.2.1 v2 ∧ Sl h changeSh x.2.2.2.2.2.2.1 v3 ∧ Sl h changeSh x.2.2.2.2.2.2.2.1.2.2.2.2.2 v4 ∧ Sl h Sh.str x.2.2.2.2.2.2.2.2 v5 := by
  constructor
  · rintro ⟨_, _, rfl, q1, q2⟩
    obtain ⟨w1_0, rfl, j1_0⟩ := rd_seglog.1 q1
    obtain ⟨w2_0, w2_1, w2_2, w2_3, rfl, j2_0, j2_1, j2_2, j2_3⟩ := rd_replica.1 q2
    exact ⟨w1_0, w2_0, w2_1, w2_2, w2_3, rfl, j1_0, j2_0, j2_1, j2_2, j2_3⟩
  · rintro ⟨v1, v2, v3, v4, v5, rfl, k1, k2, k3, k4, k5⟩
    exact ⟨[_, _, _], _, rfl, rd_seglog.2 ⟨_, rfl, k1⟩, rd_replica.2 ⟨_, _, _, _, rfl, k2, k3, k4, k5⟩⟩
theorem ro_keeper {h : AHeap} {x : keeperSh.T} {cs : List Value} {ids : List Nat} : keeperSh.ro h x cs ids ↔ ∃ v1 v2 v3 v4 v5 j1 j2 j3 j4 j5, cs = [v1, .int .i64 x.1.2.1, .int .i64 x.1.2.2, .int .i64 x.2.1, .int .i64 x.2.2.1, .bool x.2.2.2.1, .int .i64 x.2.2.2.2.1, v2, v3, .int .i64 x.2.2.2.2.2.2.2.1.1, .int .i64 x.2.2.2.2.2.2.2.1.2.1, .int .i64 x.2.2.2.2.2.2.2.1.2.2.1, .int .i64 x.2.2.2.2.2.2.2.1.2.2.2.1, .string x.2.2.2.2.2.2.2.1.2.2.2.2.1, v4, v5] ∧ ids = (j1 ++ ([] ++ ([]))) ++ (([] ++ ([] ++ ([] ++ ([] ++ (j2 ++ (j3 ++ (([] ++ ([] ++ ([] ++ ([] ++ ([] ++ (j4)))))) ++ (j5))))))))) ∧ So h fileSh x.1.1 v1 j1 ∧ So h voteSh x.2.2.2.2.2.1 v2 j2 ∧ So h changeSh x.2.2.2.2.2.2.1 v3 j3 ∧ So h changeSh x.2.2.2.2.2.2.2.1.2.2.2.2.2 v4 j4 ∧ So h Sh.str x.2.2.2.2.2.2.2.2 v5 j5 := by
  constructor
  · rintro ⟨_, _, _, _, rfl, rfl, q1, q2⟩
    obtain ⟨w1_0, i1_0, rfl, rfl, k1_0⟩ := ro_seglog.1 q1
    obtain ⟨w2_0, w2_1, w2_2, w2_3, i2_0, i2_1, i2_2, i2_3, rfl, rfl, k2_0, k2_1, k2_2, k2_3⟩ := ro_replica.1 q2
    exact ⟨w1_0, w2_0, w2_1, w2_2, w2_3, _, _, _, _, _, rfl, rfl, k1_0, k2_0, k2_1, k2_2, k2_3⟩
  · rintro ⟨v1, v2, v3, v4, v5, j1, j2, j3, j4, j5, rfl, rfl, k1, k2, k3, k4, k5⟩
    exact ⟨[_, _, _], _, _, _, rfl, rfl, ro_seglog.2 ⟨_, j1, rfl, rfl, k1⟩, ro_replica.2 ⟨_, _, _, _, j2, j3, j4, j5, rfl, rfl, k2, k3, k4, k5⟩⟩
theorem rd_keeperOut {h : AHeap} {x : keeperOutSh.T} {cs : List Value} : keeperOutSh.rd h x cs ↔ ∃ v1 v2 v3 v4 v5 v6, cs = [v1, .int .i64 x.1.1.2.1, .int .i64 x.1.1.2.2, .int .i64 x.1.2.1, .int .i64 x.1.2.2.1, .bool x.1.2.2.2.1, .int .i64 x.1.2.2.2.2.1, v2, v3, .int .i64 x.1.2.2.2.2.2.2.2.1.1, .int .i64 x.1.2.2.2.2.2.2.2.1.2.1, .int .i64 x.1.2.2.2.2.2.2.2.1.2.2.1, .int .i64 x.1.2.2.2.2.2.2.2.1.2.2.2.1, .string x.1.2.2.2.2.2.2.2.1.2.2.2.2.1, v4, v5, v6, .int .i64 x.2.2] ∧ Sl h fileSh x.1.1.1 v1 ∧ Sl h voteSh x.1.2.2.2.2.2.1 v2 ∧ Sl h changeSh x.1.2.2.2.2.2.2.1 v3 ∧ Sl h changeSh x.1.2.2.2.2.2.2.2.1.2.2.2.2.2 v4 ∧ Sl h Sh.str x.1.2.2.2.2.2.2.2.2 v5 ∧ Sl h saySh x.2.1 v6 := by
  constructor
  · rintro ⟨_, _, rfl, q1, _, _, rfl, q2, rfl⟩
    obtain ⟨w1_0, w1_1, w1_2, w1_3, w1_4, rfl, j1_0, j1_1, j1_2, j1_3, j1_4⟩ := rd_keeper.1 q1
    obtain ⟨v2, rfl, k2⟩ := rd_sl.1 q2
    exact ⟨w1_0, w1_1, w1_2, w1_3, w1_4, v2, rfl, j1_0, j1_1, j1_2, j1_3, j1_4, k2⟩
  · rintro ⟨v1, v2, v3, v4, v5, v6, rfl, k1, k2, k3, k4, k5, k6⟩
    exact ⟨[_, _, _, _, _, _, _, _, _, _, _, _, _, _, _, _], _, rfl, rd_keeper.2 ⟨_, _, _, _, _, rfl, k1, k2, k3, k4, k5⟩, [_], _, rfl, rd_sl.2 ⟨_, rfl, k6⟩, rfl⟩
theorem ro_keeperOut {h : AHeap} {x : keeperOutSh.T} {cs : List Value} {ids : List Nat} : keeperOutSh.ro h x cs ids ↔ ∃ v1 v2 v3 v4 v5 v6 j1 j2 j3 j4 j5 j6, cs = [v1, .int .i64 x.1.1.2.1, .int .i64 x.1.1.2.2, .int .i64 x.1.2.1, .int .i64 x.1.2.2.1, .bool x.1.2.2.2.1, .int .i64 x.1.2.2.2.2.1, v2, v3, .int .i64 x.1.2.2.2.2.2.2.2.1.1, .int .i64 x.1.2.2.2.2.2.2.2.1.2.1, .int .i64 x.1.2.2.2.2.2.2.2.1.2.2.1, .int .i64 x.1.2.2.2.2.2.2.2.1.2.2.2.1, .string x.1.2.2.2.2.2.2.2.1.2.2.2.2.1, v4, v5, v6, .int .i64 x.2.2] ∧ ids = ((j1 ++ ([] ++ ([]))) ++ (([] ++ ([] ++ ([] ++ ([] ++ (j2 ++ (j3 ++ (([] ++ ([] ++ ([] ++ ([] ++ ([] ++ (j4)))))) ++ (j5)))))))))) ++ (j6 ++ ([])) ∧ So h fileSh x.1.1.1 v1 j1 ∧ So h voteSh x.1.2.2.2.2.2.1 v2 j2 ∧ So h changeSh x.1.2.2.2.2.2.2.1 v3 j3 ∧ So h changeSh x.1.2.2.2.2.2.2.2.1.2.2.2.2.2 v4 j4 ∧ So h Sh.str x.1.2.2.2.2.2.2.2.2 v5 j5 ∧ So h saySh x.2.1 v6 j6 := by
  constructor
  · rintro ⟨_, _, _, _, rfl, rfl, q1, _, _, _, _, rfl, rfl, q2, rfl, rfl⟩
    obtain ⟨w1_0, w1_1, w1_2, w1_3, w1_4, i1_0, i1_1, i1_2, i1_3, i1_4, rfl, rfl, k1_0, k1_1, k1_2, k1_3, k1_4⟩ := ro_keeper.1 q1
    obtain ⟨v2, rfl, k2⟩ := ro_sl.1 q2
    exact ⟨w1_0, w1_1, w1_2, w1_3, w1_4, v2, _, _, _, _, _, _, rfl, rfl, k1_0, k1_1, k1_2, k1_3, k1_4, k2⟩
  · rintro ⟨v1, v2, v3, v4, v5, v6, j1, j2, j3, j4, j5, j6, rfl, rfl, k1, k2, k3, k4, k5, k6⟩
    exact ⟨[_, _, _, _, _, _, _, _, _, _, _, _, _, _, _, _], _, _, _, rfl, rfl, ro_keeper.2 ⟨_, _, _, _, _, j1, j2, j3, j4, j5, rfl, rfl, k1, k2, k3, k4, k5⟩, [_], _, j6, _, rfl, rfl, ro_sl.2 ⟨_, rfl, k6⟩, rfl, rfl⟩
theorem rd_heard {h : AHeap} {x : heardSh.T} {cs : List Value} : heardSh.rd h x cs ↔ cs = [.int .i64 x.1, .string x.2] := by
  constructor
  · rintro ⟨_, _, rfl, rfl, rfl⟩
    exact rfl
  · rintro rfl
    exact ⟨[_], _, rfl, rfl, rfl⟩
theorem ro_heard {h : AHeap} {x : heardSh.T} {cs : List Value} {ids : List Nat} : heardSh.ro h x cs ids ↔ cs = [.int .i64 x.1, .string x.2] ∧ ids = [] ++ ([]) := by
  constructor
  · rintro ⟨_, _, _, _, rfl, rfl, ⟨rfl, rfl⟩, rfl, rfl⟩
    exact ⟨rfl, rfl⟩
  · rintro ⟨rfl, rfl⟩
    exact ⟨[_], _, [], _, rfl, rfl, ⟨rfl, rfl⟩, rfl, rfl⟩
theorem rd_client {h : AHeap} {x : clientSh.T} {cs : List Value} : clientSh.rd h x cs ↔ ∃ v1, cs = [.int .i64 x.1, .int .i64 x.2.1, .bool x.2.2.1, v1, .string x.2.2.2.2] ∧ Sl h heardSh x.2.2.2.1 v1 := by
  constructor
  · rintro ⟨_, _, rfl, rfl, _, _, rfl, rfl, _, _, rfl, rfl, _, _, rfl, q1, rfl⟩
    obtain ⟨v1, rfl, k1⟩ := rd_sl.1 q1
    exact ⟨v1, rfl, k1⟩
  · rintro ⟨v1, rfl, k1⟩
    exact ⟨[_], _, rfl, rfl, [_], _, rfl, rfl, [_], _, rfl, rfl, [_], _, rfl, rd_sl.2 ⟨_, rfl, k1⟩, rfl⟩
theorem ro_client {h : AHeap} {x : clientSh.T} {cs : List Value} {ids : List Nat} : clientSh.ro h x cs ids ↔ ∃ v1 j1, cs = [.int .i64 x.1, .int .i64 x.2.1, .bool x.2.2.1, v1, .string x.2.2.2.2] ∧ ids = [] ++ ([] ++ ([] ++ (j1 ++ ([])))) ∧ So h heardSh x.2.2.2.1 v1 j1 := by
  constructor
  · rintro ⟨_, _, _, _, rfl, rfl, ⟨rfl, rfl⟩, _, _, _, _, rfl, rfl, ⟨rfl, rfl⟩, _, _, _, _, rfl, rfl, ⟨rfl, rfl⟩, _, _, _, _, rfl, rfl, q1, rfl, rfl⟩
    obtain ⟨v1, rfl, k1⟩ := ro_sl.1 q1
    exact ⟨v1, _, rfl, rfl, k1⟩
  · rintro ⟨v1, j1, rfl, rfl, k1⟩
    exact ⟨[_], _, [], _, rfl, rfl, ⟨rfl, rfl⟩, [_], _, [], _, rfl, rfl, ⟨rfl, rfl⟩, [_], _, [], _, rfl, rfl, ⟨rfl, rfl⟩, [_], _, j1, _, rfl, rfl, ro_sl.2 ⟨_, rfl, k1⟩, rfl, rfl⟩
theorem rd_clientOut {h : AHeap} {x : clientOutSh.T} {cs : List Value} : clientOutSh.rd h x cs ↔ ∃ v1, cs = [.int .i64 x.1.1, .int .i64 x.1.2.1, .bool x.1.2.2.1, v1, .string x.1.2.2.2.2, .string x.2.1, .int .i64 x.2.2] ∧ Sl h heardSh x.1.2.2.2.1 v1 := by
  constructor
  · rintro ⟨_, _, rfl, q1, _, _, rfl, rfl, rfl⟩
    obtain ⟨w1_0, rfl, j1_0⟩ := rd_client.1 q1
    exact ⟨w1_0, rfl, j1_0⟩
  · rintro ⟨v1, rfl, k1⟩
    exact ⟨[_, _, _, _, _], _, rfl, rd_client.2 ⟨_, rfl, k1⟩, [_], _, rfl, rfl, rfl⟩
theorem ro_clientOut {h : AHeap} {x : clientOutSh.T} {cs : List Value} {ids : List Nat} : clientOutSh.ro h x cs ids ↔ ∃ v1 j1, cs = [.int .i64 x.1.1, .int .i64 x.1.2.1, .bool x.1.2.2.1, v1, .string x.1.2.2.2.2, .string x.2.1, .int .i64 x.2.2] ∧ ids = ([] ++ ([] ++ ([] ++ (j1 ++ ([]))))) ++ ([] ++ ([])) ∧ So h heardSh x.1.2.2.2.1 v1 j1 := by
  constructor
  · rintro ⟨_, _, _, _, rfl, rfl, q1, _, _, _, _, rfl, rfl, ⟨rfl, rfl⟩, rfl, rfl⟩
    obtain ⟨w1_0, i1_0, rfl, rfl, k1_0⟩ := ro_client.1 q1
    exact ⟨w1_0, _, rfl, rfl, k1_0⟩
  · rintro ⟨v1, j1, rfl, rfl, k1⟩
    exact ⟨[_, _, _, _, _], _, _, _, rfl, rfl, ro_client.2 ⟨_, j1, rfl, rfl, k1⟩, [_], _, [], _, rfl, rfl, ⟨rfl, rfl⟩, rfl, rfl⟩
theorem rd_clusterOut {h : AHeap} {x : clusterOutSh.T} {cs : List Value} : clusterOutSh.rd h x cs ↔ ∃ v1 v2, cs = [v1, v2, .int .i64 x.2.2] ∧ Sl h replicaSh x.1 v1 ∧ Sl h Sh.str x.2.1 v2 := by
  constructor
  · rintro ⟨_, _, rfl, q1, _, _, rfl, q2, rfl⟩
    obtain ⟨v1, rfl, k1⟩ := rd_sl.1 q1
    obtain ⟨v2, rfl, k2⟩ := rd_sl.1 q2
    exact ⟨v1, v2, rfl, k1, k2⟩
  · rintro ⟨v1, v2, rfl, k1, k2⟩
    exact ⟨[_], _, rfl, rd_sl.2 ⟨_, rfl, k1⟩, [_], _, rfl, rd_sl.2 ⟨_, rfl, k2⟩, rfl⟩
theorem ro_clusterOut {h : AHeap} {x : clusterOutSh.T} {cs : List Value} {ids : List Nat} : clusterOutSh.ro h x cs ids ↔ ∃ v1 v2 j1 j2, cs = [v1, v2, .int .i64 x.2.2] ∧ ids = j1 ++ (j2 ++ ([])) ∧ So h replicaSh x.1 v1 j1 ∧ So h Sh.str x.2.1 v2 j2 := by
  constructor
  · rintro ⟨_, _, _, _, rfl, rfl, q1, _, _, _, _, rfl, rfl, q2, rfl, rfl⟩
    obtain ⟨v1, rfl, k1⟩ := ro_sl.1 q1
    obtain ⟨v2, rfl, k2⟩ := ro_sl.1 q2
    exact ⟨v1, v2, _, _, rfl, rfl, k1, k2⟩
  · rintro ⟨v1, v2, j1, j2, rfl, rfl, k1, k2⟩
    exact ⟨[_], _, j1, _, rfl, rfl, ro_sl.2 ⟨_, rfl, k1⟩, [_], _, j2, _, rfl, rfl, ro_sl.2 ⟨_, rfl, k2⟩, rfl, rfl⟩
theorem rd_snap {h : AHeap} {x : snapSh.T} {cs : List Value} : snapSh.rd h x cs ↔ ∃ v1 v2, cs = [.int .i64 x.1, v1, v2] ∧ Sl h topicSh x.2.1 v1 ∧ Sl h replySh x.2.2 v2 := by
  constructor
  · rintro ⟨_, _, rfl, rfl, q1⟩
    obtain ⟨w1_0, w1_1, rfl, j1_0, j1_1⟩ := rd_broker.1 q1
    exact ⟨w1_0, w1_1, rfl, j1_0, j1_1⟩
  · rintro ⟨v1, v2, rfl, k1, k2⟩
    exact ⟨[_], _, rfl, rfl, rd_broker.2 ⟨_, _, rfl, k1, k2⟩⟩
theorem ro_snap {h : AHeap} {x : snapSh.T} {cs : List Value} {ids : List Nat} : snapSh.ro h x cs ids ↔ ∃ v1 v2 j1 j2, cs = [.int .i64 x.1, v1, v2] ∧ ids = [] ++ ((j1 ++ (j2))) ∧ So h topicSh x.2.1 v1 j1 ∧ So h replySh x.2.2 v2 j2 := by
  constructor
  · rintro ⟨_, _, _, _, rfl, rfl, ⟨rfl, rfl⟩, q1⟩
    obtain ⟨w1_0, w1_1, i1_0, i1_1, rfl, rfl, k1_0, k1_1⟩ := ro_broker.1 q1
    exact ⟨w1_0, w1_1, _, _, rfl, rfl, k1_0, k1_1⟩
  · rintro ⟨v1, v2, j1, j2, rfl, rfl, k1, k2⟩
    exact ⟨[_], _, [], _, rfl, rfl, ⟨rfl, rfl⟩, ro_broker.2 ⟨_, _, j1, j2, rfl, rfl, k1, k2⟩⟩
theorem rd_snapOut {h : AHeap} {x : snapOutSh.T} {cs : List Value} : snapOutSh.rd h x cs ↔ ∃ v1 v2, cs = [.int .i64 x.1.1, v1, v2, .int .i64 x.2] ∧ Sl h topicSh x.1.2.1 v1 ∧ Sl h replySh x.1.2.2 v2 := by
  constructor
  · rintro ⟨_, _, rfl, q1, rfl⟩
    obtain ⟨w1_0, w1_1, rfl, j1_0, j1_1⟩ := rd_snap.1 q1
    exact ⟨w1_0, w1_1, rfl, j1_0, j1_1⟩
  · rintro ⟨v1, v2, rfl, k1, k2⟩
    exact ⟨[_, _, _], _, rfl, rd_snap.2 ⟨_, _, rfl, k1, k2⟩, rfl⟩
theorem ro_snapOut {h : AHeap} {x : snapOutSh.T} {cs : List Value} {ids : List Nat} : snapOutSh.ro h x cs ids ↔ ∃ v1 v2 j1 j2, cs = [.int .i64 x.1.1, v1, v2, .int .i64 x.2] ∧ ids = ([] ++ ((j1 ++ (j2)))) ++ ([]) ∧ So h topicSh x.1.2.1 v1 j1 ∧ So h replySh x.1.2.2 v2 j2 := by
  constructor
  · rintro ⟨_, _, _, _, rfl, rfl, q1, rfl, rfl⟩
    obtain ⟨w1_0, w1_1, i1_0, i1_1, rfl, rfl, k1_0, k1_1⟩ := ro_snap.1 q1
    exact ⟨w1_0, w1_1, _, _, rfl, rfl, k1_0, k1_1⟩
  · rintro ⟨v1, v2, j1, j2, rfl, rfl, k1, k2⟩
    exact ⟨[_, _, _], _, _, _, rfl, rfl, ro_snap.2 ⟨_, _, j1, j2, rfl, rfl, k1, k2⟩, rfl, rfl⟩
theorem rd_opinion {h : AHeap} {x : opinionSh.T} {cs : List Value} : opinionSh.rd h x cs ↔ cs = [.int .i64 x.1, .string x.2] := by
  constructor
  · rintro ⟨_, _, rfl, rfl, rfl⟩
    exact rfl
  · rintro rfl
    exact ⟨[_], _, rfl, rfl, rfl⟩
theorem ro_opinion {h : AHeap} {x : opinionSh.T} {cs : List Value} {ids : List Nat} : opinionSh.ro h x cs ids ↔ cs = [.int .i64 x.1, .string x.2] ∧ ids = [] ++ ([]) := by
  constructor
  · rintro ⟨_, _, _, _, rfl, rfl, ⟨rfl, rfl⟩, rfl, rfl⟩
    exact ⟨rfl, rfl⟩
  · rintro ⟨rfl, rfl⟩
    exact ⟨[_], _, [], _, rfl, rfl, ⟨rfl, rfl⟩, rfl, rfl⟩
theorem rd_deskOut {h : AHeap} {x : deskOutSh.T} {cs : List Value} : deskOutSh.rd h x cs ↔ cs = [.string x.1, .int .i64 x.2.1, .int .i64 x.2.2] := by
  constructor
  · rintro ⟨_, _, rfl, rfl, _, _, rfl, rfl, rfl⟩
    exact rfl
  · rintro rfl
    exact ⟨[_], _, rfl, rfl, [_], _, rfl, rfl, rfl⟩
theorem ro_deskOut {h : AHeap} {x : deskOutSh.T} {cs : List Value} {ids : List Nat} : deskOutSh.ro h x cs ids ↔ cs = [.string x.1, .int .i64 x.2.1, .int .i64 x.2.2] ∧ ids = [] ++ ([] ++ ([])) := by
  constructor
  · rintro ⟨_, _, _, _, rfl, rfl, ⟨rfl, rfl⟩, _, _, _, _, rfl, rfl, ⟨rfl, rfl⟩, rfl, rfl⟩
    exact ⟨rfl, rfl⟩
  · rintro ⟨rfl, rfl⟩
    exact ⟨[_], _, [], _, rfl, rfl, ⟨rfl, rfl⟩, [_], _, [], _, rfl, rfl, ⟨rfl, rfl⟩, rfl, rfl⟩
theorem szL_int (xs : List Sh.int.T) (l : Int) (h : 0 ≤ l) : szL Sh.int.sz xs l = l := by
  induction xs with
  | nil => rfl
  | cons x xs ih =>
    show (if l < 0 then -1 else szL Sh.int.sz xs l) = l
    rw [if_neg (by omega)]; exact ih
end Go.Dat
