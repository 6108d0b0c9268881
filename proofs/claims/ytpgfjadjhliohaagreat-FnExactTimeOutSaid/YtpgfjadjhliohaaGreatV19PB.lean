/- P5, P6, PA, PB. -/
import Derived.Test.YtpgfjadjhliohaaGreatV19P1
import Derived.Test.YtpgfjadjhliohaaGreatV19P3
import Derived.Test.YtpgfjadjhliohaaGreatV19R1
section
namespace Go.Dat
open Go.Abs
end Go.Dat
namespace Go.Proofs.YtpgfjadjhliohaaGreat
open Go.Abs Go.Dat
set_option maxRecDepth 100000
set_option maxHeartbeats 8000000
end Go.Proofs.YtpgfjadjhliohaaGreat
end
section
namespace Go.Proofs.YtpgfjadjhliohaaGreat
open Go.Abs Go.Dat
set_option maxRecDepth 100000
set_option maxHeartbeats 8000000
noncomputable def stR (r : replicaSh.T) (says : List saySh.T) : VS := bif (show Bool from r.2.2.1) then (r.2.2.2.2.1, says) else followM r.1 r.2.1 (r.2.2.2.2.1, says) 6
noncomputable def goM (r : replicaSh.T) (says : List saySh.T) : replicaOutSh.T :=
  ((r.1, r.2.1, r.2.2.1, r.2.2.2.1, (stR r says).1, r.2.2.2.2.2.1, r.2.2.2.2.2.2.1, logM (stR r says).1 (6 - List.length (α := ByteArray) r.2.2.2.2.2.2.2) r.2.2.2.2.2.2.2), (stR r says).2, (0 : Int))
def illM (c : Int) : replicaOutSh.T := (((0 : Int), (0 : Int), false, (0 : Int), [], [], ((0 : Int), (0 : Int), (0 : Int), (0 : Int), ⟨#[]⟩, []), []), [], c)
def _root_.Go.Dat.Wk.rep (w : Wk) : replicaSh.T := (w.id, w.view, w.chg, w.top, w.votes.xs, w.changes.xs, (w.nk, w.nf, w.nv, w.nq, w.nop, w.nch.xs), w.log.xs)
theorem stR_rep (w : Wk) : stR w.rep w.says.xs = stM w := rfl
def OutOf (h h' : AHeap) (v : Value) (T : replicaOutSh.T) : Prop :=
  ∃ y1 y2 y3 y4 y5 j1 j2 j3 j4 j5, v = .agg #[.int .i64 T.1.1, .int .i64 T.1.2.1, .bool T.1.2.2.1, .int .i64 T.1.2.2.2.1, y1, y2, .int .i64 T.1.2.2.2.2.2.2.1.1, .int .i64 T.1.2.2.2.2.2.2.1.2.1, .int .i64 T.1.2.2.2.2.2.2.1.2.2.1, .int .i64 T.1.2.2.2.2.2.2.1.2.2.2.1, .string T.1.2.2.2.2.2.2.1.2.2.2.2.1, y3, y4, y5, .int .i64 T.2.2] ∧
    So h' voteSh T.1.2.2.2.2.1 y1 j1 ∧ So h' changeSh T.1.2.2.2.2.2.1 y2 j2 ∧ So h' changeSh T.1.2.2.2.2.2.2.1.2.2.2.2.2 y3 j3 ∧ So h' Sh.str T.1.2.2.2.2.2.2.2 y4 j4 ∧ So h' saySh T.2.1 y5 j5 ∧ Fresh h.n h'.n (j1 ++ (j2 ++ (j3 ++ (j4 ++ j5))))
theorem outOf_ill (h h' : AHeap) (c : Int) : OutOf h h' (.agg #[.int .i64 0, .int .i64 0, .bool false, .int .i64 0, .slice none 0 0, .slice none 0 0, .int .i64 0, .int .i64 0, .int .i64 0, .int .i64 0, .string ⟨#[]⟩, .slice none 0 0, .slice none 0 0, .slice none 0 0, .int .i64 c]) (illM c) :=
  ⟨_, _, _, _, _, [], [], [], [], [], rfl, Sn.nil.so, Sn.nil.so, Sn.nil.so, Sn.nil.so, Sn.nil.so, .nil⟩
theorem outOf_wk {h g : AHeap} {l : Nat} {w : Wk} {V : LX voteSh.T} {S : LX saySh.T} {L : LX Sh.str.T} (W : WkOk h.n l g { w with votes := V, says := S, log := L }) (e1 : (V.xs, S.xs) = stM w) (e2 : L.xs = logM (stM w).1 (6 - w.log.xs.length) w.log.xs) :
    OutOf h g (.agg #[.int .i64 w.id, .int .i64 w.view, .bool w.chg, .int .i64 w.top, .slice V.a V.xs.length V.c, .slice w.changes.a w.changes.xs.length w.changes.c, .int .i64 w.nk, .int .i64 w.nf, .int .i64 w.nv, .int .i64 w.nq, .string w.nop, .slice w.nch.a w.nch.xs.length w.nch.c, .slice L.a L.xs.length L.c, .slice S.a S.xs.length S.c, .int .i64 0]) (goM w.rep w.says.xs) := by
  have e : goM w.rep w.says.xs = ((w.id, w.view, w.chg, w.top, V.xs, w.changes.xs, (w.nk, w.nf, w.nv, w.nq, w.nop, w.nch.xs), L.xs), S.xs, (0 : Int)) := by
    unfold goM
    rw [stR_rep, e2, ← e1]
    rfl
  rw [e]
  exact ⟨_, _, _, _, _, _, _, _, _, _, rfl, W.V.sn.so, W.C.sn.so, W.N.1.so, W.L.sn.so, W.S.sn.so, W.fresh⟩
theorem followM_mem {id view : Int} {st : VS} (H : VotsOk st.1) (h1 : InR 0 3 id) (h2 : InR 0 7 view) : ∀ n, n ≤ 6 → ∀ s ∈ (followM id view st n).2, s ∈ st.2 ∨ ∃ (q : Int) (op : ByteArray), s = (3, id, view, q, op, []) ∧ InR 1 6 q ∧ op.size ≤ 120
  | 0, _ => fun s hs => .inl hs
  | n + 1, hn => fun s hs => by
    rw [followM] at hs
    have H' := (followM_ok H h1 h2 n (by omega)).1
    cases hp : provedM (followM id view st n).1 2 view ((n : Int) + 1) with
    | none => rw [stepM_none hp] at hs; exact followM_mem H h1 h2 n (by omega) s hs
    | some op =>
      rw [stepM_some hp] at hs
      unfold voteM at hs
      dsimp only at hs
      cases hb : (addM (followM id view st n).1 (3, view, (n : Int) + 1, op, id)).2 with
      | false => rw [hb, cond_false] at hs; exact followM_mem H h1 h2 n (by omega) s hs
      | true =>
        rw [hb, cond_true] at hs
        rcases List.mem_append.1 hs with hs | hs
        · exact followM_mem H h1 h2 n (by omega) s hs
        · exact .inr ⟨_, op, List.mem_singleton.1 hs, ⟨by omega, by omega⟩, provedM_size H' hp⟩
theorem _root_.Go.Dat.VotsOk.oks {vs : List voteSh.T} (H : VotsOk vs) : (Sh.sl voteSh).ok vs ∧ (Sh.sl voteSh).cn vs ≤ 400 * 5 := by
  have hl := H.1
  refine ⟨⟨Nat.le_trans hl (by decide), fun x hx => ?_⟩, Sh.cn_sl (e := voteSh) hl (fun x _ => Nat.le_refl _)⟩
  obtain ⟨(k : Int), (v : Int), (q : Int), (op : ByteArray), (f : Int)⟩ := x
  have h := vots_mem H hx
  refine ⟨?_, inrOk h.2.1 (by omega) (by omega), inrOk h.2.2.1 (by omega) (by omega), ?_, inrOk h.2.2.2.2 (by omega) (by omega)⟩
  · have hk : k = 2 ∨ k = 3 := h.1
    show (-9223372036854775808 : Int) ≤ k ∧ k ≤ 9223372036854775807; omega
  · have ho : op.size ≤ 120 := h.2.2.2.1
    show op.size ≤ _; omega
theorem goM_oks (r : replicaSh.T) (says : List saySh.T) (ok : replicaSh.ok r) (H : VotsOk r.2.2.2.2.1) (h1 : InR 0 3 r.1) (h2 : InR 0 7 r.2.1) (hl : List.length (α := ByteArray) r.2.2.2.2.2.2.2 ≤ 6) (hz : ∀ t ∈ (show List ByteArray from r.2.2.2.2.2.2.2), t.size ≤ 120)
    (ns : says.length ≤ 500) (os : ∀ s ∈ says, saySh.ok s ∧ saySh.cn s ≤ 1100) : replicaOutSh.ok (goM r says) ∧ (replicaOutSh.cv (goM r says) : Int) ≤ replicaSh.cv r + 700000 := by
  have hst : VotsOk (stR r says).1 ∧ (stR r says).2.length ≤ 506 ∧ ∀ s ∈ (stR r says).2, s ∈ says ∨ ∃ (q : Int) (op : ByteArray), s = (3, r.1, r.2.1, q, op, []) ∧ InR 1 6 q ∧ op.size ≤ 120 := by
    unfold stR
    cases (show Bool from r.2.2.1) with
    | true => rw [cond_true]; exact ⟨H, by dsimp only; omega, fun s hs => .inl hs⟩
    | false =>
      rw [cond_false]
      have := followM_ok (st := (r.2.2.2.2.1, says)) H h1 h2 6 (Nat.le_refl _)
      exact ⟨this.1, Nat.le_trans this.2 (by dsimp only; omega), followM_mem (st := (r.2.2.2.2.1, says)) H h1 h2 6 (Nat.le_refl _)⟩
  obtain ⟨HV, HL, HM⟩ := hst
  have os' : ∀ s ∈ (stR r says).2, saySh.ok s ∧ saySh.cn s ≤ 1100 := fun s hs => by
    rcases HM s hs with h | ⟨q, op, rfl, hq, ho⟩
    · exact os s h
    · refine ⟨⟨?_, ok.1, ok.2.1, inrOk hq (by omega) (by omega), by show op.size ≤ _; omega, Nat.zero_le _, fun c hc => by cases hc⟩, ?_⟩
      · show (-9223372036854775808 : Int) ≤ 3 ∧ (3 : Int) ≤ 9223372036854775807; omega
      · show 1 + (1 + (1 + (1 + (1 + (Sh.sl changeSh).cn [])))) ≤ 1100
        have : (Sh.sl changeSh).cn [] = 0 := rfl
        omega
  obtain ⟨okv, cnv⟩ := HV.oks
  have ll := logM_len (stR r says).1 (6 - List.length (α := ByteArray) r.2.2.2.2.2.2.2) r.2.2.2.2.2.2.2
  have lz := logM_size HV (6 - List.length (α := ByteArray) r.2.2.2.2.2.2.2) r.2.2.2.2.2.2.2 hz
  have cl : (Sh.sl Sh.str).cn (logM (stR r says).1 (6 - List.length (α := ByteArray) r.2.2.2.2.2.2.2) r.2.2.2.2.2.2.2) ≤ 12 * 1 := Sh.cn_sl (e := Sh.str) (by omega) (fun _ _ => Nat.le_refl _)
  have cs : (Sh.sl saySh).cn (stR r says).2 ≤ 506 * 1100 := Sh.cn_sl (e := saySh) HL (fun s hs => (os' s hs).2)
  refine ⟨⟨⟨ok.1, ok.2.1, ok.2.2.1, ok.2.2.2.1, okv, ok.2.2.2.2.2.1, ok.2.2.2.2.2.2.1, ⟨by show List.length (α := ByteArray) (logM _ _ _) ≤ _; omega, fun t ht => ?_⟩⟩, ⟨by show (stR r says).2.length ≤ _; omega, fun s hs => (os' s hs).1⟩, ?_⟩, ?_⟩
  · have := lz t ht
    show t.size ≤ _; omega
  · show (-9223372036854775808 : Int) ≤ 0 ∧ (0 : Int) ≤ 9223372036854775807; omega
  · have e1 : replicaOutSh.cv (goM r says) = (0 + (0 + (0 + (0 + ((Sh.sl voteSh).cn (stR r says).1 + ((Sh.sl changeSh).cn r.2.2.2.2.2.1 + (saySh.cv r.2.2.2.2.2.2.1 + (Sh.sl Sh.str).cn (logM (stR r says).1 (6 - List.length (α := ByteArray) r.2.2.2.2.2.2.2) r.2.2.2.2.2.2.2)))))))) + ((Sh.sl saySh).cn (stR r says).2 + 0) := rfl
    have e2 : replicaSh.cv r = 0 + (0 + (0 + (0 + ((Sh.sl voteSh).cn r.2.2.2.2.1 + ((Sh.sl changeSh).cn r.2.2.2.2.2.1 + (saySh.cv r.2.2.2.2.2.2.1 + (Sh.sl Sh.str).cn r.2.2.2.2.2.2.2)))))) := rfl
    omega
theorem illM_oks (c : Int) (h : InR 0 100 c) : replicaOutSh.ok (illM c) ∧ (replicaOutSh.cv (illM c) : Int) ≤ 0 := by
  have hz : Sh.int.ok (0 : Int) := by show (-9223372036854775808 : Int) ≤ 0 ∧ (0 : Int) ≤ 9223372036854775807; omega
  refine ⟨⟨⟨hz, hz, trivial, hz, ⟨Nat.zero_le _, fun x hx => by cases hx⟩, ⟨Nat.zero_le _, fun x hx => by cases hx⟩, ⟨hz, hz, hz, hz, Nat.zero_le _, Nat.zero_le _, fun x hx => by cases hx⟩, Nat.zero_le _, fun x hx => by cases hx⟩, ⟨Nat.zero_le _, fun x hx => by cases hx⟩, inrOk h (by omega) (by omega)⟩, ?_⟩
  have : replicaOutSh.cv (illM c) = 0 := rfl
  omega
end Go.Proofs.YtpgfjadjhliohaaGreat
end
section
namespace Go.Dat
open Go.Abs
noncomputable def ent1 (id view f : Int) (st : VS) (x : Int × ByteArray) : VS :=
  if id = f then ((addM st.1 (2, view, x.1, x.2, f)).1, st.2) else voteM id ((addM st.1 (2, view, x.1, x.2, f)).1, st.2) 2 view x.1 x.2
noncomputable def entM (id view f : Int) (st : VS) (l : List freshSh.T) : VS := (show List (Int × ByteArray) from l).foldl (ent1 id view f) st
theorem entM_take {id view f : Int} {st : VS} {l : List freshSh.T} {i : Nat} {x : Int × ByteArray} (h : l[i]? = some x) : entM id view f st (l.take (i + 1)) = ent1 id view f (entM id view f st (l.take i)) x := by
  have hi := (List.getElem?_eq_some_iff.1 h).1
  rw [List.take_succ_eq_append_getElem hi, (List.getElem?_eq_some_iff.1 h).2]
  show List.foldl _ _ _ = _
  rw [List.foldl_append]; rfl
def chF (cg : List changeSh.T) (f v : Int) : Option changeSh.T := (show List (Int × Int × List proofSh.T) from cg).find? fun x => decide (x.1 = f) && decide (x.2.1 = v)
def lstN (cg : List changeSh.T) (v : Int) : Nat → List changeSh.T
  | 0 => []
  | n + 1 => match chF cg n v with
    | some x => if (lstN cg v n).length < 3 then lstN cg v n ++ [x] else lstN cg v n
    | none => lstN cg v n
end Go.Dat
namespace Go.Proofs.YtpgfjadjhliohaaGreat
open Go.Abs Go.Dat
set_option maxRecDepth 100000
set_option maxHeartbeats 8000000
abbrev RS := replicaSh.T × List saySh.T
noncomputable def entR (x : RS) (s : saySh.T) : RS :=
  ((x.1.1, s.2.2.1, false, ((wantM s.2.2.2.2.2).length : Int), (entM x.1.1 s.2.2.1 s.2.1 (x.1.2.2.2.2.1, x.2) (wantM s.2.2.2.2.2)).1, x.1.2.2.2.2.2.1, s, x.1.2.2.2.2.2.2.2), (entM x.1.1 s.2.2.1 s.2.1 (x.1.2.2.2.2.1, x.2) (wantM s.2.2.2.2.2)).2)
def SayS (s : saySh.T) : Prop := saySh.ok s ∧ saySh.cn s ≤ 1100
theorem sayS_vote {k f v q : Int} {op : ByteArray} (hk : InR 0 5 k) (hf : InR 0 3 f) (hv : InR 0 7 v) (hq : InR 0 6 q) (ho : op.size ≤ 120) : SayS (k, f, v, q, op, []) := by
  refine ⟨⟨inrOk hk (by omega) (by omega), inrOk hf (by omega) (by omega), inrOk hv (by omega) (by omega), inrOk hq (by omega) (by omega), by show op.size ≤ _; omega, Nat.zero_le _, fun c hc => by cases hc⟩, ?_⟩
  show 1 + (1 + (1 + (1 + (1 + (Sh.sl changeSh).cn [])))) ≤ 1100
  have : (Sh.sl changeSh).cn [] = 0 := rfl
  omega
structure VSk (n : Nat) (st : VS) : Prop where
  H : VotsOk st.1
  n : st.2.length ≤ n
  s : ∀ s ∈ st.2, SayS s
theorem VSk.add {n : Nat} {st : VS} (K : VSk n st) {k v q f : Int} {op : ByteArray} (hy : VotOk k v q op f) : VSk n ((addM st.1 (k, v, q, op, f)).1, st.2) := ⟨addM_ok K.H hy, K.n, K.s⟩
theorem VSk.vote {n : Nat} {st : VS} (K : VSk n st) {id k v q : Int} {op : ByteArray} (hy : VotOk k v q op id) : VSk (n + 1) (voteM id st k v q op) := by
  refine ⟨voteM_ok K.H hy, Nat.le_trans voteM_len (Nat.add_le_add_right K.n 1), fun s hs => ?_⟩
  unfold voteM at hs
  dsimp only at hs
  cases hb : (addM st.1 (k, v, q, op, id)).2 with
  | false => rw [hb, cond_false] at hs; exact K.s s hs
  | true =>
    rw [hb, cond_true] at hs
    rcases List.mem_append.1 hs with hs | hs
    · exact K.s s hs
    · rw [List.mem_singleton.1 hs]
      obtain ⟨hk, hv, hq, ho, hf⟩ := hy
      exact sayS_vote ⟨by omega, by omega⟩ hf hv ⟨by have := hq.1; omega, hq.2⟩ ho
theorem VSk.up {n m : Nat} {st : VS} (K : VSk n st) (h : n ≤ m) : VSk m st := ⟨K.H, Nat.le_trans K.n h, K.s⟩
theorem VSk.ent {n : Nat} {st : VS} (K : VSk n st) {id view f : Int} (hid : InR 0 3 id) (hv : InR 0 7 view) (hf : InR 0 3 f) {cs : List changeSh.T} (H : PrfsOk (prfs cs)) : ∀ i, i ≤ (wantM cs).length → VSk (n + i) (entM id view f st ((wantM cs).take i))
  | 0, _ => K
  | i + 1, hi => by
    obtain ⟨⟨q, op⟩, hat⟩ : ∃ y : Int × ByteArray, (wantM cs)[i]? = some y := ⟨_, List.getElem?_eq_getElem hi⟩
    obtain ⟨_, hq, ho⟩ := wantM_at H hat
    have K1 := VSk.ent K hid hv hf H i (by omega)
    have K2 := K1.add (k := 2) (v := view) (q := q) (op := op) (f := f) ⟨.inl rfl, hv, hq, ho, hf⟩
    rw [entM_take hat]
    unfold ent1
    split
    · exact K2.up (Nat.le_succ _)
    · exact K2.vote ⟨.inl rfl, hv, hq, ho, hid⟩
theorem VSk.ent' {n : Nat} {st : VS} (K : VSk n st) {id view f : Int} (hid : InR 0 3 id) (hv : InR 0 7 view) (hf : InR 0 3 f) {cs : List changeSh.T} (H : PrfsOk (prfs cs)) : VSk (n + 6) (entM id view f st (wantM cs)) := by
  have := K.ent hid hv hf H (wantM cs).length (Nat.le_refl _)
  rw [List.take_length] at this
  exact this.up (Nat.add_le_add_left (wantM_len H) n)
def CgW (c : changeSh.T) : Prop := changeSh.ok c ∧ changeSh.cn c ≤ 100 ∧ PrfsOk c.2.2 ∧ changeSh.small c ∧ List.length (α := proofSh.T) c.2.2 ≤ 6
structure ROk (M n : Nat) (x : RS) : Prop where
  id : InR 0 3 x.1.1
  vw : InR 0 7 x.1.2.1
  tp : InR 0 6 x.1.2.2.2.1
  vs : VSk n (x.1.2.2.2.2.1, x.2)
  hl : List.length (α := ByteArray) x.1.2.2.2.2.2.2.2 ≤ 6
  hz : ∀ t ∈ (show List ByteArray from x.1.2.2.2.2.2.2.2), t.size ≤ 120
  ncg : List.length (α := changeSh.T) x.1.2.2.2.2.2.1 ≤ 40
  cgs : ∀ c ∈ (show List changeSh.T from x.1.2.2.2.2.2.1), CgW c
  okn : saySh.ok x.1.2.2.2.2.2.2.1
  cvn : saySh.cv x.1.2.2.2.2.2.2.1 ≤ M
theorem chgOk_cgw {c : changeSh.T} (h : ChgOk c.1 c.2.1 c.2.2) : CgW c := by
  obtain ⟨(f : Int), (v : Int), (ps : List proofSh.T)⟩ := c
  obtain ⟨hf, hv, ha⟩ := h
  have hl : ps.length ≤ 6 := ChgOk.len (f := f) (v := v) ⟨hf, hv, ha⟩
  refine ⟨⟨inrOk hf (by omega) (by omega), inrOk hv (by omega) (by omega), by show ps.length ≤ _; omega, fun p hp => ?_⟩, ?_, fun p hp => ?_, ⟨trivial, trivial, by show ps.length ≤ _; omega, fun p hp => ⟨trivial, trivial, ?_, ?_, fun _ _ => trivial⟩⟩, hl⟩
  · obtain ⟨(pv : Int), (pq : Int), (po : ByteArray), (pb : List Int)⟩ := p
    have hp1 := (Asc.mem ha hp).1
    obtain ⟨h1, h2, h3, h4⟩ := hp1
    have h3' : po.size ≤ 120 := h3
    have h5 := h4.len
    refine ⟨inrOk h1 (by omega) (by omega), inrOk h2 (by omega) (by omega), by show po.size ≤ _; omega, by show pb.length ≤ _; exact Nat.le_trans h5 (by decide), fun x hx => ?_⟩
    exact inrOk (Asc.mem h4.1 hx) (by omega) (by omega)
  · have h2 : (Sh.sl proofSh).cn ps ≤ 6 * 12 := Sh.cn_sl (e := proofSh) hl (fun p hp => by
      have hq := (Asc.mem ha hp).1.2.2.2
      have h3 : (Sh.sl Sh.int).cn p.2.2.2 ≤ 4 * 1 := Sh.cn_sl (e := Sh.int) hq.len (fun _ _ => Nat.le_refl _)
      show 1 + (1 + (1 + (Sh.sl Sh.int).cn p.2.2.2)) ≤ 12
      omega)
    show 1 + (1 + (Sh.sl proofSh).cn ps) ≤ 100
    omega
  · have h2 := (Asc.mem ha hp).1
    exact ⟨h2.1.1, h2.2.1.1, h2.2.1.2, h2.2.2.1⟩
  · exact Nat.le_trans (Asc.mem ha hp).1.2.2.1 (by decide)
  · exact Nat.le_trans (Asc.mem ha hp).1.2.2.2.len (by decide)
theorem ROk.oks {M n : Nat} {x : RS} (R : ROk M n x) : replicaSh.ok x.1 ∧ replicaSh.cv x.1 ≤ 2000 + 4000 + M + 6 := by
  obtain ⟨okv, cnv⟩ := R.vs.H.oks
  have cg : (Sh.sl changeSh).cn x.1.2.2.2.2.2.1 ≤ 40 * 100 := Sh.cn_sl (e := changeSh) R.ncg (fun c hc => (R.cgs c hc).2.1)
  have lg : (Sh.sl Sh.str).cn x.1.2.2.2.2.2.2.2 ≤ 6 * 1 := Sh.cn_sl (e := Sh.str) R.hl (fun _ _ => Nat.le_refl _)
  refine ⟨⟨inrOk R.id (by omega) (by omega), inrOk R.vw (by omega) (by omega), trivial, inrOk R.tp (by omega) (by omega), okv, ⟨Nat.le_trans R.ncg (by decide), fun c hc => (R.cgs c hc).1⟩, R.okn, Nat.le_trans R.hl (by decide), fun t ht => ?_⟩, ?_⟩
  · have := R.hz t ht
    show t.size ≤ _; omega
  · have e2 : replicaSh.cv x.1 = 0 + (0 + (0 + (0 + ((Sh.sl voteSh).cn x.1.2.2.2.2.1 + ((Sh.sl changeSh).cn x.1.2.2.2.2.2.1 + (saySh.cv x.1.2.2.2.2.2.2.1 + (Sh.sl Sh.str).cn x.1.2.2.2.2.2.2.2)))))) := rfl
    have := R.cvn
    dsimp only at cnv
    omega
theorem ROk.go {M n : Nat} {x : RS} (R : ROk M n x) (hn : n ≤ 500) : replicaOutSh.ok (goM x.1 x.2) ∧ replicaOutSh.cv (goM x.1 x.2) ≤ M + 800000 := by
  have h1 := R.oks
  have h2 := goM_oks x.1 x.2 h1.1 R.vs.H R.id R.vw R.hl R.hz (Nat.le_trans R.vs.n hn) R.vs.s
  exact ⟨h2.1, by have := h2.2; omega⟩
theorem ROk.of {r : replicaSh.T} (H : RepOk r) (ok : replicaSh.ok r) : ROk 1000 0 (r, []) := by
  obtain ⟨hid, hvw, _, htop, HV, HC, HN, hlog, hlz⟩ := H
  refine ⟨hid, hvw, htop, ⟨HV, Nat.le_refl _, fun s hs => by cases hs⟩, hlog, hlz, HC.1, fun c hc => ?_, ok.2.2.2.2.2.2.1, ?_⟩
  · obtain ⟨i, hi⟩ := List.mem_iff_getElem?.1 hc
    obtain ⟨(f : Int), (v : Int), (p : List proofSh.T)⟩ := c
    exact chgOk_cgw (c := (f, v, p)) ((HC.2 i (List.getElem?_eq_some_iff.1 hi).1).out hi).1
  · have := HN.cv
    show 0 + (0 + (0 + (0 + (0 + (Sh.sl changeSh).cn r.2.2.2.2.2.2.1.2.2.2.2.2)))) ≤ 1000
    omega
structure NSay (s : saySh.T) : Prop where
  f : InR 0 3 s.2.1
  v : InR 0 7 s.2.2.1
  P : PrfsOk (prfs s.2.2.2.2.2)
  ok : saySh.ok s
  cv : saySh.cv s ≤ 1000
theorem ROk.ent {n : Nat} {x : RS} (R : ROk 1000 n x) {s : saySh.T} (N : NSay s) : ROk 1000 (n + 6) (entR x s) := by
  have hl := wantM_len N.P
  exact ⟨R.id, N.v, ⟨by show (0 : Int) ≤ ((wantM s.2.2.2.2.2).length : Int); omega, by show ((wantM s.2.2.2.2.2).length : Int) ≤ 6; omega⟩, R.vs.ent' R.id N.v N.f N.P, R.hl, R.hz, R.ncg, R.cgs, N.ok, N.cv⟩
open Classical in
noncomputable def cgM (cg : List changeSh.T) (c : changeSh.T) : Option (List changeSh.T) := if ∃ i, i < cg.length ∧ ChAt cg c.1 c.2.1 i then some cg else if 40 ≤ cg.length then none else some (cg ++ [c])
theorem lstN_len (cg : List changeSh.T) (v : Int) : ∀ n, (lstN cg v n).length ≤ 3
  | 0 => Nat.zero_le _
  | n + 1 => by
    have ih := lstN_len cg v n
    rw [lstN]
    split
    · split
      · rw [List.length_append]; show (lstN cg v n).length + 1 ≤ 3; omega
      · exact ih
    · exact ih
theorem chF_mem {cg : List changeSh.T} {f v : Int} {x : changeSh.T} (h : chF cg f v = some x) : x ∈ cg ∧ (show Int from x.1) = f ∧ (show Int from x.2.1) = v := by
  unfold chF at h
  have h1 := List.mem_of_find?_eq_some h
  have h2 := List.find?_some h
  rw [Bool.and_eq_true] at h2
  exact ⟨h1, of_decide_eq_true h2.1, of_decide_eq_true h2.2⟩
theorem lstN_mem {cg : List changeSh.T} {v : Int} : ∀ {n : Nat} {x : changeSh.T}, x ∈ lstN cg v n → x ∈ cg ∧ (show Int from x.2.1) = v
  | 0, x, h => by cases h
  | n + 1, x, h => by
    rw [lstN] at h
    split at h
    · rename_i y hy
      split at h
      · rcases List.mem_append.1 h with h | h
        · exact lstN_mem h
        · rw [List.mem_singleton.1 h]; exact ⟨(chF_mem hy).1, (chF_mem hy).2.2⟩
      · exact lstN_mem h
    · exact lstN_mem h
theorem idx_chF {cg : List changeSh.T} {f v i : Int} (H : IdxRes (ChAt cg f v) cg.length i) : (i < 0 ∧ chF cg f v = none ∧ ¬ ∃ j, j < cg.length ∧ ChAt cg f v j) ∨ ∃ (m : Nat) (x : changeSh.T), i = m ∧ cg[m]? = some x ∧ chF cg f v = some x ∧ ∃ j, j < cg.length ∧ ChAt cg f v j := by
  rcases H with ⟨rfl, h⟩ | ⟨m, hm, rfl, ⟨x, hx, e1, e2⟩, h2⟩
  · refine .inl ⟨by decide, List.find?_eq_none.2 fun x hx hb => ?_, fun ⟨j, hj, hc⟩ => h j hj hc⟩
    obtain ⟨j, hj⟩ := List.mem_iff_getElem?.1 hx
    rw [Bool.and_eq_true] at hb
    exact h j (List.getElem?_eq_some_iff.1 hj).1 ⟨x, hj, of_decide_eq_true hb.1, of_decide_eq_true hb.2⟩
  · refine .inr ⟨m, x, rfl, hx, ?_, m, hm, x, hx, e1, e2⟩
    unfold chF
    refine List.find?_eq_some_iff_getElem.2 ⟨by rw [Bool.and_eq_true]; exact ⟨decide_eq_true e1, decide_eq_true e2⟩, m, hm, (List.getElem?_eq_some_iff.1 hx).2, fun j hj => ?_⟩
    have hjl : j < cg.length := by omega
    cases hb : (decide ((show Int from cg[j].1) = f) && decide ((show Int from cg[j].2.1) = v)) with
    | false => rfl
    | true =>
      rw [Bool.and_eq_true] at hb
      exact absurd ⟨cg[j], List.getElem?_eq_getElem hjl, of_decide_eq_true hb.1, of_decide_eq_true hb.2⟩ (h2 j hj)
def opn (id v : Int) (l : List changeSh.T) : saySh.T := (5, id, v, 0, ⟨#[]⟩, l)
def setC (r : replicaSh.T) (cg : List changeSh.T) : replicaSh.T := (r.1, r.2.1, r.2.2.1, r.2.2.2.1, r.2.2.2.2.1, cg, r.2.2.2.2.2.2)
noncomputable def chgR (x : RS) (c : changeSh.T) : Int ⊕ RS := match cgM x.1.2.2.2.2.2.1 c with
  | none => .inl 9
  | some cg => if (show Int from c.2.1) % 4 = x.1.1 ∧ (lstN cg c.2.1 4).length = 3 then .inr (entR (setC x.1 cg, x.2 ++ [opn x.1.1 c.2.1 (lstN cg c.2.1 4)]) (opn x.1.1 c.2.1 (lstN cg c.2.1 4))) else .inr (setC x.1 cg, x.2)
noncomputable def outR : Int ⊕ RS → replicaOutSh.T
  | .inl c => illM c
  | .inr x => goM x.1 x.2
theorem cgM_ok {cg cg' : List changeSh.T} {c : changeSh.T} (h : cgM cg c = some cg') (hn : cg.length ≤ 40) (H : ∀ c ∈ cg, CgW c) (hc : CgW c) : cg'.length ≤ 40 ∧ ∀ c ∈ cg', CgW c := by
  unfold cgM at h
  split at h
  · cases h; exact ⟨hn, H⟩
  split at h
  · cases h
  · cases h
    refine ⟨by rw [List.length_append]; show cg.length + 1 ≤ 40; omega, fun x hx => ?_⟩
    rcases List.mem_append.1 hx with hx | hx
    · exact H x hx
    · rw [List.mem_singleton.1 hx]; exact hc
theorem lst_prfs {cg : List changeSh.T} {v : Int} {n : Nat} (H : ∀ c ∈ cg, CgW c) : PrfsOk (prfs (lstN cg v n)) := by
  intro p hp
  obtain ⟨c, hc, hm⟩ := List.mem_flatMap.1 hp
  exact (H c (lstN_mem hc).1).2.2.1 p hm
theorem opn_ok {cg : List changeSh.T} {id v : Int} (H : ∀ c ∈ cg, CgW c) (hid : InR 0 3 id) (hv : InR 0 7 v) : NSay (opn id v (lstN cg v 4)) ∧ SayS (opn id v (lstN cg v 4)) := by
  have hl := lstN_len cg v 4
  have hc : (Sh.sl changeSh).cn (lstN cg v 4) ≤ 3 * 100 := Sh.cn_sl (e := changeSh) hl (fun c hc => (H c (lstN_mem hc).1).2.1)
  have hz : Sh.int.ok (0 : Int) := by show (-9223372036854775808 : Int) ≤ 0 ∧ (0 : Int) ≤ 9223372036854775807; omega
  have h5 : Sh.int.ok (5 : Int) := by show (-9223372036854775808 : Int) ≤ 5 ∧ (5 : Int) ≤ 9223372036854775807; omega
  have ok : saySh.ok (opn id v (lstN cg v 4)) := ⟨h5, inrOk hid (by omega) (by omega), inrOk hv (by omega) (by omega), hz, Nat.zero_le _, Nat.le_trans hl (by decide), fun c hc => (H c (lstN_mem hc).1).1⟩
  refine ⟨⟨hid, hv, lst_prfs H, ok, ?_⟩, ok, ?_⟩
  · show 0 + (0 + (0 + (0 + (0 + (Sh.sl changeSh).cn (lstN cg v 4))))) ≤ 1000
    omega
  · show 1 + (1 + (1 + (1 + (1 + (Sh.sl changeSh).cn (lstN cg v 4))))) ≤ 1100
    omega
theorem ROk.say {n : Nat} {x : RS} (R : ROk 1000 n x) {s : saySh.T} (S : SayS s) : ROk 1000 (n + 1) (x.1, x.2 ++ [s]) :=
  ⟨R.id, R.vw, R.tp, ⟨R.vs.H, by show (x.2 ++ [s]).length ≤ _; rw [List.length_append]; exact Nat.add_le_add_right R.vs.n 1, fun y hy => (List.mem_append.1 hy).elim (R.vs.s y) fun h => by rw [List.mem_singleton.1 h]; exact S⟩, R.hl, R.hz, R.ncg, R.cgs, R.okn, R.cvn⟩
theorem ROk.setC {n : Nat} {x : RS} (R : ROk 1000 n x) {cg : List changeSh.T} (hn : cg.length ≤ 40) (H : ∀ c ∈ cg, CgW c) : ROk 1000 n (setC x.1 cg, x.2) :=
  ⟨R.id, R.vw, R.tp, R.vs, R.hl, R.hz, hn, H, R.okn, R.cvn⟩
def OutK (n : Nat) : Int ⊕ RS → Prop
  | .inl c => InR 0 100 c
  | .inr x => ROk 1000 n x
theorem ROk.chg {n : Nat} {x : RS} (R : ROk 1000 n x) {c : changeSh.T} (hc : CgW c) (hv : InR 0 7 (show Int from c.2.1)) : OutK (n + 7) (chgR x c) := by
  unfold chgR
  cases e : cgM x.1.2.2.2.2.2.1 c with
  | none => exact ⟨by decide, by decide⟩
  | some cg =>
    obtain ⟨h1, h2⟩ := cgM_ok e R.ncg R.cgs hc
    have R1 := R.setC h1 h2
    obtain ⟨N, S⟩ := opn_ok (v := c.2.1) h2 R.id hv
    dsimp only
    split
    · exact (R1.say S).ent N
    · exact ⟨R1.id, R1.vw, R1.tp, R1.vs.up (by omega), R1.hl, R1.hz, R1.ncg, R1.cgs, R1.okn, R1.cvn⟩
theorem OutK.out {n : Nat} {y : Int ⊕ RS} (K : OutK n y) (hn : n ≤ 500) : replicaOutSh.ok (outR y) ∧ replicaOutSh.cv (outR y) ≤ 900000 := by
  cases y with
  | inl c => exact ⟨(illM_oks c K).1, by have := (illM_oks c K).2; show replicaOutSh.cv (illM c) ≤ 900000; omega⟩
  | inr x =>
    have := ROk.go (x := x) K hn
    exact ⟨this.1, by show replicaOutSh.cv (goM x.1 x.2) ≤ _; omega⟩
end Go.Proofs.YtpgfjadjhliohaaGreat
end
section
namespace Go.Proofs.YtpgfjadjhliohaaGreat
open Go.Abs Go.Dat
set_option maxRecDepth 100000
set_option maxHeartbeats 8000000
open Classical in
noncomputable def preS (r : replicaSh.T) (v q f : Int) (op : ByteArray) : VS := if (addM r.2.2.2.2.1 (2, v, q, op, f)).2 = true ∧ ∀ j, j < (addM r.2.2.2.2.1 (2, v, q, op, f)).1.length → ¬ VoteAt (addM r.2.2.2.2.1 (2, v, q, op, f)).1 (2, v, q, ⟨#[]⟩, r.1) j then voteM r.1 ((addM r.2.2.2.2.1 (2, v, q, op, f)).1, []) 2 v q op else ((addM r.2.2.2.2.1 (2, v, q, op, f)).1, [])
noncomputable def preR (r : replicaSh.T) (v q f : Int) (op : ByteArray) : RS :=
  ((r.1, r.2.1, r.2.2.1, (if (show Int from r.2.2.2.1) < q then q else r.2.2.2.1), (preS r v q f op).1, r.2.2.2.2.2), (preS r v q f op).2)
noncomputable def castR (r : replicaSh.T) (k v q f : Int) (op : ByteArray) : RS := ((r.1, r.2.1, r.2.2.1, r.2.2.2.1, (addM r.2.2.2.2.1 (k, v, q, op, f)).1, r.2.2.2.2.2), [])
noncomputable def hearR (r : replicaSh.T) (k f v q : Int) (op : ByteArray) (cs : List changeSh.T) : Int ⊕ RS :=
  if k = 1 then (if ¬ v = r.2.1 ∨ (show Bool from r.2.2.1) = true then .inl 10 else .inr (preR r v q f op))
  else if k = 2 ∨ k = 3 then .inr (castR r k v q f op)
  else if v < r.2.1 ∨ (v = r.2.1 ∧ (show Bool from r.2.2.1) = false) then .inl 10
  else if k = 4 then (match cs[0]? with
    | some c => chgR (r, []) c
    | none => .inl 10)
  else .inr (entR (r, []) (k, f, v, q, op, cs))
open Classical in
noncomputable def hearM (r : replicaSh.T) (s : saySh.T) : replicaOutSh.T := if RepOk r ∧ SayOk s.1 s.2.1 s.2.2.1 s.2.2.2.1 s.2.2.2.2.1 s.2.2.2.2.2 ∧ ¬ (show Int from s.2.1) = r.1 then outR (hearR r s.1 s.2.1 s.2.2.1 s.2.2.2.1 s.2.2.2.2.1 s.2.2.2.2.2) else illM 1
noncomputable def tmC (r : replicaSh.T) : changeSh.T := (r.1, (show Int from r.2.1) + 1, chgM r.2.2.2.2.1 ((show Int from r.2.1) + 1).toNat 6)
noncomputable def tmR (r : replicaSh.T) : RS := ((r.1, (show Int from r.2.1) + 1, true, r.2.2.2.1, r.2.2.2.2.1, r.2.2.2.2.2), [(4, r.1, (show Int from r.2.1) + 1, 0, ⟨#[]⟩, [tmC r])])
noncomputable def timeR (r : replicaSh.T) : Int ⊕ RS := if 7 ≤ (show Int from r.2.1) then .inl 9 else chgR (tmR r) (tmC r)
open Classical in
noncomputable def timeM (r : replicaSh.T) : replicaOutSh.T := if RepOk r then outR (timeR r) else illM 1
theorem sayOk_nsay {k f v q : Int} {op : ByteArray} {cs : List changeSh.T} (H : SayOk k f v q op cs) (ok : saySh.ok (k, f, v, q, op, cs)) : NSay (k, f, v, q, op, cs) := by
  refine ⟨H.1, H.2.1, chgsOk_prfs H.2.2.1, ok, ?_⟩
  have := H.cvv
  show 0 + (0 + (0 + (0 + (0 + (Sh.sl changeSh).cn cs)))) ≤ 1000
  omega
theorem ROk.up {M n m : Nat} {x : RS} (R : ROk M n x) (h : n ≤ m) : ROk M m x := ⟨R.id, R.vw, R.tp, R.vs.up h, R.hl, R.hz, R.ncg, R.cgs, R.okn, R.cvn⟩
theorem VSk.two {n : Nat} {st : VS} (K : VSk n st) {id k v q f : Int} {op : ByteArray} (hy : VotOk k v q op f) (hi : InR 0 3 id) (P : Prop) [Decidable P] : VSk (n + 1) (if P then voteM id ((addM st.1 (k, v, q, op, f)).1, st.2) k v q op else ((addM st.1 (k, v, q, op, f)).1, st.2)) := by
  have K2 := K.add hy
  split
  · exact K2.vote ⟨hy.1, hy.2.1, hy.2.2.1, hy.2.2.2.1, hi⟩
  · exact K2.up (Nat.le_succ _)
open Classical in
theorem ROk.hear {r : replicaSh.T} (R : ROk 1000 0 (r, [])) {k f v q : Int} {op : ByteArray} {cs : List changeSh.T} (H : SayOk k f v q op cs) (ok : saySh.ok (k, f, v, q, op, cs)) : OutK 7 (hearR r k f v q op cs) := by
  unfold hearR
  have h3 := H.2.2.2
  have hid := R.id
  have htp := R.tp
  have h10 : OutK 7 (.inl 10) := ⟨by decide, by decide⟩
  split
  · rename_i hk
    split
    · exact h10
    · obtain ⟨hk3, hq, ho, _, _⟩ : InR 1 3 k ∧ InR 1 6 q ∧ op.size ≤ 120 ∧ cs.length = 0 ∧ (k = 1 → f = v % 4) := by
        rcases h3 with h | h | h
        · exact h
        · omega
        · omega
      have K := (R.vs.two (k := 2) (v := v) (q := q) (op := op) (f := f) ⟨.inl rfl, H.2.1, hq, ho, H.1⟩ hid ((addM r.2.2.2.2.1 (2, v, q, op, f)).2 = true ∧ ∀ j, j < (addM r.2.2.2.2.1 (2, v, q, op, f)).1.length → ¬ VoteAt (addM r.2.2.2.2.1 (2, v, q, op, f)).1 (2, v, q, ⟨#[]⟩, r.1) j)).up (m := 7) (by decide)
      refine ⟨R.id, R.vw, ?_, K, R.hl, R.hz, R.ncg, R.cgs, R.okn, R.cvn⟩
      show InR 0 6 (if (show Int from r.2.2.2.1) < q then q else r.2.2.2.1)
      split
      · unfold InR at *; omega
      · exact htp
  split
  · rename_i hk
    obtain ⟨hk3, hq, ho, _, _⟩ : InR 1 3 k ∧ InR 1 6 q ∧ op.size ≤ 120 ∧ cs.length = 0 ∧ (k = 1 → f = v % 4) := by
      rcases h3 with h | h | h
      · exact h
      · omega
      · omega
    have K := (R.vs.add (k := k) (v := v) (q := q) (op := op) (f := f) ⟨hk, H.2.1, hq, ho, H.1⟩).up (m := 7) (by decide)
    exact ⟨R.id, R.vw, htp, K, R.hl, R.hz, R.ncg, R.cgs, R.okn, R.cvn⟩
  split
  · exact h10
  split
  · cases hc : cs[0]? with
    | none => exact h10
    | some c => exact R.chg (chgOk_cgw (Asc.mem H.2.2.1 (List.mem_of_getElem? hc)).1) ⟨Int.le_trans (by decide) (Asc.mem H.2.2.1 (List.mem_of_getElem? hc)).1.2.1.1, (Asc.mem H.2.2.1 (List.mem_of_getElem? hc)).1.2.1.2⟩
  · exact (R.ent (sayOk_nsay H ok)).up (by decide)
theorem chgM_prf {l : List voteSh.T} (H : VotsOk l) {below : Nat} : ∀ {n : Nat}, n ≤ 6 → PrfsOk (chgM l below n)
  | 0, _ => fun p hp => by cases hp
  | n + 1, hn => fun p hp => by
    unfold chgM at hp
    rcases List.mem_append.1 hp with hp | hp
    · exact chgM_prf H (by omega) p hp
    · cases e : bestM l ((n + 1 : Nat) : Int) below with
      | none => rw [e] at hp; cases hp
      | some y =>
        obtain ⟨v, op⟩ := y
        rw [e] at hp
        have hb := bestM_in H e
        rw [List.mem_singleton.1 hp]
        exact ⟨hb.1, by show (1 : Int) ≤ ((n + 1 : Nat) : Int); omega, by show ((n + 1 : Nat) : Int) ≤ 6; omega, hb.2.2⟩
theorem chgM_by {l : List voteSh.T} {below : Nat} : ∀ {n : Nat}, ∀ p ∈ chgM l below n, (show List Int from p.2.2.2).length ≤ 4
  | 0 => fun p hp => by cases hp
  | n + 1 => fun p hp => by
    unfold chgM at hp
    rcases List.mem_append.1 hp with hp | hp
    · exact chgM_by p hp
    · cases e : bestM l ((n + 1 : Nat) : Int) below with
      | none => rw [e] at hp; cases hp
      | some y =>
        rw [e] at hp
        rw [List.mem_singleton.1 hp]
        exact upP_len
theorem tmC_w {r : replicaSh.T} (R : ROk 1000 0 (r, [])) (hv : (show Int from r.2.1) < 7) : CgW (tmC r) := by
  obtain ⟨(id : Int), (view : Int), (chg : Bool), (top : Int), (vs : List voteSh.T), tl⟩ := r
  have H : VotsOk vs := R.vs.H
  have hvw : InR 0 7 view := R.vw
  have hid : InR 0 3 id := R.id
  have hv : view < 7 := hv
  have hb : (view + 1).toNat ≤ 1000 := by unfold InR at hvw; omega
  have hc := chgM_cn H hb
  have hl := chgM_len vs (view + 1).toNat 6
  refine ⟨⟨inrOk hid (by omega) (by omega), ?_, Nat.le_trans hl (by decide), fun p hp => (chgM_mem H hb (by omega) p hp).1⟩, ?_, fun p hp => ?_, ⟨trivial, trivial, Nat.le_trans hl (by decide), fun p hp => ⟨trivial, trivial, ?_, ?_, fun _ _ => trivial⟩⟩, hl⟩
  · show (-9223372036854775808 : Int) ≤ view + 1 ∧ view + 1 ≤ 9223372036854775807
    unfold InR at hvw; omega
  · show 1 + (1 + (Sh.sl proofSh).cn (chgM vs (view + 1).toNat 6)) ≤ 100
    omega
  · exact chgM_prf H (by decide) p hp
  · exact Nat.le_trans (chgM_prf H (by decide) p hp).2.2.2 (by decide)
  · exact Nat.le_trans (chgM_by p hp) (by decide)
theorem ROk.time {r : replicaSh.T} (R : ROk 1000 0 (r, [])) : OutK 8 (timeR r) := by
  obtain ⟨(id : Int), (view : Int), (chg : Bool), (top : Int), (vs : List voteSh.T), tl⟩ := r
  unfold timeR
  split
  · exact ⟨by decide, by decide⟩
  · rename_i hv
    have hvw : InR 0 7 view := R.vw
    have hid : InR 0 3 id := R.id
    have hv : ¬ 7 ≤ view := hv
    have W := tmC_w R (by omega)
    have S : SayS (4, id, view + 1, 0, ⟨#[]⟩, [tmC (id, view, chg, top, vs, tl)]) := by
      have hz : Sh.int.ok (0 : Int) := by show (-9223372036854775808 : Int) ≤ 0 ∧ (0 : Int) ≤ 9223372036854775807; omega
      have h4 : Sh.int.ok (4 : Int) := by show (-9223372036854775808 : Int) ≤ 4 ∧ (4 : Int) ≤ 9223372036854775807; omega
      have hc : (Sh.sl changeSh).cn [tmC (id, view, chg, top, vs, tl)] ≤ 1 * 100 := Sh.cn_sl (e := changeSh) (Nat.le_refl _) (fun c hc => by rw [List.mem_singleton.1 hc]; exact W.2.1)
      refine ⟨⟨h4, inrOk hid (by omega) (by omega), W.1.2.1, hz, Nat.zero_le _, Nat.le_of_ble_eq_true rfl, fun c hc => by rw [List.mem_singleton.1 hc]; exact W.1⟩, ?_⟩
      show 1 + (1 + (1 + (1 + (1 + (Sh.sl changeSh).cn [tmC (id, view, chg, top, vs, tl)])))) ≤ 1100
      omega
    have hv8 : InR 0 7 (view + 1) := by unfold InR at *; omega
    have R1 : ROk 1000 1 (tmR (id, view, chg, top, vs, tl)) := ⟨R.id, hv8, R.tp, ⟨R.vs.H, Nat.le_refl _, fun s hs => by rw [List.mem_singleton.1 hs]; exact S⟩, R.hl, R.hz, R.ncg, R.cgs, R.okn, R.cvn⟩
    exact R1.chg W hv8
theorem hearM_oks (r : replicaSh.T) (ok : replicaSh.ok r) (s : saySh.T) (oks : saySh.ok s) : replicaOutSh.ok (hearM r s) ∧ replicaOutSh.cv (hearM r s) ≤ 900000 := by
  unfold hearM
  split
  · rename_i H
    exact (ROk.hear (.of H.1 ok) H.2.1 oks).out (by decide)
  · exact ⟨(illM_oks 1 ⟨by decide, by decide⟩).1, by have := (illM_oks 1 ⟨by decide, by decide⟩).2; omega⟩
theorem timeM_oks (r : replicaSh.T) (ok : replicaSh.ok r) : replicaOutSh.ok (timeM r) ∧ replicaOutSh.cv (timeM r) ≤ 900000 := by
  unfold timeM
  split
  · rename_i H
    exact (ROk.time (.of H ok)).out (by decide)
  · exact ⟨(illM_oks 1 ⟨by decide, by decide⟩).1, by have := (illM_oks 1 ⟨by decide, by decide⟩).2; omega⟩
end Go.Proofs.YtpgfjadjhliohaaGreat
end
