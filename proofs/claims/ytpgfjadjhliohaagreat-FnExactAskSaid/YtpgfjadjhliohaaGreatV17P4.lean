/- N2, G2, E1, W14, X0, X1, X2, P4. -/
import Derived.Test.YtpgfjadjhliohaaGreatV17N1
import Derived.Test.YtpgfjadjhliohaaGreatV17G1
import Derived.Test.YtpgfjadjhliohaaGreatV17C3
import Derived.Test.YtpgfjadjhliohaaGreatV17W13
import Derived.Test.YtpgfjadjhliohaaGreatV17W4
section
namespace Go.Dat
open Go.Abs
def Sh.wide : Sh → Bool
  | .int => true
  | .bool => true
  | .str => true
  | .byte => true
  | .pair a b => a.wide && b.wide
  | .sl e => decide (e.cells ≤ 100) && e.wide
theorem szL_cn {α : Type} {f : α → Int → Int} {c : α → Nat} {k : Nat} (hk : k ≤ 100) (hle : ∀ x l, 0 ≤ l → -1 ≤ f x l ∧ f x l ≤ l) (hf : ∀ x l, 0 ≤ l → 0 ≤ f x l → (c x : Int) ≤ k + 100 * (l - f x l)) : ∀ (xs : List α) (l : Int), 0 ≤ l → 0 ≤ szL f xs l → ((xs.map c).sum : Int) ≤ 100 * xs.length + 100 * (l - szL f xs l) := by
  intro xs
  induction xs with
  | nil => intro l h0 h1; simp [szL]
  | cons x xs ih =>
    intro l h0 h1
    unfold szL at h1 ⊢
    split at h1
    · omega
    · rename_i hn
      rw [if_neg hn]
      have h2 := hle x l h0
      have h3 := hf x l h0 (by omega)
      have h4 := ih (f x l) (by omega) h1
      simp only [List.map_cons, List.sum_cons, List.length_cons]
      omega
theorem Sh.cn_le : ∀ (s : Sh), s.wide = true → ∀ (x : s.T) (l : Int), 0 ≤ l → 0 ≤ s.sz x l → (s.cn x : Int) ≤ s.cells + 100 * (l - s.sz x l) := by
  intro s
  induction s with
  | int => intro _ x l h0 h1; simp [Sh.cn, Sh.cells, Sh.sz]
  | bool => intro _ x l h0 h1; simp [Sh.cn, Sh.cells, Sh.sz]
  | byte => intro _ x l h0 h1; simp [Sh.cn, Sh.cells, Sh.sz]
  | str =>
    intro _ x l h0 h1
    have := Sh.str.sz_le x l h0
    show ((1 : Nat) : Int) ≤ (1 : Nat) + _
    omega
  | pair a b iha ihb =>
    intro hw x l h0 h1
    simp only [Sh.wide, Bool.and_eq_true] at hw
    unfold Sh.sz at h1 ⊢
    have h2 := a.sz_le x.1 l h0
    split at h1
    · omega
    · rename_i hn
      rw [if_neg hn]
      have h3 := iha hw.1 x.1 l h0 (by omega)
      have h4 := ihb hw.2 x.2 _ (by omega) h1
      have e1 : (Sh.pair a b).cn x = a.cn x.1 + b.cn x.2 := rfl
      have e2 : (Sh.pair a b).cells = a.cells + b.cells := rfl
      rw [e1, e2]; omega
  | sl e ih =>
    intro hw xs l h0 h1
    simp only [Sh.wide, Bool.and_eq_true, decide_eq_true_eq] at hw
    unfold Sh.sz at h1 ⊢
    split at h1
    · omega
    · rename_i hn
      rw [if_neg hn]
      have h3 := szL_cn (c := e.cn) hw.1 e.sz_le (fun x l a b => ih hw.2 x l a b) xs _ (by omega) h1
      have e1 : (Sh.sl e).cn xs = (List.map e.cn xs).sum := rfl
      rw [e1]
      have h4 : (0 : Int) ≤ ((Sh.sl e).cells : Int) := Int.natCast_nonneg _
      omega
theorem Sh.cv_le : ∀ (s : Sh), s.wide = true → ∀ (x : s.T) (l : Int), 0 ≤ l → 0 ≤ s.sz x l → (s.cv x : Int) ≤ 100 * (l - s.sz x l) := by
  intro s
  induction s with
  | int => intro _ x l h0 h1; simp [Sh.cv, Sh.sz]
  | bool => intro _ x l h0 h1; simp [Sh.cv, Sh.sz]
  | byte => intro _ x l h0 h1; simp [Sh.cv, Sh.sz]
  | str =>
    intro _ x l h0 h1
    have := Sh.str.sz_le x l h0
    show ((0 : Nat) : Int) ≤ _
    omega
  | pair a b iha ihb =>
    intro hw x l h0 h1
    simp only [Sh.wide, Bool.and_eq_true] at hw
    unfold Sh.sz at h1 ⊢
    have h2 := a.sz_le x.1 l h0
    split at h1
    · omega
    · rename_i hn
      rw [if_neg hn]
      have h3 := iha hw.1 x.1 l h0 (by omega)
      have h4 := ihb hw.2 x.2 _ (by omega) h1
      have e1 : (Sh.pair a b).cv x = a.cv x.1 + b.cv x.2 := rfl
      rw [e1]; omega
  | sl e _ =>
    intro hw xs l h0 h1
    simp only [Sh.wide, Bool.and_eq_true, decide_eq_true_eq] at hw
    unfold Sh.sz at h1 ⊢
    split at h1
    · omega
    · rename_i hn
      rw [if_neg hn]
      have h3 := szL_cn (c := e.cn) hw.1 e.sz_le (fun x l a b => Sh.cn_le e hw.2 x l a b) xs _ (by omega) h1
      have e1 : (Sh.sl e).cv xs = (List.map e.cn xs).sum := rfl
      rw [e1]
      omega
theorem leOut {a g g' : AHeap} {J : List Nat} (le : a.Le g) (w : a.wf) (o : Out J g g') (hJ : ∀ l ∈ J, a.n ≤ l) : a.Le g' :=
  ⟨Nat.le_trans le.n o.shp.n, fun l x hx => o.get l x (fun hm => by have h1 := hJ l hm; have h2 := w.lt hx; omega) (le.get l x hx)⟩
end Go.Dat
end
section
namespace Go.Abs
end Go.Abs
namespace Go.Proofs.YtpgfjadjhliohaaGreat
open Go.Abs Go.Dat
set_option maxRecDepth 100000
set_option maxHeartbeats 4000000
end Go.Proofs.YtpgfjadjhliohaaGreat
end
section
namespace Go.Dat
open Go.Abs
end Go.Dat
namespace Go.Proofs.YtpgfjadjhliohaaGreat
open Go.Abs Go.Dat
set_option maxRecDepth 100000
set_option maxHeartbeats 4000000
end Go.Proofs.YtpgfjadjhliohaaGreat
end
section
namespace Go.Dat
open Go.Abs
theorem inrOk {lo hi n : Int} (h : InR lo hi n) (h1 : -9223372036854775808 ≤ lo) (h2 : hi ≤ 9223372036854775807) : Sh.int.ok n := by
  show (-9223372036854775808 : Int) ≤ n ∧ n ≤ 9223372036854775807
  unfold InR at h; omega
theorem SayOk.cvv {k f v q : Int} {op : ByteArray} {cs : List changeSh.T} (H : SayOk k f v q op cs) : (Sh.sl changeSh).cn cs ≤ 1000 := by
  have h1 : (Sh.sl changeSh).cn cs ≤ 4 * 100 := Sh.cn_sl (e := changeSh) (ChgsOk.len H.2.2.1) (fun c hc => by
    have hx := (Asc.mem H.2.2.1 hc).1
    have h2 : (Sh.sl proofSh).cn c.2.2 ≤ 6 * 12 := Sh.cn_sl (e := proofSh) hx.len (fun p hp => by
      have hq := (Asc.mem hx.2.2 hp).1.2.2.2
      have h3 : (Sh.sl Sh.int).cn p.2.2.2 ≤ 4 * 1 := Sh.cn_sl (e := Sh.int) hq.len (fun _ _ => Nat.le_refl _)
      show 1 + (1 + (1 + (Sh.sl Sh.int).cn p.2.2.2)) ≤ 12
      omega)
    show 1 + (1 + (Sh.sl proofSh).cn c.2.2) ≤ 100
    omega)
  omega
theorem NewOk.cv {k f v q : Int} {op : ByteArray} {cs : List changeSh.T} (H : NewOk k f v q op cs) : (Sh.sl changeSh).cn cs ≤ 1000 := by
  rcases H with H | H
  · rw [List.length_eq_zero_iff.1 H.2.2.2.2.2]
    exact Nat.zero_le _
  · exact H.2.cvv
end Go.Dat
namespace Go.Proofs.YtpgfjadjhliohaaGreat
open Go.Abs Go.Dat
set_option maxRecDepth 100000
set_option maxHeartbeats 8000000
end Go.Proofs.YtpgfjadjhliohaaGreat
end
section
namespace Go.Dat
open Go.Abs
open Classical in
noncomputable def addM (l : List voteSh.T) (y : voteSh.T) : List voteSh.T × Bool := if (∃ j, j < l.length ∧ VoteAt l y j) ∨ 400 ≤ l.length then (l, false) else (l ++ [y], true)
theorem addM_old {l : List voteSh.T} {y : voteSh.T} (h : (∃ j, j < l.length ∧ VoteAt l y j) ∨ 400 ≤ l.length) : addM l y = (l, false) := if_pos h
theorem addM_new {l : List voteSh.T} {y : voteSh.T} (h : ¬ ((∃ j, j < l.length ∧ VoteAt l y j) ∨ 400 ≤ l.length)) : addM l y = (l ++ [y], true) := if_neg h
theorem VoteAt.app {l l' : List voteSh.T} {y : voteSh.T} {j : Nat} (hj : j < l.length) : VoteAt (l ++ l') y j ↔ VoteAt l y j := by
  unfold VoteAt
  rw [List.getElem?_append_left hj]
theorem addM_ok {l : List voteSh.T} {k v q f : Int} {op : ByteArray} (H : VotsOk l) (hy : VotOk k v q op f) : VotsOk (addM l (k, v, q, op, f)).1 := by
  by_cases hc : (∃ j, j < l.length ∧ VoteAt l (k, v, q, op, f) j) ∨ 400 ≤ l.length
  · rw [addM_old hc]; exact H
  · rw [addM_new hc]
    have hn : ∀ j, j < l.length → ¬ VoteAt l (k, v, q, op, f) j := fun j hj h => hc (.inl ⟨j, hj, h⟩)
    have hl : ¬ 400 ≤ l.length := fun h => hc (.inr h)
    refine ⟨by rw [List.length_append]; show l.length + 1 ≤ 400; omega, fun i hi => ?_⟩
    rw [List.length_append] at hi
    by_cases hi' : i < l.length
    · obtain ⟨x, e, h1, h2⟩ := H.2 i hi'
      exact ⟨x, by rw [List.getElem?_append_left hi']; exact e, h1, fun j hj h => h2 j hj ((VoteAt.app (by omega)).1 h)⟩
    · have hi2 : i = l.length := by have : i < l.length + 1 := hi; omega
      refine ⟨(k, v, q, op, f), by rw [hi2, List.getElem?_append_right (Nat.le_refl _), Nat.sub_self]; rfl, hy, fun j hj h => ?_⟩
      exact hn j (by omega) ((VoteAt.app (by omega)).1 h)
end Go.Dat
namespace Go.Proofs.YtpgfjadjhliohaaGreat
open Go.Abs Go.Dat
set_option maxRecDepth 100000
set_option maxHeartbeats 8000000
def Ql3 (a b : Prop) := True ∧ a ∧ b ∧ True
def Ql4 (a b c d e : Prop) := a ∧ b ∧ c ∧ d ∧ e
def Ql5 (a b : Prop) (c : Nat) (d : Prop) := a ∧ b ∧ c ≤ 140737488355328 ∧ d
def Ql6 (a : List Value) := Value.tuple (Array.mk a)
def Ql7 (a : Int) := Value.int IntKind.i64 a
def Ql8 := Ql7 0
def Ql9 (a : Option Addr) (b c : Nat) (d : AHeap) := some (Prod.mk (Value.slice a b c) d)
def Qla := (5 : Nat)
def Qlb (a : Option Addr) (b : List (Sh.T voteSh)) (c : Nat) := Value.slice a (List.length b) c
def Qlc (a b c : OX (Sh.T voteSh)) := Qlb (OX.a a) (OX.xs b) (OX.c c)
def Qld (a : AHeap) (b : List (List Value)) (c : Bool) := AHeap.push a (AObj.mk b Qla c)
def Qle (a b c : Int) (d : ByteArray) (e : Int) := [Ql7 a, Ql7 b, Ql7 c, Value.string d, Ql7 e]
def Qlf (a : List (List Value)) := List.all a (fun (row : List Value) =>
  decide (List.length row = (5 : Nat)) &&
    List.all row fun (v : Value) =>
      match v with
      | Value.agg cells => false
      | Value.tuple cells => false
      | Value.complex k re im => false
      | Value.chan r => false
      | x => true)
def Qlg (a b c : Nat) := Addr.mk a b (some c)
def Qlh := (0 : Nat)
def Qli (a : AHeap) (b c : Nat) := Value.slice (some (Qlg (AHeap.n a) Qlh Qla)) b c
def Qlj := Value.bool false
def Qlk (a : List (Sh.T voteSh)) := (↑(List.length a) : Int)
def Qll (a : List Value) := Value.agg (Array.mk a)
theorem voteAdd_spec (h : AHeap) (o : OX voteSh.T) (B : OXok voteSh h o) (k v q f : Int) (op : ByteArray) (hl : o.xs.length ≤ 400) :
    ∃ x h', ACall Tryz.prog 152 [.slice o.a o.xs.length o.c, .agg #[.int .i64 k, .int .i64 v, .int .i64 q, .string op, .int .i64 f]] o.g x h' ∧ ∃ (o' : OX voteSh.T) (cd : Int), h' = o'.g ∧ OXok voteSh h o' ∧ o'.xs = (addM o.xs (k, v, q, op, f)).1 ∧
      x = .tuple #[.slice o'.a o'.xs.length o'.c, .bool (addM o.xs (k, v, q, op, f)).2, .int .i64 cd] ∧ o.g.n ≤ o'.g.n ∧ (∀ z w, z ∉ o.ids → o.g.get z = some w → o'.g.get z = some w) ∧ ∀ z ∈ o'.ids, o.g.n ≤ z ∨ z ∈ o.ids := by
  refine acall_q fun Q HQ => ?_
  refine acall_vc (fun _ => false) (fun _ => []) (fun _ => .none) mixed Tryz.func152 rfl rfl rfl (Nat.le_of_ble_eq_true rfl) (by (refine vc_mp (by kernel_rfl : (Ql3 (Ql4 True (True ∧ True) True (True ∧ True) True) True) = _) ?_; delta Ql3 Ql4); simp only [and_self]) ?_
  have SL : Sl o.g voteSh o.xs (.slice o.a o.xs.length o.c) := B.sn.so.sl
  obtain ⟨_, g, A, le, w, i, rfl, hi⟩ := voteIndex_spec o.g B.wf o.a o.c o.xs k v q f op SL (by omega)
  have same : ∀ cd, (∃ j, j < o.xs.length ∧ VoteAt o.xs (k, v, q, op, f) j) ∨ 400 ≤ o.xs.length → Q (.tuple #[.slice o.a o.xs.length o.c, .bool false, .int .i64 cd]) g := fun cd hc =>
    HQ _ _ ⟨⟨o.a, o.c, o.xs, o.ids, g⟩, cd, rfl, B.grow le w, by rw [addM_old hc], by rw [addM_old hc], le.n, fun z x _ hz => le.get z x hz, fun z hz => .inr hz⟩
  (refine vc_mp (by kernel_rfl : (∃ (x : Int) (h' : AHeap), ACall Tryz.prog 125 [Qlc o o o, Qll (Qle k v q op f)] (OX.g o) (Ql7 x) h' ∧ bs (decide (x ≥ 0)) (Q (Ql6 [Qlc o o o, Qlj, Ql8]) h') (bs (decide (Qlk (OX.xs o) = 400)) (Q (Ql6 [Qlc o o o, Qlj, Ql7 9]) h') (∃ (xs : List (List Value)), Ql5 (rowsV (Qld h' [Qle k v q op f] true) (Qli h' 1 2) = some xs) (Qlf xs = true) ((List.length (OX.xs o) + List.length xs) * 48) (∃ (a : Option Addr) (n c : Nat) (h'_1 : AHeap), AHeap.app (Qld h' [Qle k v q op f] true) (Qlc o o o) xs Qla = Ql9 a n c h'_1 ∧ Q (Ql6 [Value.slice a n c, Value.bool true, Ql8]) h'_1)))) = _) ?_; delta Ql5 Ql6 Ql7 Ql8 Ql9 Qla Qlb Qlc Qld Qle Qlf Qlg Qlh Qli Qlj Qlk Qll)
  refine ⟨_, _, A, bs_d (fun e1 => same 0 (.inl ?_)) (fun e1 => bs_d (fun e2 => same 9 (.inr (by omega))) (fun e2 => ?_))⟩
  · rcases hi with ⟨rfl, _⟩ | ⟨m, hm, rfl, h2, _⟩
    · exact absurd e1 (by decide)
    · exact ⟨m, hm, h2⟩
  · have hn : ¬ ((∃ j, j < o.xs.length ∧ VoteAt o.xs (k, v, q, op, f) j) ∨ 400 ≤ o.xs.length) := fun hc => by
      rcases hc with ⟨j, hj, hv⟩ | hc
      · exact (hi.none.1 (by omega)) j hj hv
      · omega
    have B2 := B.grow le w
    obtain ⟨o', e6, B', hx, hn2, hk, hid⟩ := B2.app (x := (k, v, q, op, f)) (rn_vote.2 ⟨rfl, rfl⟩) .nil (fun _ _ h => by cases h)
    refine ⟨_, rowsV_push, rfl, by simp only [List.length_cons, List.length_nil]; omega, _, _, _, o'.g, e6, HQ _ _ ⟨o', 0, rfl, B', by rw [hx, addM_new hn], by rw [addM_new hn], Nat.le_trans le.n hn2, fun z x hz hg => hk z x hz (le.get z x hg), fun z hz => ?_⟩⟩
    rcases hid z hz with h | h | h
    · have := le.n; left; dsimp only at h; omega
    · exact .inr h
    · cases h
end Go.Proofs.YtpgfjadjhliohaaGreat
end
section
namespace Go.Proofs.YtpgfjadjhliohaaGreat
open Go.Abs Go.Dat
set_option maxRecDepth 100000
set_option maxHeartbeats 8000000
def Qlm (a : Prop) := True ∧ a ∧ True
def Qln (a : AHeap) := Qld a List.nil true
def Qlo (a : AHeap) (b : List (List Value)) := Qld (Qln a) b true
theorem l11Add_spec (h : AHeap) (hw : h.wf) (l : List voteSh.T) (a : Option Addr) (c : Nat) (h1 : Sl h voteSh l (.slice a l.length c)) (k v q f : Int) (op : ByteArray) (hl : l.length ≤ 400) :
    ∃ x h', ACall Tryz.prog 104 [.slice a l.length c, .agg #[.int .i64 k, .int .i64 v, .int .i64 q, .string op, .int .i64 f]] h x h' ∧ h.Le h' ∧ h'.wf ∧
      ((∃ o : OX voteSh.T, x = .agg #[.slice o.a o.xs.length o.c, .bool (addM l (k, v, q, op, f)).2, .int .i64 0] ∧ h' = o.g ∧ OXok voteSh h o ∧ o.xs = (addM l (k, v, q, op, f)).1) ∨
       (x = .agg #[.slice none 0 0, .bool false, .int .i64 9] ∧ addM l (k, v, q, op, f) = (l, false))) := by
  refine acall_q fun Q HQ => ?_
  have wp := hw.push ⟨[], 5, true⟩
  have B0 : SoB voteSh h (h.push ⟨[], 5, true⟩) (some ⟨h.n, 0, some 5⟩) 0 1 [] [h.n] := so_empty (s := voteSh) hw
  refine acall_vc (fun _ => false) (fun r => match r with | 5 => [(1, 0, []), (3, 1, []), (0, 2, [3]), (4, 2, [3, 0]), (2, 3, [3, 4]), (5, 3, []), (6, 0, []), (7, 3, [])] | _ => []) (fun _ => .none) mixed Tryz.func104 rfl rfl rfl (Nat.le_of_ble_eq_true rfl) (by (refine vc_mp (by kernel_rfl : (Ql4 True (Qlm (True ∧ True)) (Qlm (True ∧ True)) True True) = _) ?_; delta Ql4 Qlm); simp only [and_self]) ?_
  (refine vc_mp (by kernel_rfl : (∃ (x : Bool) (h' : AHeap), ACall Tryz.prog 62 [Qlb a l c, Qll (Qle k v q op f)] h (Value.bool x) h' ∧ bs x (∃ (xs : List (List Value)), Ql5 (rowsV (Qln h') (Qlb a l c) = some xs) (Qlf xs = true) ((Qlh + List.length xs) * 48) (∃ (a : Option Addr) (n c : Nat) (h'_1 : AHeap), AHeap.app (Qln h') (Qli h' Qlh 1) xs Qla = Ql9 a n c h'_1 ∧ Q (Qll [Value.slice a n c, Qlj, Ql7 (Int.ofNat Qlh)]) h'_1)) (bs (decide (Qlk l ≥ 400)) (Q (Qll [Value.slice none Qlh Qlh, Qlj, Ql7 9]) h') (Qll (Qle k v q op f) = Qll (Qle k v q op f) ∧ (AHeap.get (Qlo h' [Qle k v q op f]) (AHeap.n h') = AHeap.get (Qln h') (AHeap.n h') ∧ AHeap.n (Qln h') ≤ AHeap.n (Qlo h' [Qle k v q op f])) ∧ Qll (Qle k v q op f) = Qll (Qle k v q op f) ∧ (∃ (xs : List (List Value)), Ql5 (rowsV (Qlo h' [Qle k v q op f]) (Qlb a l c) = some xs) (Qlf xs = true) ((Qlh + List.length xs) * 48) (∃ (a : Option Addr) (n c : Nat) (h'_1 : AHeap), AHeap.app (Qlo h' [Qle k v q op f]) (Qli h' Qlh 1) xs Qla = Ql9 a n c h'_1 ∧ (AHeap.get h'_1 (AHeap.n (Qln h')) = AHeap.get (Qlo h' [Qle k v q op f]) (AHeap.n (Qln h')) ∧ AHeap.n (Qlo h' [Qle k v q op f]) ≤ AHeap.n h'_1) ∧ Qll (Qle k v q op f) = Qll (Qle k v q op f) ∧ (∃ (xs : List (List Value)), Ql5 (rowsV h'_1 (Qli (Qln h') 1 2) = some xs) (Qlf xs = true) ((n + List.length xs) * 48) (∃ (a_1 : Option Addr) (n_1 c_1 : Nat) (h' : AHeap), AHeap.app h'_1 (Value.slice a n c) xs Qla = Ql9 a_1 n_1 c_1 h' ∧ Q (Qll [Value.slice a_1 n_1 c_1, Value.bool true, Ql7 (Int.ofNat Qlh)]) h'))))))) = _) ?_; delta Ql5 Ql7 Ql9 Qla Qlb Qld Qle Qlf Qlg Qlh Qli Qlj Qlk Qll Qln Qlo)
  refine ⟨_, _, l11Has_spec h l a c k v q f op h1 (by omega), bs_b (fun e => ?_) (fun e => bs_d (fun e2 => ?_) (fun e2 => ?_))⟩
  · obtain ⟨rows, e1, e2, e3, a', c', g, ids', e4, B1, hn, hk, hi⟩ := SoB.appR rfl B0 h1
    rw [Nat.zero_add, List.nil_append] at B1
    rw [Nat.zero_add] at e4
    have hc : (∃ j, j < l.length ∧ VoteAt l (k, v, q, op, f) j) ∨ 400 ≤ l.length := by
      left
      refine Classical.byContradiction fun hn => of_tr e fun j hj hv => hn ⟨j, hj, hv⟩
    exact ⟨rows, e1, e2, by omega, _, _, _, g, e4, HQ _ _ ⟨B1.le, B1.wf, .inl ⟨⟨a', c', l, ids', g⟩, by rw [addM_old hc]; rfl, rfl, B1, by rw [addM_old hc]⟩⟩⟩
  · exact HQ _ _ ⟨.refl _, hw, .inr ⟨rfl, addM_old (.inr (by omega))⟩⟩
  · obtain ⟨g1, hg1⟩ : ∃ g1, g1 = (h.push ⟨[], 5, true⟩).push ⟨[[.int .i64 k, .int .i64 v, .int .i64 q, .string op, .int .i64 f]], 5, true⟩ := ⟨_, rfl⟩
    have le1 : (h.push ⟨[], 5, true⟩).Le g1 := by rw [hg1]; exact .push wp _
    have w1 : g1.wf := by rw [hg1]; exact wp.push _
    have q1 : g1.get (h.push ⟨[], 5, true⟩).n = some ⟨[[.int .i64 k, .int .i64 v, .int .i64 q, .string op, .int .i64 f]], 5, true⟩ := by rw [hg1]; exact AHeap.get_push_eq
    have q0 : g1.get h.n = (h.push ⟨[], 5, true⟩).get h.n := by rw [hg1]; exact AHeap.get_push_ne (by show h.n ≠ h.n + 1; omega)
    obtain ⟨rows, e1, e2', e3, a', c', g, ids', e4, B1, hn, hk, hi⟩ := SoB.appR rfl (B0.grow le1 w1) h1
    rw [Nat.zero_add, List.nil_append] at B1
    rw [Nat.zero_add] at e4
    have hne : (h.push ⟨[], 5, true⟩).n ∉ [h.n] := fun hm => by have e5 : h.n + 1 = h.n := List.mem_singleton.1 hm; omega
    have q2 := hk _ _ hne q1
    have hno : ¬ ((∃ j, j < l.length ∧ VoteAt l (k, v, q, op, f) j) ∨ 400 ≤ l.length) := fun hc => by
      rcases hc with ⟨j, hj, hv⟩ | hc
      · exact of_trn e fun H => H j hj hv
      · omega
    obtain ⟨l2, g2, ids2, e6, B2, hn2, hi2, hk2⟩ := B1.app (x := (k, v, q, op, f)) (rn_vote.2 ⟨rfl, rfl⟩) .nil (fun _ _ h => by cases h)
    rw [← hg1]
    refine ⟨rfl, ⟨q0, le1.n⟩, rfl, rows, e1, e2', by omega, _, _, _, g, e4, ⟨q2.trans q1.symm, hn⟩, rfl, [[.int .i64 k, .int .i64 v, .int .i64 q, .string op, .int .i64 f]], ?_, rfl, by simp only [List.length_cons, List.length_nil]; omega, _, _, _, g2, e6, ?_⟩
    · show g.rowsOf (.slice (some ⟨(h.push ⟨[], 5, true⟩).n, 0, some 5⟩) 1 2) = some _
      rw [get_rows q2 (by simp)]; rfl
    · have el : ((show List voteSh.T from l) ++ [(k, v, q, op, f)]).length = l.length + 1 := by simp
      refine HQ _ _ ⟨B2.le, B2.wf, .inl ⟨⟨_, 0, (show List voteSh.T from l) ++ [(k, v, q, op, f)], ids2, g2⟩, by rw [addM_new hno]; exact congrArg (fun n => Value.agg #[.slice (some ⟨l2, 0, some 5⟩) n 0, .bool true, .int .i64 0]) el.symm, rfl, ?_, by rw [addM_new hno]⟩⟩
      show SoB voteSh h g2 _ ((show List voteSh.T from l) ++ [(k, v, q, op, f)]).length 0 _ ids2
      rw [el]; exact B2
end Go.Proofs.YtpgfjadjhliohaaGreat
end
section
namespace Go.Dat
open Go.Abs
def AskedM (id view : Int) (vs : List voteSh.T) (log : List Sh.str.T) (op : ByteArray) : Prop := op ∈ log ∨ ∃ q, (2, view, q, op, id) ∈ vs
theorem take_none {α : Type} {l : List α} {x y : α} {i : Nat} (h : x ∉ l.take i) (hat : l[i]? = some y) (hne : x ≠ y) : x ∉ l.take (i + 1) := by
  have hl := (List.getElem?_eq_some_iff.1 hat).1
  have hx : l[i] = y := Option.some.inj ((List.getElem?_eq_getElem hl).symm.trans hat)
  rw [List.take_succ_eq_append_getElem hl, hx]
  intro hm
  rcases List.mem_append.1 hm with hm | hm
  · exact h hm
  · exact hne (List.mem_singleton.1 hm)
end Go.Dat
namespace Go.Proofs.YtpgfjadjhliohaaGreat
open Go.Abs Go.Dat
set_option maxRecDepth 100000
set_option maxHeartbeats 8000000
def idxwL (a : Option Addr) (c : Nat) (h : AHeap) (xs : List Sh.str.T) (op : ByteArray) : LSpec where
  ι := Nat
  κ := Unit
  I := fun i => i ≤ xs.length ∧ op ∉ xs.take i
  μ := fun i => xs.length - i
  head := fun i => ⟨[(0, .slice a xs.length c), (1, .string op), (7, .int .i64 xs.length), (8, .int .i64 i)], [], h⟩
  post := fun _ => ⟨[], [], h⟩
  R := fun _ _ => op ∉ xs
  ret := fun _ v h' => h' = h ∧ op ∈ xs ∧ ∃ r : Nat, v = .int .i64 r
def Qlp (a : List (Sh.T Sh.str)) (b : ByteArray) := Not (Membership.mem a b)
def Qlq (a : Prop) (b : Nat) (c d : Prop) := a ∧ 0 ≤ (↑b : Int) ∧ c ∧ d
def Qlr (a : Prop) (b : List (Sh.T Sh.str)) (c : ByteArray) (d : Prop) := a ∧ Membership.mem b c ∧ d
def Qls (a : Nat) := Ql7 (↑a : Int)
def Qlt (a : Nat) (b : List (Sh.T Sh.str)) (c : Nat) (d : List (Sh.T Sh.str)) (e : ByteArray) := a ≤ List.length b ∧ Qlp (List.take c d) e
def Qlu (a : Nat) := Ql7 (IntKind.wrap IntKind.i64 ((↑a : Int) + 1))
def Qlv (a b : ByteArray) := Value.string a = Value.string b
def Qlw (a : Option Addr) (b : List (Sh.T Sh.str)) (c : Nat) := Value.slice a (List.length b) c
def Qlx (a : AHeap) (b c : Nat) := AHeap.ld a b c Qlh 1
def Qly (a : Nat) := Int.toNat (↑a : Int)
def Qlz (a : List (Sh.T Sh.str)) := (↑(List.length a) : Int)
theorem idxWord_spec (h : AHeap) (a : Option Addr) (c : Nat) (xs : List Sh.str.T) (op : ByteArray) (hx : Sl h Sh.str xs (.slice a xs.length c)) (hn : xs.length ≤ 9223372036854775807) :
    ∃ r h', ACall Tryz.prog 151 [.slice a xs.length c, .string op] h r h' ∧ h' = h ∧ ((op ∈ xs ∧ ∃ i : Nat, r = .int .i64 i) ∨ (op ∉ xs ∧ r = .int .i64 (-1))) := by
  refine acall_q fun Q HQ => ?_
  refine acall_vc (fun _ => false) (fun _ => []) (fun _ => idxwL a c h xs op) mixed Tryz.func151 rfl rfl rfl (Nat.le_of_ble_eq_true rfl) ?_ ?_
  · (refine vc_mp (by kernel_rfl : (Ql3 (Ql4 True (∀ (i : Nat), Qlt i xs i xs op → bs (decide ((↑i : Int) < Qlz xs)) (∃ (l r : Nat), Qlq (a = some (Qlg l r 1)) i ((↑i : Int) < Qlz xs) (∃ (x : ByteArray), Qlx h l (r + Qly i) = some [Value.string x] ∧ bs (decide (op = x)) (Qlr (h = h) xs op (∃ (r : Nat), Qls i = Qls r)) (∃ (j : Nat), Ql4 (Qlw a xs c = Qlw a xs c) (Qlv op op) (Qls (List.length xs) = Qls (List.length xs)) (Qlu i = Qls j) (Ql4 (h = h) (Qlt j xs j xs op) (List.length xs - j < List.length xs - i) (∀ (k : Unit), Qlp xs op → Qlp xs op) (∀ (v : Value) (h_1 : AHeap), Qlr (h_1 = h) xs op (∃ (r : Nat), v = Qls r) → Qlr (h_1 = h) xs op (∃ (r : Nat), v = Qls r)))))) (∃ (j : Unit), h = h ∧ Qlp xs op)) True (True ∧ True) (Ql3 True (True ∧ True) ∧ True)) True) = _) ?_; delta Ql3 Ql4 Ql7 Qlg Qlh Qlp Qlq Qlr Qls Qlt Qlu Qlv Qlw Qlx Qly Qlz)
    simp only [true_and, and_true]
    rintro (i : Nat) ⟨hi, hall⟩
    refine bs_d (fun hlt => ?_) (fun hge => ⟨(), by rw [List.take_of_length_le (by omega)] at hall; exact hall⟩)
    obtain ⟨t, hat⟩ : ∃ y : ByteArray, xs[i]? = some y := ⟨_, List.getElem?_eq_getElem (by omega)⟩
    obtain ⟨l, r, row, ha, _, hrd, hld⟩ := hx.elem hat
    obtain rfl : row = [.string t] := hrd
    exact ⟨l, r, ha, Int.natCast_nonneg _, hlt, _, hld, bs_d (fun e => ⟨by rw [e]; exact List.mem_of_getElem? hat, i, rfl⟩) (fun e => ⟨i + 1, by rw [wrap_i64 (by omega)]; rfl, ⟨by omega, take_none hall hat e⟩, by omega, fun _ h => h, fun _ _ h => h⟩)⟩
  (refine vc_mp (by kernel_rfl : (∃ (i : Nat), Ql4 (Qlw a xs c = Qlw a xs c) (Qlv op op) (Qls (List.length xs) = Qls (List.length xs)) (Ql8 = Qls i) (h = h ∧ Qlt i xs i xs op ∧ (∀ (j : Unit), Qlp xs op → Q (Ql7 (-1)) h) ∧ (∀ (v : Value) (h_1 : AHeap), Qlr (h_1 = h) xs op (∃ (r : Nat), v = Qls r) → Q v h_1))) = _) ?_; delta Ql4 Ql7 Ql8 Qlp Qlr Qls Qlt Qlv Qlw)
  exact ⟨(0 : Nat), rfl, rfl, rfl, rfl, rfl, ⟨Nat.zero_le _, fun h => by cases h⟩, fun _ hn => HQ _ _ ⟨rfl, .inr ⟨hn, rfl⟩⟩, fun _ _ ⟨e, hm, r, hr⟩ => HQ _ _ ⟨e, .inl ⟨hm, r, hr⟩⟩⟩
def Qm0 (a b : Bool) := Value.bool a = Value.bool b
theorem hasWord_spec (h : AHeap) (a : Option Addr) (c : Nat) (xs : List Sh.str.T) (op : ByteArray) (hx : Sl h Sh.str xs (.slice a xs.length c)) (hn : xs.length ≤ 9223372036854775807) :
    ACall Tryz.prog 111 [.slice a xs.length c, .string op] h (.bool (tr (op ∈ (show List ByteArray from xs)))) h := by
  obtain ⟨_, h0, hA, e0, hr⟩ := idxWord_spec h a c xs op hx hn
  rw [e0] at hA
  clear e0
  refine acall_out (acall_vc (fun _ => false) (fun _ => []) (fun _ => .none) mixed Tryz.func111 rfl rfl rfl (Nat.le_of_ble_eq_true rfl) (by (refine vc_mp (by kernel_rfl : (Qlm True) = _) ?_; delta Qlm); simp only [and_self]) ?_)
  (refine vc_mp (by kernel_rfl : (∃ (x : Int) (h' : AHeap), ACall Tryz.prog 151 [Qlw a xs c, Value.string op] h (Ql7 x) h' ∧ Qm0 (decide (x ≥ 0)) (tr (Membership.mem xs op)) ∧ h' = h) = _) ?_; delta Ql7 Qlw Qm0)
  rcases hr with ⟨hm, i, rfl⟩ | ⟨hm, rfl⟩
  · exact ⟨_, _, hA, congrArg _ ((decide_eq_true (Int.natCast_nonneg _)).trans (tr_true hm)), rfl⟩
  · exact ⟨_, _, hA, congrArg _ ((by decide : decide ((-1 : Int) ≥ 0) = false).trans (tr_false hm)), rfl⟩
def laL (h : AHeap) (log : List Sh.str.T) (C : List Value) (op : ByteArray) : LSpec where
  ι := Nat
  κ := Unit
  I := fun i => i ≤ log.length ∧ op ∉ log.take i
  μ := fun i => log.length - i
  head := fun i => ⟨[(1, .string op), (2, .complex .f32 0 0), (5, .int .i64 i)], [C], h⟩
  post := fun _ => ⟨[(1, .string op), (2, .complex .f32 0 0)], [C], h⟩
  R := fun _ _ => op ∉ log
  ret := fun _ v h' => v = .bool true ∧ h' = h ∧ op ∈ log
def lvL (h : AHeap) (vs : List voteSh.T) (C : List Value) (id view : Int) (op : ByteArray) : LSpec where
  ι := Nat
  κ := Unit
  I := fun i => i ≤ vs.length ∧ ∀ q, (2, view, q, op, id) ∉ vs.take i
  μ := fun i => vs.length - i
  head := fun i => ⟨[(1, .string op), (2, .complex .f32 0 0), (6, .int .i64 i)], [C], h⟩
  post := fun _ => ⟨[], [], h⟩
  R := fun _ _ => ∀ q, (2, view, q, op, id) ∉ vs
  ret := fun _ v h' => v = .bool true ∧ h' = h ∧ ∃ q, (2, view, q, op, id) ∈ vs
def Qm1 (a : List (Sh.T voteSh)) (b : Int) (c : Sh.T Sh.int) (d : ByteArray) (e : Int) := Membership.mem a (Prod.mk 2 (Prod.mk b (Prod.mk c (Prod.mk d e))))
def Qm2 (a : List (Sh.T voteSh)) (b : Int) (c : Sh.T Sh.int) (d : ByteArray) (e : Int) := Not (Qm1 a b c d e)
def Qm3 := Value.complex FloatKind.f32 Qlh Qlh
def Qm4 := Qm3 = Qm3
def Qm5 (a b : ByteArray) (c d : Nat) (e f g h i j : Prop) := Ql4 (Qlv a b) Qm4 (Qlu c = Qls d) e (Ql4 f g h i j)
def Qm6 (a : Value) (b c : AHeap) (d : Prop) := a = Value.bool true ∧ b = c ∧ d
def Qm7 (a : List (Sh.T voteSh)) (b : Nat) (c : List (Sh.T voteSh)) (d : Nat) := List.length a - b < List.length c - d
def Qm8 (a : Nat) (b : List (Sh.T voteSh)) (c : Prop) := a ≤ List.length b ∧ c
def Qm9 (a b : Int) (c : Bool) (d : Int) (e : Option Addr) (f : List (Sh.T voteSh)) (g : Nat) (h : Option Addr) (i : List (Sh.T changeSh)) (j : Nat) (k l m n : Int) (o : ByteArray) (p : Option Addr) (q : List (Sh.T changeSh)) (r : Nat) (s : Option Addr) (t : List (Sh.T Sh.str)) (u : Nat) := [Ql7 a, Ql7 b, Value.bool c, Ql7 d, Qlb e f g, Value.slice h (List.length i) j, Ql7 k, Ql7 l, Ql7 m, Ql7 n, Value.string o, Value.slice p (List.length q) r, Qlw s t u]
def Qma (a : Value) (b : Prop) (c : List (Sh.T Sh.str)) (d : ByteArray) := a = Value.bool true ∧ b ∧ Membership.mem c d
theorem l13Asked_spec (h : AHeap) (id view top k f v q : Int) (chg : Bool) (vs : List voteSh.T) (cg : List changeSh.T) (op : ByteArray) (cs : List changeSh.T) (log : List Sh.str.T) (a1 : Option Addr) (c1 : Nat) (a2 : Option Addr) (c2 : Nat) (a3 : Option Addr) (c3 : Nat) (a4 : Option Addr) (c4 : Nat) (op2 : ByteArray)
    (h1 : Sl h voteSh vs (.slice a1 vs.length c1)) (h4 : Sl h Sh.str log (.slice a4 log.length c4)) (n1 : vs.length ≤ 400) (n4 : log.length ≤ 400) :
    ACall Tryz.prog 51 [.agg #[.int .i64 id, .int .i64 view, .bool chg, .int .i64 top, .slice a1 vs.length c1, .slice a2 cg.length c2, .int .i64 k, .int .i64 f, .int .i64 v, .int .i64 q, .string op, .slice a3 cs.length c3, .slice a4 log.length c4], .string op2] h (.bool (tr (AskedM id view vs log op2))) h := by
  refine acall_out (acall_vc (fun _ => false) (fun _ => []) (fun n => bif n == 0 then laL h log (repC id view top k f v q chg a1 vs.length c1 a2 cg.length c2 op a3 cs.length c3 a4 log.length c4) op2 else lvL h vs (repC id view top k f v q chg a1 vs.length c1 a2 cg.length c2 op a3 cs.length c3 a4 log.length c4) id view op2) mixed Tryz.func51 rfl rfl rfl (Nat.le_of_ble_eq_true rfl) ?_ ?_)
  · (refine vc_mp (by kernel_rfl : (Ql4 True (Ql4 True (∀ (i : Nat), Qlt i log i log op2 → bs (decide ((↑i : Int) < Qlz log)) (∃ (l r : Nat), Qlq (a4 = some (Qlg l r 1)) i ((↑i : Int) < Qlz log) (∃ (x : ByteArray), Qlx h l (r + Qly i) = some [Value.string x] ∧ bs (decide (x = op2)) (Qm0 true true ∧ h = h ∧ Membership.mem log op2) (∃ (j : Nat), Qm5 op2 op2 i j (Qm9 id view chg top a1 vs c1 a2 cg c2 k f v q op a3 cs c3 a4 log c4 = Qm9 id view chg top a1 vs c1 a2 cg c2 k f v q op a3 cs c3 a4 log c4) (h = h) (Qlt j log j log op2) (List.length log - j < List.length log - i) (∀ (k : Unit), Qlp log op2 → Qlp log op2) (∀ (v : Value) (h_1 : AHeap), Qma v (h_1 = h) log op2 → Qma v (h_1 = h) log op2)))) (∃ (j : Unit), Ql4 (Qlv op2 op2) Qm4 (Qm9 id view chg top a1 vs c1 a2 cg c2 k f v q op a3 cs c3 a4 log c4 = Qm9 id view chg top a1 vs c1 a2 cg c2 k f v q op a3 cs c3 a4 log c4) (h = h) (Qlp log op2))) (Qlm True) (Qlm (True ∧ True)) True) (Ql4 True (∀ (i : Nat), Qm8 i vs (∀ (q : Sh.T Sh.int), Qm2 (List.take i vs) view q op2 id) → bs (decide ((↑i : Int) < Qlk vs)) (∃ (l r : Nat), Qlq (a1 = some (Qlg l r Qla)) i ((↑i : Int) < Qlk vs) (∃ (x x_1 x_2 : Int) (x_3 : ByteArray) (x_4 : Int), AHeap.ld h l (r + Qly i) Qlh Qla = some (Qle x x_1 x_2 x_3 x_4) ∧ bs (decide (x_4 = id)) (bs (decide (x = 2)) (bs (decide (x_1 = view)) (bs (decide (x_3 = op2)) (Qm0 true true ∧ h = h ∧ (∃ (q : Sh.T Sh.int), Qm1 vs view q op2 id)) (∃ (j : Nat), Qm5 op2 op2 i j (Qm9 id view chg top a1 vs c1 a2 cg c2 k f v q op a3 cs c3 a4 log c4 = Qm9 id view chg top a1 vs c1 a2 cg c2 k f v q op a3 cs c3 a4 log c4) (h = h) (Qm8 j vs (∀ (q : Sh.T Sh.int), Qm2 (List.take j vs) view q op2 id)) (Qm7 vs j vs i) (∀ (k : Unit), (∀ (q : Sh.T Sh.int), Qm2 vs view q op2 id) → (∀ (q : Sh.T Sh.int), Qm2 vs view q op2 id)) (∀ (v : Value) (h_1 : AHeap), Qm6 v h_1 h (∃ (q : Sh.T Sh.int), Qm1 vs view q op2 id) → Qm6 v h_1 h (∃ (q : Sh.T Sh.int), Qm1 vs view q op2 id)))) (∃ (j : Nat), Qm5 op2 op2 i j (Qm9 id view chg top a1 vs c1 a2 cg c2 k f v q op a3 cs c3 a4 log c4 = Qm9 id view chg top a1 vs c1 a2 cg c2 k f v q op a3 cs c3 a4 log c4) (h = h) (Qm8 j vs (∀ (q : Sh.T Sh.int), Qm2 (List.take j vs) view q op2 id)) (Qm7 vs j vs i) (∀ (k : Unit), (∀ (q : Sh.T Sh.int), Qm2 vs view q op2 id) → (∀ (q : Sh.T Sh.int), Qm2 vs view q op2 id)) (∀ (v : Value) (h_1 : AHeap), Qm6 v h_1 h (∃ (q : Sh.T Sh.int), Qm1 vs view q op2 id) → Qm6 v h_1 h (∃ (q : Sh.T Sh.int), Qm1 vs view q op2 id)))) (∃ (j : Nat), Qm5 op2 op2 i j (Qm9 id view chg top a1 vs c1 a2 cg c2 k f v q op a3 cs c3 a4 log c4 = Qm9 id view chg top a1 vs c1 a2 cg c2 k f v q op a3 cs c3 a4 log c4) (h = h) (Qm8 j vs (∀ (q : Sh.T Sh.int), Qm2 (List.take j vs) view q op2 id)) (Qm7 vs j vs i) (∀ (k : Unit), (∀ (q : Sh.T Sh.int), Qm2 vs view q op2 id) → (∀ (q : Sh.T Sh.int), Qm2 vs view q op2 id)) (∀ (v : Value) (h_1 : AHeap), Qm6 v h_1 h (∃ (q : Sh.T Sh.int), Qm1 vs view q op2 id) → Qm6 v h_1 h (∃ (q : Sh.T Sh.int), Qm1 vs view q op2 id)))) (∃ (j : Nat), Qm5 op2 op2 i j (Qm9 id view chg top a1 vs c1 a2 cg c2 k f v q op a3 cs c3 a4 log c4 = Qm9 id view chg top a1 vs c1 a2 cg c2 k f v q op a3 cs c3 a4 log c4) (h = h) (Qm8 j vs (∀ (q : Sh.T Sh.int), Qm2 (List.take j vs) view q op2 id)) (Qm7 vs j vs i) (∀ (k : Unit), (∀ (q : Sh.T Sh.int), Qm2 vs view q op2 id) → (∀ (q : Sh.T Sh.int), Qm2 vs view q op2 id)) (∀ (v : Value) (h_1 : AHeap), Qm6 v h_1 h (∃ (q : Sh.T Sh.int), Qm1 vs view q op2 id) → Qm6 v h_1 h (∃ (q : Sh.T Sh.int), Qm1 vs view q op2 id))))) (∃ (j : Unit), h = h ∧ (∀ (q : Sh.T Sh.int), Qm2 vs view q op2 id))) (Qlm True) (Ql3 True (True ∧ True)) True) True True) = _) ?_; delta Ql3 Ql4 Ql7 Qla Qlb Qle Qlg Qlh Qlk Qlm Qlp Qlq Qls Qlt Qlu Qlv Qlw Qlx Qly Qlz Qm0 Qm1 Qm2 Qm3 Qm4 Qm5 Qm6 Qm7 Qm8 Qm9 Qma)
    simp only [true_and, and_true]
    refine ⟨fun (i : Nat) ⟨hi, hall⟩ => ?_, fun (i : Nat) ⟨hi, hall⟩ => ?_⟩
    · refine bs_d (fun hlt => ?_) (fun hge => by rw [List.take_of_length_le (by omega)] at hall; exact ⟨(), hall⟩)
      obtain ⟨t, hat⟩ : ∃ y : ByteArray, log[i]? = some y := ⟨_, List.getElem?_eq_getElem (by omega)⟩
      obtain ⟨l, r, row, ha, _, hrd, hld⟩ := h4.elem hat
      obtain rfl : row = [.string t] := hrd
      exact ⟨l, r, ha, Int.natCast_nonneg _, hlt, _, hld, bs_d (fun e => by rw [← e]; exact List.mem_of_getElem? hat) (fun e => ⟨i + 1, by rw [wrap_i64 (by omega)]; rfl, ⟨by omega, take_none hall hat (fun h => e h.symm)⟩, by omega, fun _ h => h, fun _ _ h => h⟩)⟩
    · refine bs_d (fun hlt => ?_) (fun hge => by rw [List.take_of_length_le (by omega)] at hall; exact ⟨(), hall⟩)
      obtain ⟨⟨k', v', q', op', f'⟩, hat⟩ : ∃ y : Int × Int × Int × ByteArray × Int, vs[i]? = some y := ⟨_, List.getElem?_eq_getElem (by omega)⟩
      obtain ⟨l, r, row, ha, _, hrd, hld⟩ := h1.elem hat
      obtain rfl := rd_vote.1 hrd
      dsimp only at hld
      have next : ¬ (f' = id ∧ k' = 2 ∧ v' = view ∧ op' = op2) → ∀ q, (2, view, q, op2, id) ∉ vs.take (i + 1) := fun hne q => take_none (hall q) hat fun e => by cases e; exact hne ⟨rfl, rfl, rfl, rfl⟩
      have go : ¬ (f' = id ∧ k' = 2 ∧ v' = view ∧ op' = op2) → _ := fun hne => (⟨i + 1, by rw [wrap_i64 (by omega)]; rfl, ⟨by omega, next hne⟩, by omega, fun _ h => h, fun _ _ h => h⟩ : ∃ j : Nat, Value.int .i64 (IntKind.i64.wrap ((i : Int) + 1)) = Value.int .i64 j ∧ (j ≤ vs.length ∧ ∀ q, (2, view, q, op2, id) ∉ vs.take j) ∧ vs.length - j < vs.length - i ∧ (∀ _ : Unit, (∀ q, (2, view, q, op2, id) ∉ vs) → ∀ q, (2, view, q, op2, id) ∉ vs) ∧ ∀ (v : Value) (h_1 : AHeap), (v = .bool true ∧ h_1 = h ∧ ∃ q, (2, view, q, op2, id) ∈ vs) → v = .bool true ∧ h_1 = h ∧ ∃ q, (2, view, q, op2, id) ∈ vs)
      refine ⟨l, r, ha, Int.natCast_nonneg _, hlt, _, _, _, _, _, hld, bs_d (fun e1 => bs_d (fun e2 => bs_d (fun e3 => bs_d (fun e4 => ⟨q', ?_⟩) (fun e => go fun H => e H.2.2.2)) (fun e => go fun H => e H.2.2.1)) (fun e => go fun H => e H.2.1)) (fun e => go fun H => e H.1)⟩
      have := List.mem_of_getElem? hat
      rw [e1, e2, e3, e4] at this
      exact this
  (refine vc_mp (by kernel_rfl : (∃ (i : Nat), Ql4 (Qlv op2 op2) Qm4 (Ql8 = Qls i) (Qm9 id view chg top a1 vs c1 a2 cg c2 k f v q op a3 cs c3 a4 log c4 = Qm9 id view chg top a1 vs c1 a2 cg c2 k f v q op a3 cs c3 a4 log c4) (h = h ∧ Qlt i log i log op2 ∧ (∀ (j : Unit), Qlp log op2 → (∃ (i : Nat), Ql4 (Qlv op2 op2) Qm4 (Ql8 = Qls i) (Qm9 id view chg top a1 vs c1 a2 cg c2 k f v q op a3 cs c3 a4 log c4 = Qm9 id view chg top a1 vs c1 a2 cg c2 k f v q op a3 cs c3 a4 log c4) (h = h ∧ Qm8 i vs (∀ (q : Sh.T Sh.int), Qm2 (List.take i vs) view q op2 id) ∧ (∀ (j : Unit), (∀ (q : Sh.T Sh.int), Qm2 vs view q op2 id) → Qm0 false (tr (AskedM id view vs log op2)) ∧ h = h) ∧ (∀ (v : Value) (h_1 : AHeap), Qm6 v h_1 h (∃ (q : Sh.T Sh.int), Qm1 vs view q op2 id) → v = Value.bool (tr (AskedM id view vs log op2)) ∧ h_1 = h)))) ∧ (∀ (v : Value) (h_1 : AHeap), Qma v (h_1 = h) log op2 → v = Value.bool (tr (AskedM id view vs log op2)) ∧ h_1 = h))) = _) ?_; delta Ql4 Ql7 Ql8 Qlb Qlh Qlp Qls Qlt Qlv Qlw Qm0 Qm1 Qm2 Qm3 Qm4 Qm6 Qm8 Qm9 Qma)
  refine ⟨(0 : Nat), rfl, rfl, rfl, rfl, rfl, ⟨Nat.zero_le _, fun h => by cases h⟩, fun _ hn => ⟨(0 : Nat), rfl, rfl, rfl, rfl, rfl, ⟨Nat.zero_le _, fun _ h => by cases h⟩, fun _ hv => ⟨congrArg _ (tr_false fun H => ?_), rfl⟩, fun _ _ ⟨e1, e2, e3⟩ => ⟨e1.trans (congrArg _ (tr_true (.inr e3))), e2⟩⟩, fun _ _ ⟨e1, e2, e3⟩ => ⟨e1.trans (congrArg _ (tr_true (.inl e3))), e2⟩⟩
  rcases H with H | ⟨q, H⟩
  · exact hn H
  · exact hv q H
end Go.Proofs.YtpgfjadjhliohaaGreat
end
section
namespace Go.Dat
open Go.Abs
theorem fresh_app {a b : Nat} {i j : List Nat} (x : Fresh a b i) (y : Fresh a b j) (d : ∀ z ∈ i, z ∉ j) : Fresh a b (i ++ j) :=
  ⟨List.nodup_append.2 ⟨x.nd, y.nd, fun p hp q hq e => d p hp (e ▸ hq)⟩, fun l hl => (List.mem_append.1 hl).elim (x.bd l) (y.bd l)⟩
theorem WkOk.fresh {n0 l : Nat} {g : AHeap} {w : Wk} (W : WkOk n0 l g w) : Fresh n0 g.n (w.votes.ids ++ (w.changes.ids ++ (w.nch.ids ++ (w.log.ids ++ w.says.ids)))) := by
  have dj := fun (i j : Nat) (a b : List Nat) (ha : (w.lists l)[i]? = some a) (hb : (w.lists l)[j]? = some b) (e : i ≠ j) => W.dj i j a b e ha hb
  refine fresh_app W.V.fr (fresh_app W.C.fr (fresh_app W.N.2 (fresh_app W.L.fr W.S.fr ?_) ?_) ?_) ?_
  · exact fun z h => dj 4 5 _ _ rfl rfl (by decide) z h
  · exact fun z h k => (List.mem_append.1 k).elim (dj 3 4 _ _ rfl rfl (by decide) z h) (dj 3 5 _ _ rfl rfl (by decide) z h)
  · exact fun z h k => (List.mem_append.1 k).elim (dj 2 3 _ _ rfl rfl (by decide) z h) fun k => (List.mem_append.1 k).elim (dj 2 4 _ _ rfl rfl (by decide) z h) (dj 2 5 _ _ rfl rfl (by decide) z h)
  · exact fun z h k => (List.mem_append.1 k).elim (dj 1 2 _ _ rfl rfl (by decide) z h) fun k => (List.mem_append.1 k).elim (dj 1 3 _ _ rfl rfl (by decide) z h) fun k => (List.mem_append.1 k).elim (dj 1 4 _ _ rfl rfl (by decide) z h) (dj 1 5 _ _ rfl rfl (by decide) z h)
def AskAt (id view : Int) (op : ByteArray) (x : voteSh.T) : Prop := (show Int from x.1) = 2 ∧ (show Int from x.2.1) = view ∧ (show ByteArray from x.2.2.2.1) = op ∧ (show Int from x.2.2.2.2) = id
end Go.Dat
namespace Go.Proofs.YtpgfjadjhliohaaGreat
open Go.Abs Go.Dat
set_option maxRecDepth 100000
set_option maxHeartbeats 8000000
def Qmb (a b : Wk) (c : ByteArray) (d e f : Sh.T Sh.int) (g : Sh.T Sh.str) (h : Sh.T Sh.int) := AskAt (Wk.id a) (Wk.view b) c (Prod.mk d (Prod.mk e (Prod.mk f (Prod.mk g h))))
theorem ask1_spec (h : AHeap) (l lw lo : Nat) (w : Wk) (op : ByteArray) (hg : h.get l = some ⟨[w.row], 14, true⟩) (hw : h.ld lw 0 0 1 = some [.pointer (some ⟨l, 0, some 0⟩)]) (ho : h.ld lo 0 0 1 = some [.string op]) (k v q f : Int) (op' : ByteArray) :
    ACall Tryz.prog 110 [.agg #[.int .i64 k, .int .i64 v, .int .i64 q, .string op', .int .i64 f], .pointer (some ⟨lw, 0, some 0⟩), .pointer (some ⟨lo, 0, some 0⟩)] h (.bool (tr (AskAt w.id w.view op (k, v, q, op', f)))) h := by
  refine acall_out (acall_vc (fun _ => false) (fun r => match r with | 1 => [(0, 0, []), (1, 1, []), (2, 0, []), (3, 0, []), (4, 0, []), (5, 1, []), (6, 1, []), (7, 0, []), (8, 0, []), (9, 0, []), (10, 1, []), (11, 0, []), (12, 0, []), (13, 0, []), (14, 0, []), (15, 1, []), (16, 1, []), (17, 0, []), (18, 0, []), (19, 0, []), (20, 0, []), (21, 1, []), (22, 1, []), (23, 0, []), (24, 0, []), (25, 0, []), (26, 1, []), (27, 0, []), (28, 0, []), (29, 0, [])] | _ => []) (fun _ => .none) mixed Tryz.func110 rfl rfl rfl (Nat.le_of_ble_eq_true rfl) (by (refine vc_mp (by kernel_rfl : (Qlm True) = _) ?_; delta Qlm); simp only [and_self]) ?_)
  (refine vc_mp (by kernel_rfl : (bs (decide (k = 2)) (∃ (l i c : Nat), Qlx h lw Qlh = some [Value.pointer (some (Qlg l i c))] ∧ (∃ (x : Int), AHeap.ld h l i (c + Qlh + 1) 1 = some [Ql7 x] ∧ bs (decide (v = x)) (∃ (x : ByteArray), Qlx h lo Qlh = some [Value.string x] ∧ bs (decide (op' = x)) (∃ (l i c : Nat), Qlx h lw Qlh = some [Value.pointer (some (Qlg l i c))] ∧ (∃ (x : Int), AHeap.ld h l i (c + Qlh + Qlh) 1 = some [Ql7 x] ∧ Qm0 (decide (f = x)) (tr (Qmb w w op k v q op' f)) ∧ h = h)) (Qm0 false (tr (Qmb w w op k v q op' f)) ∧ h = h)) (Qm0 false (tr (Qmb w w op k v q op' f)) ∧ h = h))) (Qm0 false (tr (Qmb w w op k v q op' f)) ∧ h = h)) = _) ?_; delta Ql7 Qlg Qlh Qlx Qm0 Qmb)
  refine bs_d (fun e1 => ?_) (fun e => ⟨congrArg _ (tr_false fun H => e H.1), rfl⟩)
  refine ⟨_, _, _, hw, _, by rw [AHeap.ld, hg]; rfl, bs_d (fun e2 => ?_) (fun e => ⟨congrArg _ (tr_false fun H => e H.2.1), rfl⟩)⟩
  refine ⟨_, ho, bs_d (fun e3 => ?_) (fun e => ⟨congrArg _ (tr_false fun H => e H.2.2.1), rfl⟩)⟩
  refine ⟨_, _, _, hw, _, by rw [AHeap.ld, hg]; rfl, congrArg _ ?_, rfl⟩
  rw [tr_dec]
  exact tr_congr ⟨fun H => ⟨e1, e2, e3, H⟩, fun H => H.2.2.2⟩
def cloA (lw lo : Nat) : Value := .func (.func 110) #[] #[.pointer (some ⟨lw, 0, some 0⟩), .pointer (some ⟨lo, 0, some 0⟩)]
def ixaL (a : Option Addr) (n c lw lo : Nat) (h : AHeap) (xs : List voteSh.T) (id view : Int) (op : ByteArray) : LSpec where
  ι := Nat
  κ := Unit
  I := fun i => i ≤ n ∧ ∀ x ∈ xs.take i, ¬ AskAt id view op x
  μ := fun i => n - i
  head := fun i => ⟨[(0, .slice a n c), (1, cloA lw lo), (7, .int .i64 n), (8, .int .i64 i)], [], h⟩
  post := fun _ => ⟨[], [], h⟩
  R := fun _ _ => ∀ x ∈ xs, ¬ AskAt id view op x
  ret := fun _ v h' => h' = h ∧ ∃ r : Int, v = .int .i64 r ∧ 0 ≤ r ∧ ∃ x ∈ xs, AskAt id view op x
def Qmc (a : List (Sh.T voteSh)) (b : Sh.T voteSh) (c d : Wk) (e : ByteArray) (f : Sh.T voteSh) := Membership.mem a b → Not (AskAt (Wk.id c) (Wk.view d) e f)
def Qmd (a : List (Sh.T voteSh)) (b : Sh.T voteSh) (c d : Wk) (e : ByteArray) (f : Sh.T voteSh) := Membership.mem a b ∧ AskAt (Wk.id c) (Wk.view d) e f
def Qme (a : List Value) := Value.func (Fn.func 110) (Array.mk List.nil) (Array.mk a)
def Qmf (a : Nat) := Value.pointer (some (Qlg a Qlh Qlh))
theorem indexAsk_spec (h : AHeap) (l lw lo : Nat) (w : Wk) (op : ByteArray) (hg : h.get l = some ⟨[w.row], 14, true⟩) (hw : h.ld lw 0 0 1 = some [.pointer (some ⟨l, 0, some 0⟩)]) (ho : h.ld lo 0 0 1 = some [.string op]) (a : Option Addr) (c : Nat) (xs : List voteSh.T) (hx : Sl h voteSh xs (.slice a xs.length c)) (hn : xs.length ≤ 1048576) :
    ∃ r h', ACall Tryz.prog 150 [.slice a xs.length c, cloA lw lo] h r h' ∧ h' = h ∧ ∃ i : Int, r = .int .i64 i ∧ (0 ≤ i ↔ ∃ x ∈ xs, AskAt w.id w.view op x) := by
  refine acall_q fun Q HQ => ?_
  refine acall_vc (fun _ => false) (fun _ => []) (fun _ => ixaL a xs.length c lw lo h xs w.id w.view op) mixed Tryz.func150 rfl rfl rfl (Nat.le_of_ble_eq_true rfl) ?_ ?_
  · (refine vc_mp (by kernel_rfl : (Ql3 (Ql4 True (∀ (i : Nat), Qm8 i xs (∀ (x : Sh.T voteSh), Qmc (List.take i xs) x w w op x) → bs (decide ((↑i : Int) < Qlk xs)) (∃ (l r : Nat), Qlq (a = some (Qlg l r Qla)) i ((↑i : Int) < Qlk xs) (∃ (x x_1 x_2 : Int) (x_3 : ByteArray) (x_4 : Int), AHeap.ld h l (r + Qly i) Qlh Qla = some (Qle x x_1 x_2 x_3 x_4) ∧ (∃ (x_5 : Bool) (h' : AHeap), ACall Tryz.prog 110 [Qll (Qle x x_1 x_2 x_3 x_4), Qmf lw, Qmf lo] h (Value.bool x_5) h' ∧ bs x_5 (h' = h ∧ (∃ (r : Int), Qls i = Ql7 r ∧ 0 ≤ r ∧ (∃ (x : Sh.T voteSh), Qmd xs x w w op x))) (∃ (j : Nat), Ql4 (Qlb a xs c = Qlb a xs c) (Qme [Qmf lw, Qmf lo] = Qme [Qmf lw, Qmf lo]) (Qls (List.length xs) = Qls (List.length xs)) (Qlu i = Qls j) (Ql4 (h = h') (Qm8 j xs (∀ (x : Sh.T voteSh), Qmc (List.take j xs) x w w op x)) (Qm7 xs j xs i) (∀ (k : Unit), (∀ (x : Sh.T voteSh), Qmc xs x w w op x) → (∀ (x : Sh.T voteSh), Qmc xs x w w op x)) (∀ (v : Value) (h_1 : AHeap), h_1 = h ∧ (∃ (r : Int), v = Ql7 r ∧ 0 ≤ r ∧ (∃ (x : Sh.T voteSh), Qmd xs x w w op x)) → h_1 = h ∧ (∃ (r : Int), v = Ql7 r ∧ 0 ≤ r ∧ (∃ (x : Sh.T voteSh), Qmd xs x w w op x)))))))) (∃ (j : Unit), h = h ∧ (∀ (x : Sh.T voteSh), Qmc xs x w w op x))) True (True ∧ True) (Ql3 True (True ∧ True) ∧ True)) True) = _) ?_; delta Ql3 Ql4 Ql7 Qla Qlb Qle Qlg Qlh Qlk Qll Qlq Qls Qlu Qly Qm7 Qm8 Qmc Qmd Qme Qmf)
    simp only [true_and, and_true]
    rintro (i : Nat) ⟨hi, hall⟩
    refine bs_d (fun hlt => ?_) (fun hge => ⟨(), by rw [List.take_of_length_le (by omega)] at hall; exact hall⟩)
    obtain ⟨⟨k', v', q', op', f'⟩, hat⟩ : ∃ y : Int × Int × Int × ByteArray × Int, xs[i]? = some y := ⟨_, List.getElem?_eq_getElem (by omega)⟩
    obtain ⟨l2, r, row, ha, _, hrd, hld⟩ := hx.elem hat
    obtain rfl := rd_vote.1 hrd
    dsimp only at hld
    refine ⟨l2, r, ha, Int.natCast_nonneg _, hlt, _, _, _, _, _, hld, _, _, ask1_spec h l lw lo w op hg hw ho k' v' q' f' op', bs_b (fun e => ⟨rfl, _, rfl, Int.natCast_nonneg _, _, List.mem_of_getElem? hat, of_tr e⟩) (fun e => ?_)⟩
    refine ⟨i + 1, by rw [wrap_i64 (by omega)]; rfl, rfl, ⟨by omega, fun x hx' => ?_⟩, by omega, fun _ h => h, fun _ _ h => h⟩
    rw [List.take_add_one, hat] at hx'
    rcases List.mem_append.1 hx' with hx' | hx'
    · exact hall x hx'
    · rw [List.mem_singleton.1 hx']; exact of_trn e
  (refine vc_mp (by kernel_rfl : (∃ (i : Nat), Ql4 (Qlb a xs c = Qlb a xs c) (Qme [Qmf lw, Qmf lo] = Qme [Qmf lw, Qmf lo]) (Qls (List.length xs) = Qls (List.length xs)) (Ql8 = Qls i) (h = h ∧ Qm8 i xs (∀ (x : Sh.T voteSh), Qmc (List.take i xs) x w w op x) ∧ (∀ (j : Unit), (∀ (x : Sh.T voteSh), Qmc xs x w w op x) → Q (Ql7 (-1)) h) ∧ (∀ (v : Value) (h_1 : AHeap), h_1 = h ∧ (∃ (r : Int), v = Ql7 r ∧ 0 ≤ r ∧ (∃ (x : Sh.T voteSh), Qmd xs x w w op x)) → Q v h_1))) = _) ?_; delta Ql4 Ql7 Ql8 Qlb Qlg Qlh Qls Qm8 Qmc Qmd Qme Qmf)
  exact ⟨(0 : Nat), rfl, rfl, rfl, rfl, rfl, ⟨Nat.zero_le _, fun x hx' => by cases hx'⟩, fun _ hall => HQ _ _ ⟨rfl, _, rfl, fun h => absurd h (by decide), fun ⟨x, h1, h2⟩ => absurd h2 (hall x h1)⟩, fun _ _ ⟨e, r, e1, e2, e3⟩ => HQ _ _ ⟨e, r, e1, fun _ => e3, fun _ => e2⟩⟩
theorem containsAsk_spec (h : AHeap) (l lw lo : Nat) (w : Wk) (op : ByteArray) (hg : h.get l = some ⟨[w.row], 14, true⟩) (hw : h.ld lw 0 0 1 = some [.pointer (some ⟨l, 0, some 0⟩)]) (ho : h.ld lo 0 0 1 = some [.string op]) (a : Option Addr) (c : Nat) (xs : List voteSh.T) (hx : Sl h voteSh xs (.slice a xs.length c)) (hn : xs.length ≤ 1048576) :
    ACall Tryz.prog 109 [.slice a xs.length c, cloA lw lo] h (.bool (tr (∃ x ∈ xs, AskAt w.id w.view op x))) h := by
  obtain ⟨_, h0, hA, e0, r, rfl, hr⟩ := indexAsk_spec h l lw lo w op hg hw ho a c xs hx hn
  rw [e0] at hA
  clear e0
  refine acall_out (acall_vc (fun _ => false) (fun _ => []) (fun _ => .none) mixed Tryz.func109 rfl rfl rfl (Nat.le_of_ble_eq_true rfl) (by (refine vc_mp (by kernel_rfl : (Qlm True) = _) ?_; delta Qlm); simp only [and_self]) ?_)
  (refine vc_mp (by kernel_rfl : (∃ (x : Int) (h' : AHeap), ACall Tryz.prog 150 [Qlb a xs c, Qme [Qmf lw, Qmf lo]] h (Ql7 x) h' ∧ Qm0 (decide (x ≥ 0)) (tr (∃ (x : Sh.T voteSh), Qmd xs x w w op x)) ∧ h' = h) = _) ?_; delta Ql7 Qlb Qlg Qlh Qm0 Qmd Qme Qmf)
  refine ⟨_, _, hA, congrArg _ ?_, rfl⟩
  rw [tr_dec]
  exact tr_congr hr
end Go.Proofs.YtpgfjadjhliohaaGreat
end
