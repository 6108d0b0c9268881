/- N2, G2, E1, W14, X0, X1, X2, P4, P1. -/
import Derived.Test.YtpgfjadjhliohaaGreatV19N1
import Derived.Test.YtpgfjadjhliohaaGreatV19G1
import Derived.Test.YtpgfjadjhliohaaGreatV19C3
import Derived.Test.YtpgfjadjhliohaaGreatV19W13
import Derived.Test.YtpgfjadjhliohaaGreatV19W4
section
namespace Go.Dat
open Go.Abs
def Sh.wide : Sh → Bool
  | .int => true
  | .bool => true
  | .str => true
  | .byte => true
  | .pair a b => a.wide && b.wide
  | .sl e => decide (e.cells ≤ 100) && e.wide
theorem szL_cn {α : Type} {f : α → Int → Int} {c : α → Nat} {k : Nat} (hk : k ≤ 100) (hle : ∀ x l, 0 ≤ l → -1 ≤ f x l ∧ f x l ≤ l) (hf : ∀ x l, 0 ≤ l → 0 ≤ f x l → (c x : Int) ≤ k + 100 * (l - f x l)) : ∀ (xs : List α) (l : Int), 0 ≤ l → 0 ≤ szL f xs l → ((xs.map c).sum : Int) ≤ 100 * xs.length + 100 * (l - szL f xs l) := by
  intro xs
  induction xs with
  | nil => intro l h0 h1; simp [szL]
  | cons x xs ih =>
    intro l h0 h1
    unfold szL at h1 ⊢
    split at h1
    · omega
    · rename_i hn
      rw [if_neg hn]
      have h2 := hle x l h0
      have h3 := hf x l h0 (by omega)
      have h4 := ih (f x l) (by omega) h1
      simp only [List.map_cons, List.sum_cons, List.length_cons]
      omega
theorem Sh.cn_le : ∀ (s : Sh), s.wide = true → ∀ (x : s.T) (l : Int), 0 ≤ l → 0 ≤ s.sz x l → (s.cn x : Int) ≤ s.cells + 100 * (l - s.sz x l) := by
  intro s
  induction s with
  | int => intro _ x l h0 h1; simp [Sh.cn, Sh.cells, Sh.sz]
  | bool => intro _ x l h0 h1; simp [Sh.cn, Sh.cells, Sh.sz]
  | byte => intro _ x l h0 h1; simp [Sh.cn, Sh.cells, Sh.sz]
  | str =>
    intro _ x l h0 h1
    have := Sh.str.sz_le x l h0
    show ((1 : Nat) : Int) ≤ (1 : Nat) + _
    omega
  | pair a b iha ihb =>
    intro hw x l h0 h1
    simp only [Sh.wide, Bool.and_eq_true] at hw
    unfold Sh.sz at h1 ⊢
    have h2 := a.sz_le x.1 l h0
    split at h1
    · omega
    · rename_i hn
      rw [if_neg hn]
      have h3 := iha hw.1 x.1 l h0 (by omega)
      have h4 := ihb hw.2 x.2 _ (by omega) h1
      have e1 : (Sh.pair a b).cn x = a.cn x.1 + b.cn x.2 := rfl
      have e2 : (Sh.pair a b).cells = a.cells + b.cells := rfl
      rw [e1, e2]; omega
  | sl e ih =>
    intro hw xs l h0 h1
    simp only [Sh.wide, Bool.and_eq_true, decide_eq_true_eq] at hw
    unfold Sh.sz at h1 ⊢
    split at h1
    · omega
    · rename_i hn
      rw [if_neg hn]
      have h3 := szL_cn (c := e.cn) hw.1 e.sz_le (fun x l a b => ih hw.2 x l a b) xs _ (by omega) h1
      have e1 : (Sh.sl e).cn xs = (List.map e.cn xs).sum := rfl
      rw [e1]
      have h4 : (0 : Int) ≤ ((Sh.sl e).cells : Int) := Int.natCast_nonneg _
      omega
theorem Sh.cv_le : ∀ (s : Sh), s.wide = true → ∀ (x : s.T) (l : Int), 0 ≤ l → 0 ≤ s.sz x l → (s.cv x : Int) ≤ 100 * (l - s.sz x l) := by
  intro s
  induction s with
  | int => intro _ x l h0 h1; simp [Sh.cv, Sh.sz]
  | bool => intro _ x l h0 h1; simp [Sh.cv, Sh.sz]
  | byte => intro _ x l h0 h1; simp [Sh.cv, Sh.sz]
  | str =>
    intro _ x l h0 h1
    have := Sh.str.sz_le x l h0
    show ((0 : Nat) : Int) ≤ _
    omega
  | pair a b iha ihb =>
    intro hw x l h0 h1
    simp only [Sh.wide, Bool.and_eq_true] at hw
    unfold Sh.sz at h1 ⊢
    have h2 := a.sz_le x.1 l h0
    split at h1
    · omega
    · rename_i hn
      rw [if_neg hn]
      have h3 := iha hw.1 x.1 l h0 (by omega)
      have h4 := ihb hw.2 x.2 _ (by omega) h1
      have e1 : (Sh.pair a b).cv x = a.cv x.1 + b.cv x.2 := rfl
      rw [e1]; omega
  | sl e _ =>
    intro hw xs l h0 h1
    simp only [Sh.wide, Bool.and_eq_true, decide_eq_true_eq] at hw
    unfold Sh.sz at h1 ⊢
    split at h1
    · omega
    · rename_i hn
      rw [if_neg hn]
      have h3 := szL_cn (c := e.cn) hw.1 e.sz_le (fun x l a b => Sh.cn_le e hw.2 x l a b) xs _ (by omega) h1
      have e1 : (Sh.sl e).cv xs = (List.map e.cn xs).sum := rfl
      rw [e1]
      omega
theorem leOut {a g g' : AHeap} {J : List Nat} (le : a.Le g) (w : a.wf) (o : Out J g g') (hJ : ∀ l ∈ J, a.n ≤ l) : a.Le g' :=
  ⟨Nat.le_trans le.n o.shp.n, fun l x hx => o.get l x (fun hm => by have h1 := hJ l hm; have h2 := w.lt hx; omega) (le.get l x hx)⟩
end Go.Dat
end
section
namespace Go.Abs
end Go.Abs
namespace Go.Proofs.YtpgfjadjhliohaaGreat
open Go.Abs Go.Dat
set_option maxRecDepth 100000
set_option maxHeartbeats 4000000
end Go.Proofs.YtpgfjadjhliohaaGreat
end
section
namespace Go.Dat
open Go.Abs
end Go.Dat
namespace Go.Proofs.YtpgfjadjhliohaaGreat
open Go.Abs Go.Dat
set_option maxRecDepth 100000
set_option maxHeartbeats 4000000
end Go.Proofs.YtpgfjadjhliohaaGreat
end
section
namespace Go.Dat
open Go.Abs
theorem inrOk {lo hi n : Int} (h : InR lo hi n) (h1 : -9223372036854775808 ≤ lo) (h2 : hi ≤ 9223372036854775807) : Sh.int.ok n := by
  show (-9223372036854775808 : Int) ≤ n ∧ n ≤ 9223372036854775807
  unfold InR at h; omega
theorem SayOk.cvv {k f v q : Int} {op : ByteArray} {cs : List changeSh.T} (H : SayOk k f v q op cs) : (Sh.sl changeSh).cn cs ≤ 1000 := by
  have h1 : (Sh.sl changeSh).cn cs ≤ 4 * 100 := Sh.cn_sl (e := changeSh) (ChgsOk.len H.2.2.1) (fun c hc => by
    have hx := (Asc.mem H.2.2.1 hc).1
    have h2 : (Sh.sl proofSh).cn c.2.2 ≤ 6 * 12 := Sh.cn_sl (e := proofSh) hx.len (fun p hp => by
      have hq := (Asc.mem hx.2.2 hp).1.2.2.2
      have h3 : (Sh.sl Sh.int).cn p.2.2.2 ≤ 4 * 1 := Sh.cn_sl (e := Sh.int) hq.len (fun _ _ => Nat.le_refl _)
      show 1 + (1 + (1 + (Sh.sl Sh.int).cn p.2.2.2)) ≤ 12
      omega)
    show 1 + (1 + (Sh.sl proofSh).cn c.2.2) ≤ 100
    omega)
  omega
theorem provedM_op {l : List voteSh.T} (H : VotsOk l) {k v q : Int} {op : ByteArray} (h : provedM l k v q = some op) : op.size ≤ 120 := by
  unfold provedM at h
  split at h
  · rename_i he
    cases h
    obtain ⟨f, hf⟩ := List.exists_mem_of_length_pos (show 0 < (votersM l k v q he.choose).length by have := he.choose_spec; omega)
    exact (vots_mem H (mem_upP.1 hf).2.2).2.2.2.1
  · cases h
theorem bestM_in {l : List voteSh.T} (H : VotsOk l) {q v : Int} {op : ByteArray} : ∀ {n : Nat}, bestM l q n = some (v, op) → 0 ≤ v ∧ v < n ∧ op.size ≤ 120
  | 0 => fun h => by cases h
  | n + 1 => fun h => by
    unfold bestM at h
    cases e : provedM l 2 n q with
    | some y => rw [e] at h; cases h; exact ⟨by omega, by omega, provedM_op H e⟩
    | none => rw [e] at h; have := bestM_in H h; exact ⟨this.1, by omega, this.2.2⟩
theorem chgM_mem {l : List voteSh.T} (H : VotsOk l) {below : Nat} (hb : below ≤ 1000) : ∀ {n : Nat}, n ≤ 1000 → ∀ p ∈ chgM l below n, proofSh.ok p ∧ (Sh.sl Sh.int).cn p.2.2.2 ≤ 4
  | 0, _ => fun p hp => by cases hp
  | n + 1, hn => fun p hp => by
    unfold chgM at hp
    rcases List.mem_append.1 hp with hp | hp
    · exact chgM_mem H hb (by omega) p hp
    · cases e : bestM l ((n + 1 : Nat) : Int) below with
      | none => rw [e] at hp; cases hp
      | some y =>
        obtain ⟨v, op⟩ := y
        rw [e] at hp
        have hb := bestM_in H e
        rw [List.mem_singleton.1 hp]
        have hl : (votersM l 2 v ((n + 1 : Nat) : Int) op).length ≤ 4 := upP_len
        refine ⟨⟨?_, ?_, ?_, ?_, ?_⟩, ?_⟩
        · show (-9223372036854775808 : Int) ≤ v ∧ v ≤ 9223372036854775807; omega
        · show (-9223372036854775808 : Int) ≤ ((n + 1 : Nat) : Int) ∧ ((n + 1 : Nat) : Int) ≤ 9223372036854775807; omega
        · show op.size ≤ _; omega
        · show (votersM l 2 v ((n + 1 : Nat) : Int) op).length ≤ _; omega
        · intro x hx
          obtain ⟨h1, h2, _⟩ := mem_upP.1 hx
          exact ⟨Int.le_trans (by decide) h1, Int.le_trans (Int.le_of_lt h2) (by decide)⟩
        · exact Sh.cn_sl (e := Sh.int) (xs := votersM l 2 v ((n + 1 : Nat) : Int) op) hl (fun _ _ => Nat.le_refl _)
theorem chgM_cn {l : List voteSh.T} (H : VotsOk l) {below : Nat} (hb : below ≤ 1000) : (Sh.sl proofSh).cn (chgM l below 6) ≤ 6 * 7 :=
  Sh.cn_sl (e := proofSh) (chgM_len l below 6) (fun p hp => by
    have := (chgM_mem H hb (by omega) p hp).2
    show 1 + (1 + (1 + (Sh.sl Sh.int).cn p.2.2.2)) ≤ 7
    omega)
theorem NewOk.cv {k f v q : Int} {op : ByteArray} {cs : List changeSh.T} (H : NewOk k f v q op cs) : (Sh.sl changeSh).cn cs ≤ 1000 := by
  rcases H with H | H
  · rw [List.length_eq_zero_iff.1 H.2.2.2.2.2]
    exact Nat.zero_le _
  · exact H.2.cvv
end Go.Dat
namespace Go.Proofs.YtpgfjadjhliohaaGreat
open Go.Abs Go.Dat
set_option maxRecDepth 100000
set_option maxHeartbeats 8000000
end Go.Proofs.YtpgfjadjhliohaaGreat
end
section
namespace Go.Dat
open Go.Abs
open Classical in
noncomputable def addM (l : List voteSh.T) (y : voteSh.T) : List voteSh.T × Bool := if (∃ j, j < l.length ∧ VoteAt l y j) ∨ 400 ≤ l.length then (l, false) else (l ++ [y], true)
theorem addM_old {l : List voteSh.T} {y : voteSh.T} (h : (∃ j, j < l.length ∧ VoteAt l y j) ∨ 400 ≤ l.length) : addM l y = (l, false) := if_pos h
theorem addM_new {l : List voteSh.T} {y : voteSh.T} (h : ¬ ((∃ j, j < l.length ∧ VoteAt l y j) ∨ 400 ≤ l.length)) : addM l y = (l ++ [y], true) := if_neg h
theorem VoteAt.app {l l' : List voteSh.T} {y : voteSh.T} {j : Nat} (hj : j < l.length) : VoteAt (l ++ l') y j ↔ VoteAt l y j := by
  unfold VoteAt
  rw [List.getElem?_append_left hj]
theorem addM_ok {l : List voteSh.T} {k v q f : Int} {op : ByteArray} (H : VotsOk l) (hy : VotOk k v q op f) : VotsOk (addM l (k, v, q, op, f)).1 := by
  by_cases hc : (∃ j, j < l.length ∧ VoteAt l (k, v, q, op, f) j) ∨ 400 ≤ l.length
  · rw [addM_old hc]; exact H
  · rw [addM_new hc]
    have hn : ∀ j, j < l.length → ¬ VoteAt l (k, v, q, op, f) j := fun j hj h => hc (.inl ⟨j, hj, h⟩)
    have hl : ¬ 400 ≤ l.length := fun h => hc (.inr h)
    refine ⟨by rw [List.length_append]; show l.length + 1 ≤ 400; omega, fun i hi => ?_⟩
    rw [List.length_append] at hi
    by_cases hi' : i < l.length
    · obtain ⟨x, e, h1, h2⟩ := H.2 i hi'
      exact ⟨x, by rw [List.getElem?_append_left hi']; exact e, h1, fun j hj h => h2 j hj ((VoteAt.app (by omega)).1 h)⟩
    · have hi2 : i = l.length := by have : i < l.length + 1 := hi; omega
      refine ⟨(k, v, q, op, f), by rw [hi2, List.getElem?_append_right (Nat.le_refl _), Nat.sub_self]; rfl, hy, fun j hj h => ?_⟩
      exact hn j (by omega) ((VoteAt.app (by omega)).1 h)
end Go.Dat
namespace Go.Proofs.YtpgfjadjhliohaaGreat
open Go.Abs Go.Dat
set_option maxRecDepth 100000
set_option maxHeartbeats 8000000
abbrev Qqk := List (List Value)
abbrev Qql := Option Addr
def Qq0 (a b : Prop) := True ∧ a ∧ b
def Qq1 (a : AHeap) (b : Value) (c : Qqk) (d : Nat) (e : Prop) := rowsV a b = some c ∧ List.all c (fun (row : List Value) =>
  decide (List.length row = (5 : Nat)) &&
    List.all row fun (v : Value) =>
      match v with
      | Value.agg cells => false
      | Value.tuple cells => false
      | Value.complex k re im => false
      | Value.chan r => false
      | x => true) = true ∧ d * 48 ≤ 140737488355328 ∧ e
def Qq2 (a : Int) := Value.int IntKind.i64 a
def Qq3 (a : Option (Value × AHeap)) (b : Qql) (c d : Nat) (e : AHeap) := a = some (Prod.mk (Value.slice b c d) e)
def Qq4 (a : Qql) (b : List (Sh.T voteSh)) (c : Nat) := Value.slice a (List.length b) c
def Qq5 (a : OX (Sh.T voteSh)) := Qq4 (OX.a a) (OX.xs a) (OX.c a)
def Qq6 (a : AHeap) (b : Qqk) := AHeap.push a (AObj.mk b 5 true)
def Qq7 (a b c : Int) (d : ByteArray) (e : Int) := [Qq2 a, Qq2 b, Qq2 c, Value.string d, Qq2 e]
def Qq8 (a : AHeap) (b : Nat) := some (Addr.mk (AHeap.n a) 0 (some b))
def Qq9 (a : AHeap) := Value.slice (Qq8 a 5) 1 2
def Qqa := Value.bool false
def Qqb (a : FuncId) (b : List Value) (c : AHeap) (d : Value) (e : AHeap) := ACall Tryz.prog a b c d e
def Qqc (a : List Value) := Value.agg (Array.mk a)
theorem voteAdd_spec (h : AHeap) (o : OX voteSh.T) (B : OXok voteSh h o) (k v q f : Int) (op : ByteArray) (hl : o.xs.length ≤ 400) :
    ∃ x h', ACall Tryz.prog 152 [.slice o.a o.xs.length o.c, .agg #[.int .i64 k, .int .i64 v, .int .i64 q, .string op, .int .i64 f]] o.g x h' ∧ ∃ (o' : OX voteSh.T) (cd : Int), h' = o'.g ∧ OXok voteSh h o' ∧ o'.xs = (addM o.xs (k, v, q, op, f)).1 ∧
      x = .tuple #[.slice o'.a o'.xs.length o'.c, .bool (addM o.xs (k, v, q, op, f)).2, .int .i64 cd] ∧ o.g.n ≤ o'.g.n ∧ (∀ z w, z ∉ o.ids → o.g.get z = some w → o'.g.get z = some w) ∧ ∀ z ∈ o'.ids, o.g.n ≤ z ∨ z ∈ o.ids := by
  refine acall_q fun Q HQ => ?_
  refine acall_vc (fun _ => false) (fun _ => []) (fun _ => .none) mixed Tryz.func152 rfl rfl rfl (Nat.le_of_ble_eq_true rfl) (by (refine vc_mp (by kernel_rfl : (Qq0 (Qq0 (True ∧ True) (Qq0 (True ∧ True) True)) (True ∧ True)) = _) ?_; delta Qq0); simp only [and_self]) ?_
  have SL : Sl o.g voteSh o.xs (.slice o.a o.xs.length o.c) := B.sn.so.sl
  obtain ⟨_, g, A, le, w, i, rfl, hi⟩ := voteIndex_spec o.g B.wf o.a o.c o.xs k v q f op SL (by omega)
  have same : ∀ cd, (∃ j, j < o.xs.length ∧ VoteAt o.xs (k, v, q, op, f) j) ∨ 400 ≤ o.xs.length → Q (.tuple #[.slice o.a o.xs.length o.c, .bool false, .int .i64 cd]) g := fun cd hc =>
    HQ _ _ ⟨⟨o.a, o.c, o.xs, o.ids, g⟩, cd, rfl, B.grow le w, by rw [addM_old hc], by rw [addM_old hc], le.n, fun z x _ hz => le.get z x hz, fun z hz => .inr hz⟩
  (refine vc_mp (by kernel_rfl : (∃ (x : Int) (h' : AHeap), Qqb 125 [Qq5 o, Qqc (Qq7 k v q op f)] (OX.g o) (Qq2 x) h' ∧ bs (decide (x ≥ 0)) (Q (Value.tuple (Array.mk [Qq5 o, Qqa, Qq2 0])) h') (bs (decide ((↑(List.length (OX.xs o)) : Int) = 400)) (Q (Value.tuple (Array.mk [Qq5 o, Qqa, Qq2 9])) h') (∃ (xs : List (List Value)), Qq1 (Qq6 h' [Qq7 k v q op f]) (Qq9 h') xs (List.length (OX.xs o) + List.length xs) (∃ (a : Option Addr) (n c : Nat) (h'_1 : AHeap), Qq3 (AHeap.app (Qq6 h' [Qq7 k v q op f]) (Qq5 o) xs 5) a n c h'_1 ∧ Q (Value.tuple (Array.mk [Value.slice a n c, Value.bool true, Qq2 0])) h'_1)))) = _) ?_; delta Qq1 Qq2 Qq3 Qq4 Qq5 Qq6 Qq7 Qq8 Qq9 Qqa Qqb Qqc)
  refine ⟨_, _, A, bs_d (fun e1 => same 0 (.inl ?_)) (fun e1 => bs_d (fun e2 => same 9 (.inr (by omega))) (fun e2 => ?_))⟩
  · rcases hi with ⟨rfl, _⟩ | ⟨m, hm, rfl, h2, _⟩
    · exact absurd e1 (by decide)
    · exact ⟨m, hm, h2⟩
  · have hn : ¬ ((∃ j, j < o.xs.length ∧ VoteAt o.xs (k, v, q, op, f) j) ∨ 400 ≤ o.xs.length) := fun hc => by
      rcases hc with ⟨j, hj, hv⟩ | hc
      · exact (hi.none.1 (by omega)) j hj hv
      · omega
    have B2 := B.grow le w
    obtain ⟨o', e6, B', hx, hn2, hk, hid⟩ := B2.app (x := (k, v, q, op, f)) (rn_vote.2 ⟨rfl, rfl⟩) .nil (fun _ _ h => by cases h)
    refine ⟨_, rowsV_push, rfl, by simp only [List.length_cons, List.length_nil]; omega, _, _, _, o'.g, e6, HQ _ _ ⟨o', 0, rfl, B', by rw [hx, addM_new hn], by rw [addM_new hn], Nat.le_trans le.n hn2, fun z x hz hg => hk z x hz (le.get z x hg), fun z hz => ?_⟩⟩
    rcases hid z hz with h | h | h
    · have := le.n; left; dsimp only at h; omega
    · exact .inr h
    · cases h
end Go.Proofs.YtpgfjadjhliohaaGreat
end
section
namespace Go.Proofs.YtpgfjadjhliohaaGreat
open Go.Abs Go.Dat
set_option maxRecDepth 100000
set_option maxHeartbeats 8000000
def Qqd (a : AHeap) := Qq6 a List.nil
def Qqe (a b : AHeap) (c : Qqk) (d : Qql) (e f : Nat) (g : AHeap) := Qq3 (AHeap.app a (Value.slice (Qq8 b 5) 0 1) c 5) d e f g
def Qqf (a : Qqk) := 0 + List.length a
theorem l11Add_spec (h : AHeap) (hw : h.wf) (l : List voteSh.T) (a : Option Addr) (c : Nat) (h1 : Sl h voteSh l (.slice a l.length c)) (k v q f : Int) (op : ByteArray) (hl : l.length ≤ 400) :
    ∃ x h', ACall Tryz.prog 104 [.slice a l.length c, .agg #[.int .i64 k, .int .i64 v, .int .i64 q, .string op, .int .i64 f]] h x h' ∧ h.Le h' ∧ h'.wf ∧
      ((∃ o : OX voteSh.T, x = .agg #[.slice o.a o.xs.length o.c, .bool (addM l (k, v, q, op, f)).2, .int .i64 0] ∧ h' = o.g ∧ OXok voteSh h o ∧ o.xs = (addM l (k, v, q, op, f)).1) ∨
       (x = .agg #[.slice none 0 0, .bool false, .int .i64 9] ∧ addM l (k, v, q, op, f) = (l, false))) := by
  refine acall_q fun Q HQ => ?_
  have wp := hw.push ⟨[], 5, true⟩
  have B0 : SoB voteSh h (h.push ⟨[], 5, true⟩) (some ⟨h.n, 0, some 5⟩) 0 1 [] [h.n] := so_empty (s := voteSh) hw
  refine acall_vc (fun _ => false) (fun r => match r with | 5 => [(1, 0, []), (3, 1, []), (0, 2, [3]), (4, 2, [3, 0]), (2, 3, [3, 4]), (5, 3, []), (6, 0, []), (7, 3, [])] | _ => []) (fun _ => .none) mixed Tryz.func104 rfl rfl rfl (Nat.le_of_ble_eq_true rfl) (by (refine vc_mp (by kernel_rfl : (Qq0 (Qq0 (True ∧ True) True) (Qq0 (True ∧ True) True ∧ True ∧ True)) = _) ?_; delta Qq0); simp only [and_self]) ?_
  (refine vc_mp (by kernel_rfl : (∃ (x : Bool) (h' : AHeap), Qqb 62 [Qq4 a l c, Qqc (Qq7 k v q op f)] h (Value.bool x) h' ∧ bs x (∃ (xs : List (List Value)), Qq1 (Qqd h') (Qq4 a l c) xs (Qqf xs) (∃ (a : Option Addr) (n c : Nat) (h'_1 : AHeap), Qqe (Qqd h') h' xs a n c h'_1 ∧ Q (Qqc [Value.slice a n c, Qqa, Qq2 (Int.ofNat 0)]) h'_1)) (bs (decide ((↑(List.length l) : Int) ≥ 400)) (Q (Qqc [Value.slice none 0 0, Qqa, Qq2 9]) h') (Qqc (Qq7 k v q op f) = Qqc (Qq7 k v q op f) ∧ (AHeap.get (Qq6 (Qqd h') [Qq7 k v q op f]) (AHeap.n h') = AHeap.get (Qqd h') (AHeap.n h') ∧ AHeap.n (Qqd h') ≤ AHeap.n (Qq6 (Qqd h') [Qq7 k v q op f])) ∧ Qqc (Qq7 k v q op f) = Qqc (Qq7 k v q op f) ∧ (∃ (xs : List (List Value)), Qq1 (Qq6 (Qqd h') [Qq7 k v q op f]) (Qq4 a l c) xs (Qqf xs) (∃ (a : Option Addr) (n c : Nat) (h'_1 : AHeap), Qqe (Qq6 (Qqd h') [Qq7 k v q op f]) h' xs a n c h'_1 ∧ (AHeap.get h'_1 (AHeap.n (Qqd h')) = AHeap.get (Qq6 (Qqd h') [Qq7 k v q op f]) (AHeap.n (Qqd h')) ∧ AHeap.n (Qq6 (Qqd h') [Qq7 k v q op f]) ≤ AHeap.n h'_1) ∧ Qqc (Qq7 k v q op f) = Qqc (Qq7 k v q op f) ∧ (∃ (xs : List (List Value)), Qq1 h'_1 (Qq9 (Qqd h')) xs (n + List.length xs) (∃ (a_1 : Option Addr) (n_1 c_1 : Nat) (h' : AHeap), Qq3 (AHeap.app h'_1 (Value.slice a n c) xs 5) a_1 n_1 c_1 h' ∧ Q (Qqc [Value.slice a_1 n_1 c_1, Value.bool true, Qq2 (Int.ofNat 0)]) h'))))))) = _) ?_; delta Qq1 Qq2 Qq3 Qq4 Qq6 Qq7 Qq8 Qq9 Qqa Qqb Qqc Qqd Qqe Qqf)
  refine ⟨_, _, l11Has_spec h l a c k v q f op h1 (by omega), bs_b (fun e => ?_) (fun e => bs_d (fun e2 => ?_) (fun e2 => ?_))⟩
  · obtain ⟨rows, e1, e2, e3, a', c', g, ids', e4, B1, hn, hk, hi⟩ := SoB.appR rfl B0 h1
    rw [Nat.zero_add, List.nil_append] at B1
    rw [Nat.zero_add] at e4
    have hc : (∃ j, j < l.length ∧ VoteAt l (k, v, q, op, f) j) ∨ 400 ≤ l.length := by
      left
      refine Classical.byContradiction fun hn => of_tr e fun j hj hv => hn ⟨j, hj, hv⟩
    exact ⟨rows, e1, e2, by omega, _, _, _, g, e4, HQ _ _ ⟨B1.le, B1.wf, .inl ⟨⟨a', c', l, ids', g⟩, by rw [addM_old hc]; rfl, rfl, B1, by rw [addM_old hc]⟩⟩⟩
  · exact HQ _ _ ⟨.refl _, hw, .inr ⟨rfl, addM_old (.inr (by omega))⟩⟩
  · obtain ⟨g1, hg1⟩ : ∃ g1, g1 = (h.push ⟨[], 5, true⟩).push ⟨[[.int .i64 k, .int .i64 v, .int .i64 q, .string op, .int .i64 f]], 5, true⟩ := ⟨_, rfl⟩
    have le1 : (h.push ⟨[], 5, true⟩).Le g1 := by rw [hg1]; exact .push wp _
    have w1 : g1.wf := by rw [hg1]; exact wp.push _
    have q1 : g1.get (h.push ⟨[], 5, true⟩).n = some ⟨[[.int .i64 k, .int .i64 v, .int .i64 q, .string op, .int .i64 f]], 5, true⟩ := by rw [hg1]; exact AHeap.get_push_eq
    have q0 : g1.get h.n = (h.push ⟨[], 5, true⟩).get h.n := by rw [hg1]; exact AHeap.get_push_ne (by show h.n ≠ h.n + 1; omega)
    obtain ⟨rows, e1, e2', e3, a', c', g, ids', e4, B1, hn, hk, hi⟩ := SoB.appR rfl (B0.grow le1 w1) h1
    rw [Nat.zero_add, List.nil_append] at B1
    rw [Nat.zero_add] at e4
    have hne : (h.push ⟨[], 5, true⟩).n ∉ [h.n] := fun hm => by have e5 : h.n + 1 = h.n := List.mem_singleton.1 hm; omega
    have q2 := hk _ _ hne q1
    have hno : ¬ ((∃ j, j < l.length ∧ VoteAt l (k, v, q, op, f) j) ∨ 400 ≤ l.length) := fun hc => by
      rcases hc with ⟨j, hj, hv⟩ | hc
      · exact of_trn e fun H => H j hj hv
      · omega
    obtain ⟨l2, g2, ids2, e6, B2, hn2, hi2, hk2⟩ := B1.app (x := (k, v, q, op, f)) (rn_vote.2 ⟨rfl, rfl⟩) .nil (fun _ _ h => by cases h)
    rw [← hg1]
    refine ⟨rfl, ⟨q0, le1.n⟩, rfl, rows, e1, e2', by omega, _, _, _, g, e4, ⟨q2.trans q1.symm, hn⟩, rfl, [[.int .i64 k, .int .i64 v, .int .i64 q, .string op, .int .i64 f]], ?_, rfl, by simp only [List.length_cons, List.length_nil]; omega, _, _, _, g2, e6, ?_⟩
    · show g.rowsOf (.slice (some ⟨(h.push ⟨[], 5, true⟩).n, 0, some 5⟩) 1 2) = some _
      rw [get_rows q2 (by simp)]; rfl
    · have el : ((show List voteSh.T from l) ++ [(k, v, q, op, f)]).length = l.length + 1 := by simp
      refine HQ _ _ ⟨B2.le, B2.wf, .inl ⟨⟨_, 0, (show List voteSh.T from l) ++ [(k, v, q, op, f)], ids2, g2⟩, by rw [addM_new hno]; exact congrArg (fun n => Value.agg #[.slice (some ⟨l2, 0, some 5⟩) n 0, .bool true, .int .i64 0]) el.symm, rfl, ?_, by rw [addM_new hno]⟩⟩
      show SoB voteSh h g2 _ ((show List voteSh.T from l) ++ [(k, v, q, op, f)]).length 0 _ ids2
      rw [el]; exact B2
end Go.Proofs.YtpgfjadjhliohaaGreat
end
section
namespace Go.Dat
open Go.Abs
end Go.Dat
namespace Go.Proofs.YtpgfjadjhliohaaGreat
open Go.Abs Go.Dat
set_option maxRecDepth 100000
set_option maxHeartbeats 8000000
end Go.Proofs.YtpgfjadjhliohaaGreat
end
section
namespace Go.Dat
open Go.Abs
theorem fresh_app {a b : Nat} {i j : List Nat} (x : Fresh a b i) (y : Fresh a b j) (d : ∀ z ∈ i, z ∉ j) : Fresh a b (i ++ j) :=
  ⟨List.nodup_append.2 ⟨x.nd, y.nd, fun p hp q hq e => d p hp (e ▸ hq)⟩, fun l hl => (List.mem_append.1 hl).elim (x.bd l) (y.bd l)⟩
theorem WkOk.fresh {n0 l : Nat} {g : AHeap} {w : Wk} (W : WkOk n0 l g w) : Fresh n0 g.n (w.votes.ids ++ (w.changes.ids ++ (w.nch.ids ++ (w.log.ids ++ w.says.ids)))) := by
  have dj := fun (i j : Nat) (a b : List Nat) (ha : (w.lists l)[i]? = some a) (hb : (w.lists l)[j]? = some b) (e : i ≠ j) => W.dj i j a b e ha hb
  refine fresh_app W.V.fr (fresh_app W.C.fr (fresh_app W.N.2 (fresh_app W.L.fr W.S.fr ?_) ?_) ?_) ?_
  · exact fun z h => dj 4 5 _ _ rfl rfl (by decide) z h
  · exact fun z h k => (List.mem_append.1 k).elim (dj 3 4 _ _ rfl rfl (by decide) z h) (dj 3 5 _ _ rfl rfl (by decide) z h)
  · exact fun z h k => (List.mem_append.1 k).elim (dj 2 3 _ _ rfl rfl (by decide) z h) fun k => (List.mem_append.1 k).elim (dj 2 4 _ _ rfl rfl (by decide) z h) (dj 2 5 _ _ rfl rfl (by decide) z h)
  · exact fun z h k => (List.mem_append.1 k).elim (dj 1 2 _ _ rfl rfl (by decide) z h) fun k => (List.mem_append.1 k).elim (dj 1 3 _ _ rfl rfl (by decide) z h) fun k => (List.mem_append.1 k).elim (dj 1 4 _ _ rfl rfl (by decide) z h) (dj 1 5 _ _ rfl rfl (by decide) z h)
end Go.Dat
namespace Go.Proofs.YtpgfjadjhliohaaGreat
open Go.Abs Go.Dat
set_option maxRecDepth 100000
set_option maxHeartbeats 8000000
end Go.Proofs.YtpgfjadjhliohaaGreat
end
section
namespace Go.Dat
open Go.Abs
theorem Dj.nil : Dj [] := fun i j a b _ ha => by cases ha
theorem Dj.cons {A : List (List Nat)} {x : List Nat} (h : Dj A) (d : ∀ a ∈ A, ∀ z ∈ x, z ∉ a) : Dj (x :: A) := by
  intro i j a b hij ha hb z hza hzb
  cases i with
  | zero =>
    cases j with
    | zero => exact hij rfl
    | succ j =>
      simp only [List.getElem?_cons_zero, List.getElem?_cons_succ] at ha hb
      cases ha
      exact d b (List.mem_of_getElem? hb) z hza hzb
  | succ i =>
    cases j with
    | zero =>
      simp only [List.getElem?_cons_zero, List.getElem?_cons_succ] at ha hb
      cases hb
      exact d a (List.mem_of_getElem? ha) z hzb hza
    | succ j =>
      simp only [List.getElem?_cons_succ] at ha hb
      exact h i j a b (by omega) ha hb z hza hzb
theorem dj_seg {n0 n1 n2 n3 n4 l : Nat} {V C N L : List Nat} (h1 : Fresh n0 n1 V) (h2 : Fresh n1 n2 C) (h3 : Fresh n2 n3 N) (h4 : Fresh n3 n4 L) (m1 : n0 ≤ n1) (m2 : n1 ≤ n2) (m3 : n2 ≤ n3) (m4 : n3 ≤ n4) (hl : l < n0 ∨ n4 ≤ l) : Dj [[l], V, C, N, L, []] := by
  have b1 := fun z hz => h1.bd z hz
  have b2 := fun z hz => h2.bd z hz
  have b3 := fun z hz => h3.bd z hz
  have b4 := fun z hz => h4.bd z hz
  refine Dj.cons (Dj.cons (Dj.cons (Dj.cons (Dj.cons (Dj.cons .nil ?_) ?_) ?_) ?_) ?_) ?_
  all_goals
    intro a ha z hz hza
    simp only [List.mem_cons, List.not_mem_nil, or_false] at ha
  · subst ha; cases hza
  · rcases ha with rfl | rfl
    · have := b3 z hz; have := b4 z hza; omega
    · cases hza
  · rcases ha with rfl | rfl | rfl
    · have := b2 z hz; have := b3 z hza; omega
    · have := b2 z hz; have := b4 z hza; omega
    · cases hza
  · rcases ha with rfl | rfl | rfl | rfl
    · have := b1 z hz; have := b2 z hza; omega
    · have := b1 z hz; have := b3 z hza; omega
    · have := b1 z hz; have := b4 z hza; omega
    · cases hza
  · simp only [List.mem_cons, List.not_mem_nil, or_false] at hz
    subst hz
    rcases ha with rfl | rfl | rfl | rfl | rfl
    · have := b1 z hza; omega
    · have := b2 z hza; omega
    · have := b3 z hza; omega
    · have := b4 z hza; omega
    · cases hza
theorem Cpy.sob {s : Sh} (hf : s.flat = true) {h0 h : AHeap} {xs : List s.T} {l c : Nat} {rows : List (List Value)} (C : Cpy s h0 h xs l c rows) : SoB s (E0 h0.n) h (some ⟨l, 0, some s.cells⟩) xs.length c xs [l] :=
  SoB.flat hf (g := h0) (E0.le C.le.n) C.wf E0.wf C.new rfl C.get C.len C.cap C.rd
end Go.Dat
namespace Go.Proofs.YtpgfjadjhliohaaGreat
open Go.Abs Go.Dat
set_option maxRecDepth 100000
set_option maxHeartbeats 8000000
def CopyOk (h h' : AHeap) (vs : List voteSh.T) (cg cs : List changeSh.T) (log : List Sh.str.T) (V : LX voteSh.T) (C N : LX changeSh.T) (L : LX Sh.str.T) : Prop :=
  h.Le h' ∧ h'.wf ∧ V.xs = vs ∧ C.xs = cg ∧ N.xs = cs ∧ L.xs = log ∧ LXB voteSh h.n h' V ∧ LXB changeSh h.n h' C ∧ LXN changeSh h.n h' N ∧ LXB Sh.str h.n h' L ∧ ∀ l, l < h.n ∨ h'.n ≤ l → Dj [[l], V.ids, C.ids, N.ids, L.ids, []]
theorem copyOk_mk {h g1 g2 g3 g4 : AHeap} {vs : List voteSh.T} {cg cs : List changeSh.T} {log : List Sh.str.T} {V : LX voteSh.T} {C N : LX changeSh.T} {L : LX Sh.str.T}
    (l1 : h.Le g1) (l2 : g1.Le g2) (l3 : g2.Le g3) (l4 : g3.Le g4) (w4 : g4.wf) (eV : V.xs = vs) (eC : C.xs = cg) (eN : N.xs = cs) (eL : L.xs = log) (bV : LXB voteSh h.n g1 V) (bC : LXB changeSh g1.n g2 C) (bN : LXN changeSh g2.n g3 N) (bL : LXB Sh.str g3.n g4 L) : CopyOk h g4 vs cg cs log V C N L := by
  have l24 := l2.trans (l3.trans l4)
  refine ⟨l1.trans l24, w4, eV, eC, eN, eL, SoB.kp bV (J := []) (.of_le l24) w4 (by simp), ?_, ?_, ?_, fun l hl => dj_seg bV.fr bC.fr bN.2 bL.fr l1.n l2.n l3.n l4.n hl⟩
  · exact SoB.base (bC.kp (J := []) (.of_le (l3.trans l4)) w4 (by simp)) l1.n
  · have := bN.kp (J := []) (.of_le l4) (by simp)
    exact ⟨this.1, this.2.widen (Nat.le_trans l1.n l2.n) (Nat.le_refl _)⟩
  · exact ⟨E0.le (Nat.le_trans l1.n l24.n), bL.wf, E0.wf, bL.len, bL.fr.widen (Nat.le_trans l1.n (Nat.le_trans l2.n l3.n)) (Nat.le_refl _), bL.at_⟩
def Qqg (a : AHeap) := AHeap.push a (AObj.mk List.nil 1 true)
def Qqh (a : Qql) (b : List (Sh.T Sh.str)) (c : Nat) := Value.slice a (List.length b) c
def Qqi (a b c d : Int) (e : ByteArray) (f : Value) := Qqc [Qq2 a, Qq2 b, Qq2 c, Qq2 d, Value.string e, f]
def Qqj (a : Qql) (b : List (Sh.T changeSh)) (c : Nat) := Value.slice a (List.length b) c
theorem l13Copy_spec (h : AHeap) (hw : h.wf) (id view top k f v q : Int) (chg : Bool) (vs : List voteSh.T) (cg : List changeSh.T) (op : ByteArray) (cs : List changeSh.T) (log : List Sh.str.T) (a1 : Option Addr) (c1 : Nat) (a2 : Option Addr) (c2 : Nat) (a3 : Option Addr) (c3 : Nat) (a4 : Option Addr) (c4 : Nat)
    (h1 : Sl h voteSh vs (.slice a1 vs.length c1)) (h2 : Sl h changeSh cg (.slice a2 cg.length c2)) (h3 : Sl h changeSh cs (.slice a3 cs.length c3)) (h4 : Sl h Sh.str log (.slice a4 log.length c4)) (n1 : vs.length ≤ 1048576) (s2 : (Sh.sl changeSh).small cg) (s3 : (Sh.sl changeSh).small cs) (n4 : log.length ≤ 1048576) :
    ∃ r h', ACall Tryz.prog 52 [.agg #[.int .i64 id, .int .i64 view, .bool chg, .int .i64 top, .slice a1 vs.length c1, .slice a2 cg.length c2, .int .i64 k, .int .i64 f, .int .i64 v, .int .i64 q, .string op, .slice a3 cs.length c3, .slice a4 log.length c4]] h r h' ∧
      ∃ (V : LX voteSh.T) (C N : LX changeSh.T) (L : LX Sh.str.T), CopyOk h h' vs cg cs log V C N L ∧ r = .agg #[.int .i64 id, .int .i64 view, .bool chg, .int .i64 top, .slice V.a V.xs.length V.c, .slice C.a C.xs.length C.c, .int .i64 k, .int .i64 f, .int .i64 v, .int .i64 q, .string op, .slice N.a N.xs.length N.c, .slice L.a L.xs.length L.c] := by
  obtain ⟨rows1, e1, e2, e3, lo1, p1, g1, e4, K1⟩ := app_shallow (s := voteSh) hw h1
  obtain ⟨_, g2, A2, a2', c2', j2, rfl, B2⟩ := l13CopyChanges_sob g1 K1.wf cg a2 c2 (h2.mono K1.le) s2
  have le2 := B2.le
  have w2 := B2.wf
  obtain ⟨_, g3, A3, le3, w3, a3', c3', j3, rfl, S3, F3⟩ := l13CopySay_spec g2 w2 k f v q op cs a3 c3 (h3.mono (K1.le.trans le2)) s3
  obtain ⟨rows4, f1, f2, f3, lo4, p4, g4, f4, K4⟩ := app_shallow (s := Sh.str) w3 (h4.mono (K1.le.trans (le2.trans le3)))
  refine acall_q fun Q HQ => ?_
  refine acall_vc (fun _ => false) (fun _ => []) (fun _ => .none) mixed Tryz.func52 rfl rfl rfl (Nat.le_of_ble_eq_true rfl) (by (refine vc_mp (by kernel_rfl : (Qq0 True (Qq0 True (Qq0 True True))) = _) ?_; delta Qq0); simp only [and_self]) ?_
  (refine vc_mp (by kernel_rfl : (∃ (xs : List (List Value)), Qq1 (Qqd h) (Qq4 a1 vs c1) xs (Qqf xs) (∃ (a : Option Addr) (n c : Nat) (h' : AHeap), Qqe (Qqd h) h xs a n c h' ∧ (∃ (a_1 : Option Addr) (n_1 c_1 : Nat) (h'_1 : AHeap), Qqb 71 [Qqj a2 cg c2] h' (Value.slice a_1 n_1 c_1) h'_1 ∧ (∃ (x x_1 x_2 x_3 : Int) (x_4 : ByteArray) (a_2 : Option Addr) (n_2 c_2 : Nat) (h' : AHeap), Qqb 34 [Qqi k f v q op (Qqj a3 cs c3)] h'_1 (Qqi x x_1 x_2 x_3 x_4 (Value.slice a_2 n_2 c_2)) h' ∧ (∃ (xs : List (List Value)), rowsV (Qqg h') (Qqh a4 log c4) = some xs ∧ List.all xs (fun (row : List Value) =>
  decide (List.length row = (1 : Nat)) &&
    List.all row fun (v : Value) =>
      match v with
      | Value.agg cells => false
      | Value.tuple cells => false
      | Value.complex k re im => false
      | Value.chan r => false
      | x => true) = true ∧ Qqf xs * 16 ≤ 140737488355328 ∧ (∃ (a_3 : Option Addr) (n_3 c_3 : Nat) (h'_2 : AHeap), Qq3 (AHeap.app (Qqg h') (Value.slice (Qq8 h' 1) 0 1) xs 1) a_3 n_3 c_3 h'_2 ∧ Q (Qqc [Qq2 id, Qq2 view, Value.bool chg, Qq2 top, Value.slice a n c, Value.slice a_1 n_1 c_1, Qq2 x, Qq2 x_1, Qq2 x_2, Qq2 x_3, Value.string x_4, Value.slice a_2 n_2 c_2, Value.slice a_3 n_3 c_3]) h'_2)))))) = _) ?_; delta Qq1 Qq2 Qq3 Qq4 Qq6 Qq8 Qqb Qqc Qqd Qqe Qqf Qqg Qqh Qqi Qqj)
  exact ⟨rows1, e1, e2, by rw [e3]; omega, _, _, _, g1, e4, _, _, _, _, A2, _, _, _, _, _, _, _, _, _, A3, rows4, f1, f2, by rw [f3]; omega, _, _, _, g4, f4, HQ _ _ ⟨⟨_, _, vs, [lo1]⟩, ⟨a2', c2', cg, j2⟩, ⟨a3', c3', cs, j3⟩, ⟨_, _, log, [lo4]⟩, copyOk_mk K1.le le2 le3 K4.le K4.wf rfl rfl rfl rfl (K1.sob rfl) (B2.base (Nat.le_refl _)) ⟨S3, F3⟩ (K4.sob rfl), rfl⟩⟩
theorem cloneV_lx (h : AHeap) (hw : h.wf) (a : Option Addr) (c : Nat) (xs : List voteSh.T) (hx : Sl h voteSh xs (.slice a xs.length c)) (hn : xs.length ≤ 1048576) :
    ∃ (X : LX voteSh.T) (g : AHeap), ACall Tryz.prog 145 [.slice a xs.length c] h (.slice X.a X.xs.length X.c) g ∧ h.Le g ∧ g.wf ∧ X.xs = xs ∧ LXB voteSh h.n g X := by
  obtain ⟨_, g, A, ⟨rfl, rfl, eg⟩ | ⟨l, c', rows, rfl, C⟩⟩ := cloneVote_spec h hw a c xs hx hn
  · rw [eg] at A
    exact ⟨⟨none, 0, [], []⟩, h, A, .refl _, hw, rfl, SoB.new hw (Nat.le_refl _)⟩
  · exact ⟨⟨_, _, xs, [l]⟩, g, A, C.le, C.wf, rfl, C.sob rfl⟩
theorem cloneS_lx (h : AHeap) (hw : h.wf) (a : Option Addr) (c : Nat) (xs : List Sh.str.T) (hx : Sl h Sh.str xs (.slice a xs.length c)) (hn : xs.length ≤ 1048576) :
    ∃ (X : LX Sh.str.T) (g : AHeap), ACall Tryz.prog 146 [.slice a xs.length c] h (.slice X.a X.xs.length X.c) g ∧ h.Le g ∧ g.wf ∧ X.xs = xs ∧ LXB Sh.str h.n g X := by
  obtain ⟨_, g, A, ⟨rfl, rfl, eg⟩ | ⟨l, c', rows, rfl, C⟩⟩ := cloneStr_spec h hw a c xs hx hn
  · rw [eg] at A
    exact ⟨⟨none, 0, [], []⟩, h, A, .refl _, hw, rfl, SoB.new hw (Nat.le_refl _)⟩
  · exact ⟨⟨_, _, xs, [l]⟩, g, A, C.le, C.wf, rfl, C.sob rfl⟩
theorem cloneReplica_spec (h : AHeap) (hw : h.wf) (id view top k f v q : Int) (chg : Bool) (vs : List voteSh.T) (cg : List changeSh.T) (op : ByteArray) (cs : List changeSh.T) (log : List Sh.str.T) (a1 : Option Addr) (c1 : Nat) (a2 : Option Addr) (c2 : Nat) (a3 : Option Addr) (c3 : Nat) (a4 : Option Addr) (c4 : Nat)
    (h1 : Sl h voteSh vs (.slice a1 vs.length c1)) (h2 : Sl h changeSh cg (.slice a2 cg.length c2)) (h3 : Sl h changeSh cs (.slice a3 cs.length c3)) (h4 : Sl h Sh.str log (.slice a4 log.length c4)) (n1 : vs.length ≤ 1048576) (s2 : (Sh.sl changeSh).small cg) (s3 : (Sh.sl changeSh).small cs) (n4 : log.length ≤ 1048576) :
    ∃ r h', ACall Tryz.prog 107 [.agg #[.int .i64 id, .int .i64 view, .bool chg, .int .i64 top, .slice a1 vs.length c1, .slice a2 cg.length c2, .int .i64 k, .int .i64 f, .int .i64 v, .int .i64 q, .string op, .slice a3 cs.length c3, .slice a4 log.length c4]] h r h' ∧
      ∃ (V : LX voteSh.T) (C N : LX changeSh.T) (L : LX Sh.str.T), CopyOk h h' vs cg cs log V C N L ∧ r = .agg #[.int .i64 id, .int .i64 view, .bool chg, .int .i64 top, .slice V.a V.xs.length V.c, .slice C.a C.xs.length C.c, .int .i64 k, .int .i64 f, .int .i64 v, .int .i64 q, .string op, .slice N.a N.xs.length N.c, .slice L.a L.xs.length L.c] := by
  obtain ⟨V, g1, A1, le1, w1, eV, bV⟩ := cloneV_lx h hw a1 c1 vs h1 n1
  obtain ⟨_, g2, A2, a2', c2', j2, rfl, B2⟩ := cloneChgs_sob g1 w1 cg a2 c2 (h2.mono le1) s2
  have le2 := B2.le
  have w2 := B2.wf
  obtain ⟨_, g3, A3, le3, w3, a3', c3', j3, rfl, S3, F3⟩ := cloneSay_spec g2 w2 k f v q op cs a3 c3 (h3.mono (le1.trans le2)) s3
  obtain ⟨L, g4, A4, le4, w4, eL, bL⟩ := cloneS_lx g3 w3 a4 c4 log (h4.mono (le1.trans (le2.trans le3))) n4
  refine acall_q fun Q HQ => ?_
  refine acall_vc (fun _ => false) (fun r => match r with | 1 => [(0, 0, []), (3, 0, []), (6, 0, []), (9, 0, []), (1, 1, []), (4, 1, []), (7, 1, []), (10, 1, []), (2, 3, [4, 7, 10]), (12, 0, []), (5, 3, [7, 10]), (8, 3, [10]), (11, 3, []), (13, 3, []), (14, 0, []), (15, 3, []), (16, 0, []), (17, 3, []), (18, 0, []), (19, 3, [])] | _ => []) (fun _ => .none) mixed Tryz.func107 rfl rfl rfl (Nat.le_of_ble_eq_true rfl) (by (refine vc_mp (by kernel_rfl : (Qq0 True (True ∧ True)) = _) ?_; delta Qq0); simp only [and_self]) ?_
  (refine vc_mp (by kernel_rfl : (∃ (a : Option Addr) (n c : Nat) (h' : AHeap), Qqb 145 [Qq4 a1 vs c1] h (Value.slice a n c) h' ∧ Qqh a4 log c4 = Qqh a4 log c4 ∧ Qqi k f v q op (Qqj a3 cs c3) = Qqi k f v q op (Qqj a3 cs c3) ∧ Qqj a2 cg c2 = Qqj a2 cg c2 ∧ (∃ (a_1 : Option Addr) (n_1 c_1 : Nat) (h'_1 : AHeap), Qqb 138 [Qqj a2 cg c2] h' (Value.slice a_1 n_1 c_1) h'_1 ∧ Qqh a4 log c4 = Qqh a4 log c4 ∧ Qqi k f v q op (Qqj a3 cs c3) = Qqi k f v q op (Qqj a3 cs c3) ∧ (∃ (x x_1 x_2 x_3 : Int) (x_4 : ByteArray) (a_2 : Option Addr) (n_2 c_2 : Nat) (h' : AHeap), Qqb 97 [Qqi k f v q op (Qqj a3 cs c3)] h'_1 (Qqi x x_1 x_2 x_3 x_4 (Value.slice a_2 n_2 c_2)) h' ∧ Qqh a4 log c4 = Qqh a4 log c4 ∧ (∃ (a_3 : Option Addr) (n_3 c_3 : Nat) (h'_2 : AHeap), Qqb 146 [Qqh a4 log c4] h' (Value.slice a_3 n_3 c_3) h'_2 ∧ Q (Qqc [Qq2 id, Qq2 view, Value.bool chg, Qq2 top, Value.slice a n c, Value.slice a_1 n_1 c_1, Qq2 x, Qq2 x_1, Qq2 x_2, Qq2 x_3, Value.string x_4, Value.slice a_2 n_2 c_2, Value.slice a_3 n_3 c_3]) h'_2)))) = _) ?_; delta Qq2 Qq4 Qqb Qqc Qqh Qqi Qqj)
  exact ⟨_, _, _, _, A1, rfl, rfl, rfl, _, _, _, _, A2, rfl, rfl, _, _, _, _, _, _, _, _, _, A3, rfl, _, _, _, _, A4, HQ _ _ ⟨V, ⟨a2', c2', cg, j2⟩, ⟨a3', c3', cs, j3⟩, L, copyOk_mk le1 le2 le3 le4 w4 eV rfl rfl eL bV (B2.base (Nat.le_refl _)) ⟨S3, F3⟩ bL, rfl⟩⟩
end Go.Proofs.YtpgfjadjhliohaaGreat
end
