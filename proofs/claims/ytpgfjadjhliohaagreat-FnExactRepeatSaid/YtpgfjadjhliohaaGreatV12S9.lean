/- N2, G2, E1, W14, H3, H4, H5, K1, S9. -/
import Derived.Test.YtpgfjadjhliohaaGreatV12N1
import Derived.Test.YtpgfjadjhliohaaGreatV12G1
import Derived.Test.YtpgfjadjhliohaaGreatV12C3
import Derived.Test.YtpgfjadjhliohaaGreatV12W13
import Derived.Test.YtpgfjadjhliohaaGreatV12R2
section
namespace Go.Dat
open Go.Abs
def Sh.wide : Sh → Bool
  | .int => true
  | .bool => true
  | .str => true
  | .byte => true
  | .pair a b => a.wide && b.wide
  | .sl e => decide (e.cells ≤ 100) && e.wide
theorem szL_cn {α : Type} {f : α → Int → Int} {c : α → Nat} {k : Nat} (hk : k ≤ 100) (hle : ∀ x l, 0 ≤ l → -1 ≤ f x l ∧ f x l ≤ l) (hf : ∀ x l, 0 ≤ l → 0 ≤ f x l → (c x : Int) ≤ k + 100 * (l - f x l)) : ∀ (xs : List α) (l : Int), 0 ≤ l → 0 ≤ szL f xs l → ((xs.map c).sum : Int) ≤ 100 * xs.length + 100 * (l - szL f xs l) := by
  intro xs
  induction xs with
  | nil => intro l h0 h1; simp [szL]
  | cons x xs ih =>
    intro l h0 h1
    unfold szL at h1 ⊢
    split at h1
    · omega
    · rename_i hn
      rw [if_neg hn]
      have h2 := hle x l h0
      have h3 := hf x l h0 (by omega)
      have h4 := ih (f x l) (by omega) h1
      simp only [List.map_cons, List.sum_cons, List.length_cons]
      omega
theorem Sh.cn_le : ∀ (s : Sh), s.wide = true → ∀ (x : s.T) (l : Int), 0 ≤ l → 0 ≤ s.sz x l → (s.cn x : Int) ≤ s.cells + 100 * (l - s.sz x l) := by
  intro s
  induction s with
  | int => intro _ x l h0 h1; simp [Sh.cn, Sh.cells, Sh.sz]
  | bool => intro _ x l h0 h1; simp [Sh.cn, Sh.cells, Sh.sz]
  | byte => intro _ x l h0 h1; simp [Sh.cn, Sh.cells, Sh.sz]
  | str =>
    intro _ x l h0 h1
    have := Sh.str.sz_le x l h0
    show ((1 : Nat) : Int) ≤ (1 : Nat) + _
    omega
  | pair a b iha ihb =>
    intro hw x l h0 h1
    simp only [Sh.wide, Bool.and_eq_true] at hw
    unfold Sh.sz at h1 ⊢
    have h2 := a.sz_le x.1 l h0
    split at h1
    · omega
    · rename_i hn
      rw [if_neg hn]
      have h3 := iha hw.1 x.1 l h0 (by omega)
      have h4 := ihb hw.2 x.2 _ (by omega) h1
      have e1 : (Sh.pair a b).cn x = a.cn x.1 + b.cn x.2 := rfl
      have e2 : (Sh.pair a b).cells = a.cells + b.cells := rfl
      rw [e1, e2]; omega
  | sl e ih =>
    intro hw xs l h0 h1
    simp only [Sh.wide, Bool.and_eq_true, decide_eq_true_eq] at hw
    unfold Sh.sz at h1 ⊢
    split at h1
    · omega
    · rename_i hn
      rw [if_neg hn]
      have h3 := szL_cn (c := e.cn) hw.1 e.sz_le (fun x l a b => ih hw.2 x l a b) xs _ (by omega) h1
      have e1 : (Sh.sl e).cn xs = (List.map e.cn xs).sum := rfl
      rw [e1]
      have h4 : (0 : Int) ≤ ((Sh.sl e).cells : Int) := Int.natCast_nonneg _
      omega
theorem Sh.cv_le : ∀ (s : Sh), s.wide = true → ∀ (x : s.T) (l : Int), 0 ≤ l → 0 ≤ s.sz x l → (s.cv x : Int) ≤ 100 * (l - s.sz x l) := by
  intro s
  induction s with
  | int => intro _ x l h0 h1; simp [Sh.cv, Sh.sz]
  | bool => intro _ x l h0 h1; simp [Sh.cv, Sh.sz]
  | byte => intro _ x l h0 h1; simp [Sh.cv, Sh.sz]
  | str =>
    intro _ x l h0 h1
    have := Sh.str.sz_le x l h0
    show ((0 : Nat) : Int) ≤ _
    omega
  | pair a b iha ihb =>
    intro hw x l h0 h1
    simp only [Sh.wide, Bool.and_eq_true] at hw
    unfold Sh.sz at h1 ⊢
    have h2 := a.sz_le x.1 l h0
    split at h1
    · omega
    · rename_i hn
      rw [if_neg hn]
      have h3 := iha hw.1 x.1 l h0 (by omega)
      have h4 := ihb hw.2 x.2 _ (by omega) h1
      have e1 : (Sh.pair a b).cv x = a.cv x.1 + b.cv x.2 := rfl
      rw [e1]; omega
  | sl e _ =>
    intro hw xs l h0 h1
    simp only [Sh.wide, Bool.and_eq_true, decide_eq_true_eq] at hw
    unfold Sh.sz at h1 ⊢
    split at h1
    · omega
    · rename_i hn
      rw [if_neg hn]
      have h3 := szL_cn (c := e.cn) hw.1 e.sz_le (fun x l a b => Sh.cn_le e hw.2 x l a b) xs _ (by omega) h1
      have e1 : (Sh.sl e).cv xs = (List.map e.cn xs).sum := rfl
      rw [e1]
      omega
theorem leOut {a g g' : AHeap} {J : List Nat} (le : a.Le g) (w : a.wf) (o : Out J g g') (hJ : ∀ l ∈ J, a.n ≤ l) : a.Le g' :=
  ⟨Nat.le_trans le.n o.shp.n, fun l x hx => o.get l x (fun hm => by have h1 := hJ l hm; have h2 := w.lt hx; omega) (le.get l x hx)⟩
end Go.Dat
end
section
namespace Go.Abs
end Go.Abs
namespace Go.Proofs.YtpgfjadjhliohaaGreat
open Go.Abs Go.Dat
set_option maxRecDepth 100000
set_option maxHeartbeats 4000000
end Go.Proofs.YtpgfjadjhliohaaGreat
end
section
namespace Go.Dat
open Go.Abs
end Go.Dat
namespace Go.Proofs.YtpgfjadjhliohaaGreat
open Go.Abs Go.Dat
set_option maxRecDepth 100000
set_option maxHeartbeats 4000000
end Go.Proofs.YtpgfjadjhliohaaGreat
end
section
namespace Go.Dat
open Go.Abs
theorem inrOk {lo hi n : Int} (h : InR lo hi n) (h1 : -9223372036854775808 ≤ lo) (h2 : hi ≤ 9223372036854775807) : Sh.int.ok n := by
  show (-9223372036854775808 : Int) ≤ n ∧ n ≤ 9223372036854775807
  unfold InR at h; omega
theorem SayOk.cvv {k f v q : Int} {op : ByteArray} {cs : List changeSh.T} (H : SayOk k f v q op cs) : (Sh.sl changeSh).cn cs ≤ 1000 := by
  have h1 : (Sh.sl changeSh).cn cs ≤ 4 * 100 := Sh.cn_sl (e := changeSh) (ChgsOk.len H.2.2.1) (fun c hc => by
    have hx := (Asc.mem H.2.2.1 hc).1
    have h2 : (Sh.sl proofSh).cn c.2.2 ≤ 6 * 12 := Sh.cn_sl (e := proofSh) hx.len (fun p hp => by
      have hq := (Asc.mem hx.2.2 hp).1.2.2.2
      have h3 : (Sh.sl Sh.int).cn p.2.2.2 ≤ 4 * 1 := Sh.cn_sl (e := Sh.int) hq.len (fun _ _ => Nat.le_refl _)
      show 1 + (1 + (1 + (Sh.sl Sh.int).cn p.2.2.2)) ≤ 12
      omega)
    show 1 + (1 + (Sh.sl proofSh).cn c.2.2) ≤ 100
    omega)
  omega
theorem provedM_op {l : List voteSh.T} (H : VotsOk l) {k v q : Int} {op : ByteArray} (h : provedM l k v q = some op) : op.size ≤ 120 := by
  unfold provedM at h
  split at h
  · rename_i he
    cases h
    obtain ⟨f, hf⟩ := List.exists_mem_of_length_pos (show 0 < (votersM l k v q he.choose).length by have := he.choose_spec; omega)
    exact (vots_mem H (mem_upP.1 hf).2.2).2.2.2.1
  · cases h
theorem bestM_in {l : List voteSh.T} (H : VotsOk l) {q v : Int} {op : ByteArray} : ∀ {n : Nat}, bestM l q n = some (v, op) → 0 ≤ v ∧ v < n ∧ op.size ≤ 120
  | 0 => fun h => by cases h
  | n + 1 => fun h => by
    unfold bestM at h
    cases e : provedM l 2 n q with
    | some y => rw [e] at h; cases h; exact ⟨by omega, by omega, provedM_op H e⟩
    | none => rw [e] at h; have := bestM_in H h; exact ⟨this.1, by omega, this.2.2⟩
theorem chgM_mem {l : List voteSh.T} (H : VotsOk l) {below : Nat} (hb : below ≤ 1000) : ∀ {n : Nat}, n ≤ 1000 → ∀ p ∈ chgM l below n, proofSh.ok p ∧ (Sh.sl Sh.int).cn p.2.2.2 ≤ 4
  | 0, _ => fun p hp => by cases hp
  | n + 1, hn => fun p hp => by
    unfold chgM at hp
    rcases List.mem_append.1 hp with hp | hp
    · exact chgM_mem H hb (by omega) p hp
    · cases e : bestM l ((n + 1 : Nat) : Int) below with
      | none => rw [e] at hp; cases hp
      | some y =>
        obtain ⟨v, op⟩ := y
        rw [e] at hp
        have hb := bestM_in H e
        rw [List.mem_singleton.1 hp]
        have hl : (votersM l 2 v ((n + 1 : Nat) : Int) op).length ≤ 4 := upP_len
        refine ⟨⟨?_, ?_, ?_, ?_, ?_⟩, ?_⟩
        · show (-9223372036854775808 : Int) ≤ v ∧ v ≤ 9223372036854775807; omega
        · show (-9223372036854775808 : Int) ≤ ((n + 1 : Nat) : Int) ∧ ((n + 1 : Nat) : Int) ≤ 9223372036854775807; omega
        · show op.size ≤ _; omega
        · show (votersM l 2 v ((n + 1 : Nat) : Int) op).length ≤ _; omega
        · intro x hx
          obtain ⟨h1, h2, _⟩ := mem_upP.1 hx
          exact ⟨Int.le_trans (by decide) h1, Int.le_trans (Int.le_of_lt h2) (by decide)⟩
        · exact Sh.cn_sl (e := Sh.int) (xs := votersM l 2 v ((n + 1 : Nat) : Int) op) hl (fun _ _ => Nat.le_refl _)
theorem chgM_cn {l : List voteSh.T} (H : VotsOk l) {below : Nat} (hb : below ≤ 1000) : (Sh.sl proofSh).cn (chgM l below 6) ≤ 6 * 7 :=
  Sh.cn_sl (e := proofSh) (chgM_len l below 6) (fun p hp => by
    have := (chgM_mem H hb (by omega) p hp).2
    show 1 + (1 + (1 + (Sh.sl Sh.int).cn p.2.2.2)) ≤ 7
    omega)
theorem NewOk.cv {k f v q : Int} {op : ByteArray} {cs : List changeSh.T} (H : NewOk k f v q op cs) : (Sh.sl changeSh).cn cs ≤ 1000 := by
  rcases H with H | H
  · rw [List.length_eq_zero_iff.1 H.2.2.2.2.2]
    exact Nat.zero_le _
  · exact H.2.cvv
theorem rpt_mem (r : replicaSh.T) (ok : replicaSh.ok r) (H : RepOk r) : ∀ s ∈ repPre r ++ repVts r.1 r.2.1 r.2.2.2.2.1, saySh.ok s ∧ saySh.cn s ≤ 1100 := by
  intro s hs
  have HV : VotsOk r.2.2.2.2.1 := H.2.2.2.2.1
  have hid : InR 0 3 r.1 := H.1
  have hvw : InR 0 7 r.2.1 := H.2.1
  have hz : Sh.int.ok (0 : Int) := by show (-9223372036854775808 : Int) ≤ 0 ∧ (0 : Int) ≤ 9223372036854775807; omega
  rcases List.mem_append.1 hs with hs | hs
  · unfold repPre at hs
    rcases List.mem_append.1 hs with hs | hs
    · split at hs
      · rw [List.mem_singleton.1 hs]
        refine ⟨ok.2.2.2.2.2.2.1, ?_⟩
        have := NewOk.cv H.2.2.2.2.2.2.1
        show 1 + (1 + (1 + (1 + (1 + (Sh.sl changeSh).cn r.2.2.2.2.2.2.1.2.2.2.2.2)))) ≤ 1100
        omega
      · cases hs
    · split at hs
      · rw [List.mem_singleton.1 hs]
        have hv : (Int.toNat r.2.1) ≤ 1000 := by have := hvw.2; omega
        have h1 := chgM_cn HV hv
        have hl := chgM_len r.2.2.2.2.1 (Int.toNat r.2.1) 6
        refine ⟨⟨?_, ok.1, ok.2.1, hz, Nat.zero_le _, Nat.le_of_ble_eq_true rfl, fun c hc => ?_⟩, ?_⟩
        · show (-9223372036854775808 : Int) ≤ 4 ∧ (4 : Int) ≤ 9223372036854775807; omega
        · rw [List.mem_singleton.1 hc]
          exact ⟨ok.1, ok.2.1, by show (chgM r.2.2.2.2.1 (Int.toNat r.2.1) 6).length ≤ _; omega, fun p hp => (chgM_mem HV hv (by omega) p hp).1⟩
        · have h2 : (Sh.sl changeSh).cn [(r.1, r.2.1, chgM r.2.2.2.2.1 (Int.toNat r.2.1) 6)] ≤ 1 * 44 := Sh.cn_sl (e := changeSh) (Nat.le_refl _) (fun c hc => by
            rw [List.mem_singleton.1 hc]
            show 1 + (1 + (Sh.sl proofSh).cn (chgM r.2.2.2.2.1 (Int.toNat r.2.1) 6)) ≤ 44
            omega)
          show 1 + (1 + (1 + (1 + (1 + (Sh.sl changeSh).cn [(r.1, r.2.1, chgM r.2.2.2.2.1 (Int.toNat r.2.1) 6)])))) ≤ 1100
          omega
      · cases hs
  · unfold repVts at hs
    obtain ⟨⟨k, v, q, op, f⟩, hx, e⟩ := List.mem_filterMap.1 hs
    dsimp only at e
    have hq := vots_mem HV hx
    split at e
    · cases e
      refine ⟨⟨?_, ok.1, inrOk hq.2.1 (by omega) (by omega), inrOk hq.2.2.1 (by omega) (by omega), by show op.size ≤ _; have := hq.2.2.2.1; omega, Nat.zero_le _, fun c hc => by cases hc⟩, ?_⟩
      · have hk := hq.1
        split
        · show (-9223372036854775808 : Int) ≤ 1 ∧ (1 : Int) ≤ 9223372036854775807; omega
        · show (-9223372036854775808 : Int) ≤ k ∧ k ≤ 9223372036854775807; omega
      · show 1 + (1 + (1 + (1 + (1 + (Sh.sl changeSh).cn [])))) ≤ 1100
        have : (Sh.sl changeSh).cn [] = 0 := rfl
        omega
    · cases e
theorem rptM_len (r : replicaSh.T) : (rptM r).length ≤ 402 := by
  unfold rptM
  split
  · rename_i H
    have HV : VotsOk r.2.2.2.2.1 := H.2.2.2.2.1
    have h1 := repPre_len r
    have h2 := repVts_len r.1 r.2.1 r.2.2.2.2.1
    have h3 : List.length (α := voteSh.T) r.2.2.2.2.1 ≤ 400 := HV.1
    rw [List.length_append]
    omega
  · exact Nat.zero_le _
theorem rptM_ok (r : replicaSh.T) (ok : replicaSh.ok r) (_ : replicaSh.small r) : (Sh.sl saySh).ok (rptM r) := by
  have hl := rptM_len r
  refine ⟨by show (rptM r).length ≤ _; omega, fun s hs => ?_⟩
  unfold rptM at hs
  split at hs
  · rename_i H; exact (rpt_mem r ok H s hs).1
  · cases hs
theorem rptM_cn (r : replicaSh.T) (ok : replicaSh.ok r) (_ : replicaSh.small r) (_ : (replicaSh.cv r : Int) ≤ 200000000) : ((Sh.sl saySh).cv (rptM r) : Int) ≤ 900000000000 := by
  have : (Sh.sl saySh).cn (rptM r) ≤ 402 * 1100 := Sh.cn_sl (e := saySh) (rptM_len r) (fun s hs => by
    unfold rptM at hs
    split at hs
    · rename_i H; exact (rpt_mem r ok H s hs).2
    · cases hs)
  show (((Sh.sl saySh).cn (rptM r) : Nat) : Int) ≤ _
  omega
end Go.Dat
namespace Go.Proofs.YtpgfjadjhliohaaGreat
open Go.Abs Go.Dat
set_option maxRecDepth 100000
set_option maxHeartbeats 8000000
theorem xsRepeat (h : AHeap) (hw : h.wf) (r : replicaSh.T) (v1 v2 v3 v4 : Value) (h1 : Sl h voteSh r.2.2.2.2.1 v1) (h2 : Sl h changeSh r.2.2.2.2.2.1 v2) (h3 : Sl h changeSh r.2.2.2.2.2.2.1.2.2.2.2.2 v3) (h4 : Sl h Sh.str r.2.2.2.2.2.2.2 v4) (ok : replicaSh.ok r) (sm : replicaSh.small r) :
    ∃ v h', ACall Tryz.prog 8 [repV r v1 v2 v3 v4] h v h' ∧ h.Le h' ∧ h'.wf ∧ Sl h' saySh (rptM r) v := by
  obtain ⟨(id : Int), (view : Int), (chg : Bool), (top : Int), (vs : List voteSh.T), (cg : List changeSh.T), ⟨(k : Int), (f : Int), (v : Int), (q : Int), (op : ByteArray), (cs : List changeSh.T)⟩, (log : List Sh.str.T)⟩ := r
  obtain ⟨a1, c1, rfl⟩ := h1.isSlice
  obtain ⟨a2, c2, rfl⟩ := h2.isSlice
  obtain ⟨a3, c3, rfl⟩ := h3.isSlice
  obtain ⟨a4, c4, rfl⟩ := h4.isSlice
  obtain ⟨_, _, A, o, rfl, rfl, B, hx⟩ := specRepeat h hw id view top k f v q chg vs cg op cs log a1 c1 a2 c2 a3 c3 a4 c4 h1 h2 h3 h4 ok sm
  exact ⟨_, _, A, B.le, B.wf, by rw [← hx]; exact B.sn.so.sl⟩
theorem xiRepeat (h : AHeap) (hw : h.wf) (r : replicaSh.T) (v1 v2 v3 v4 : Value) (h1 : Sl h voteSh r.2.2.2.2.1 v1) (h2 : Sl h changeSh r.2.2.2.2.2.1 v2) (h3 : Sl h changeSh r.2.2.2.2.2.2.1.2.2.2.2.2 v3) (h4 : Sl h Sh.str r.2.2.2.2.2.2.2 v4) (ok : replicaSh.ok r) (sm : replicaSh.small r) :
    ∃ v h', ACall Tryz.prog 10 [repV r v1 v2 v3 v4] h v h' ∧ h.Le h' ∧ h'.wf ∧ ∃ J, So h' saySh (rptM r) v J ∧ Fresh h.n h'.n J := by
  obtain ⟨(id : Int), (view : Int), (chg : Bool), (top : Int), (vs : List voteSh.T), (cg : List changeSh.T), ⟨(k : Int), (f : Int), (v : Int), (q : Int), (op : ByteArray), (cs : List changeSh.T)⟩, (log : List Sh.str.T)⟩ := r
  obtain ⟨a1, c1, rfl⟩ := h1.isSlice
  obtain ⟨a2, c2, rfl⟩ := h2.isSlice
  obtain ⟨a3, c3, rfl⟩ := h3.isSlice
  obtain ⟨a4, c4, rfl⟩ := h4.isSlice
  obtain ⟨_, g, A1, le1, w1, rfl⟩ := isReplicaRight_spec h hw id view top k f v q chg vs cg op cs log a1 c1 a2 c2 a3 c3 a4 c4 h1 h2 h3 h4 ok
  refine acall_q fun Q HQ => ?_
  refine acall_vc (fun _ => false) (fun _ => []) (fun _ => .none) mixed Tryz.func10 rfl rfl rfl (Nat.le_of_ble_eq_true rfl) (by refine vc_mp (by kernel_rfl : (True ∧ (True ∧ (True ∧ True) ∧ True) ∧ True ∧ True) = _) ?_; simp only [and_self]) ?_
  refine vc_mp (by kernel_rfl : (∃ (x : Bool), ∃ (h' : AHeap), ACall Tryz.prog (39 : Nat) [Value.agg (Array.mk [Value.int IntKind.i64 id, Value.int IntKind.i64 view, Value.bool chg, Value.int IntKind.i64 top, Value.slice a1 (List.length vs) c1, Value.slice a2 (List.length cg) c2, Value.int IntKind.i64 k, Value.int IntKind.i64 f, Value.int IntKind.i64 v, Value.int IntKind.i64 q, Value.string op, Value.slice a3 (List.length cs) c3, Value.slice a4 (List.length log) c4])] h (Value.bool x) h' ∧ bs (!x) (Q (Value.slice none (0 : Nat) (0 : Nat)) h') (∃ (a : Option Addr), ∃ (n : Nat), ∃ (c : Nat), ∃ (h'_1 : AHeap), ACall Tryz.prog (40 : Nat) [Value.agg (Array.mk [Value.int IntKind.i64 id, Value.int IntKind.i64 view, Value.bool chg, Value.int IntKind.i64 top, Value.slice a1 (List.length vs) c1, Value.slice a2 (List.length cg) c2, Value.int IntKind.i64 k, Value.int IntKind.i64 f, Value.int IntKind.i64 v, Value.int IntKind.i64 q, Value.string op, Value.slice a3 (List.length cs) c3, Value.slice a4 (List.length log) c4])] h' (Value.slice a n c) h'_1 ∧ Q (Value.slice a n c) h'_1)) = _) ?_
  refine ⟨_, _, A1, bs_nb (fun e => HQ _ _ ⟨le1, w1, [], ?_, .nil⟩) (fun e => ?_)⟩
  · unfold rptM; rw [if_neg (of_trn e)]; exact Sn.nil.so
  · have HR := of_tr e
    obtain ⟨_, _, A, o, rfl, rfl, B, hx⟩ := repeated_spec g w1 id view top k f v q chg vs cg op cs log a1 c1 a2 c2 a3 c3 a4 c4 (h1.mono le1) (h2.mono le1) (h3.mono le1) (h4.mono le1) ok sm HR
    exact ⟨_, _, _, _, A, HQ _ _ ⟨le1.trans B.le, B.wf, o.ids, by rw [← hx]; exact B.sn.so, B.fr.widen le1.n (Nat.le_refl _)⟩⟩
end Go.Proofs.YtpgfjadjhliohaaGreat
end
section
namespace Go.Dat
open Go.Abs
end Go.Dat
namespace Go.Proofs.YtpgfjadjhliohaaGreat
open Go.Abs Go.Dat
set_option maxRecDepth 100000
set_option maxHeartbeats 8000000
end Go.Proofs.YtpgfjadjhliohaaGreat
end
section
namespace Go.Dat
open Go.Abs
end Go.Dat
namespace Go.Proofs.YtpgfjadjhliohaaGreat
open Go.Abs Go.Dat
set_option maxRecDepth 100000
set_option maxHeartbeats 8000000
end Go.Proofs.YtpgfjadjhliohaaGreat
end
section
namespace Go.Dat
open Go.Abs
end Go.Dat
namespace Go.Proofs.YtpgfjadjhliohaaGreat
open Go.Abs Go.Dat
set_option maxRecDepth 100000
set_option maxHeartbeats 8000000
end Go.Proofs.YtpgfjadjhliohaaGreat
end
section
namespace Go.Dat
open Go.Abs
end Go.Dat
namespace Go.Proofs.YtpgfjadjhliohaaGreat
open Go.Abs Go.Dat
set_option maxRecDepth 100000
set_option maxHeartbeats 8000000
end Go.Proofs.YtpgfjadjhliohaaGreat
end
section
namespace Go.Proofs.YtpgfjadjhliohaaGreat
open Go.Abs Go.Dat
set_option maxRecDepth 100000
set_option maxHeartbeats 8000000
theorem lawRepeat (h : AHeap) (hw : h.wf) (a0 : replicaSh.T) (v0_1 v0_2 v0_3 v0_4 : Value) (s0_1 : Sl h voteSh a0.2.2.2.2.1 v0_1) (s0_2 : Sl h changeSh a0.2.2.2.2.2.1 v0_2) (s0_3 : Sl h changeSh a0.2.2.2.2.2.2.1.2.2.2.2.2 v0_3) (s0_4 : Sl h Sh.str a0.2.2.2.2.2.2.2 v0_4) (ok0 : replicaSh.ok a0) :
    ∃ v h', ACall Tryz.prog 3 [.agg #[.int .i64 a0.1, .int .i64 a0.2.1, .bool a0.2.2.1, .int .i64 a0.2.2.2.1, v0_1, v0_2, .int .i64 a0.2.2.2.2.2.2.1.1, .int .i64 a0.2.2.2.2.2.2.1.2.1, .int .i64 a0.2.2.2.2.2.2.1.2.2.1, .int .i64 a0.2.2.2.2.2.2.1.2.2.2.1, .string a0.2.2.2.2.2.2.1.2.2.2.2.1, v0_3, v0_4]] h v h' ∧ v = .bool true := by
  obtain ⟨T, hT⟩ : ∃ T, T = (rptM a0) := ⟨_, rfl⟩
  refine acall_q fun Q HQ => ?_
  refine acall_vc (fun _ => false) (fun r => match r with | 10 => [(0, 1, []), (1, 1, []), (2, 3, [0]), (3, 3, []), (4, 0, [])] | _ => []) (fun _ => .none) mixed Tryz.func3 rfl rfl rfl (Nat.le_of_ble_eq_true rfl) (by refine vc_mp (by kernel_rfl : (True ∧ True ∧ True ∧ (True ∧ (True ∧ True) ∧ True) ∧ True ∧ True ∧ True ∧ (True ∧ (True ∧ True) ∧ True) ∧ (True ∧ (True ∧ True) ∧ True) ∧ True ∧ True ∧ (True ∧ (True ∧ True) ∧ True) ∧ True ∧ True ∧ True ∧ True ∧ (True ∧ (True ∧ True) ∧ True) ∧ (True ∧ (True ∧ True) ∧ True) ∧ True ∧ (True ∧ (True ∧ True) ∧ True) ∧ True ∧ True ∧ (True ∧ (True ∧ True) ∧ True) ∧ (True ∧ (True ∧ True) ∧ True) ∧ True ∧ True) = _) ?_; simp only [and_self]) ?_
  refine vc_mp (by kernel_rfl : (∃ (x : Int), ∃ (h' : AHeap), ACall Tryz.prog (7 : Nat) [Value.agg (Array.mk [Value.int IntKind.i64 (Prod.fst a0), Value.int IntKind.i64 (Prod.fst (Prod.snd a0)), Value.bool (Prod.fst (Prod.snd (Prod.snd a0))), Value.int IntKind.i64 (Prod.fst (Prod.snd (Prod.snd (Prod.snd a0)))), v0_1, v0_2, Value.int IntKind.i64 (Prod.fst (Prod.fst (Prod.snd (Prod.snd (Prod.snd (Prod.snd (Prod.snd (Prod.snd a0)))))))), Value.int IntKind.i64 (Prod.fst (Prod.snd (Prod.fst (Prod.snd (Prod.snd (Prod.snd (Prod.snd (Prod.snd (Prod.snd a0))))))))), Value.int IntKind.i64 (Prod.fst (Prod.snd (Prod.snd (Prod.fst (Prod.snd (Prod.snd (Prod.snd (Prod.snd (Prod.snd (Prod.snd a0)))))))))), Value.int IntKind.i64 (Prod.fst (Prod.snd (Prod.snd (Prod.snd (Prod.fst (Prod.snd (Prod.snd (Prod.snd (Prod.snd (Prod.snd (Prod.snd a0))))))))))), Value.string (Prod.fst (Prod.snd (Prod.snd (Prod.snd (Prod.snd (Prod.fst (Prod.snd (Prod.snd (Prod.snd (Prod.snd (Prod.snd (Prod.snd a0)))))))))))), v0_3, v0_4]), Value.int IntKind.i64 (1048576 : Int)] h (Value.int IntKind.i64 x) h' ∧ bs (decide (x < (0 : Int))) (Q (Value.bool true) h') (∃ (x : Int), ∃ (x_1 : Int), ∃ (x_2 : Bool), ∃ (x_3 : Int), ∃ (a : Option Addr), ∃ (n : Nat), ∃ (c : Nat), ∃ (a_1 : Option Addr), ∃ (n_1 : Nat), ∃ (c_1 : Nat), ∃ (x_4 : Int), ∃ (x_5 : Int), ∃ (x_6 : Int), ∃ (x_7 : Int), ∃ (x_8 : ByteArray), ∃ (a_2 : Option Addr), ∃ (n_2 : Nat), ∃ (c_2 : Nat), ∃ (a_3 : Option Addr), ∃ (n_3 : Nat), ∃ (c_3 : Nat), ∃ (h'_1 : AHeap), ACall Tryz.prog (9 : Nat) [Value.agg (Array.mk [Value.int IntKind.i64 (Prod.fst a0), Value.int IntKind.i64 (Prod.fst (Prod.snd a0)), Value.bool (Prod.fst (Prod.snd (Prod.snd a0))), Value.int IntKind.i64 (Prod.fst (Prod.snd (Prod.snd (Prod.snd a0)))), v0_1, v0_2, Value.int IntKind.i64 (Prod.fst (Prod.fst (Prod.snd (Prod.snd (Prod.snd (Prod.snd (Prod.snd (Prod.snd a0)))))))), Value.int IntKind.i64 (Prod.fst (Prod.snd (Prod.fst (Prod.snd (Prod.snd (Prod.snd (Prod.snd (Prod.snd (Prod.snd a0))))))))), Value.int IntKind.i64 (Prod.fst (Prod.snd (Prod.snd (Prod.fst (Prod.snd (Prod.snd (Prod.snd (Prod.snd (Prod.snd (Prod.snd a0)))))))))), Value.int IntKind.i64 (Prod.fst (Prod.snd (Prod.snd (Prod.snd (Prod.fst (Prod.snd (Prod.snd (Prod.snd (Prod.snd (Prod.snd (Prod.snd a0))))))))))), Value.string (Prod.fst (Prod.snd (Prod.snd (Prod.snd (Prod.snd (Prod.fst (Prod.snd (Prod.snd (Prod.snd (Prod.snd (Prod.snd (Prod.snd a0)))))))))))), v0_3, v0_4])] h' (Value.agg (Array.mk [Value.int IntKind.i64 x, Value.int IntKind.i64 x_1, Value.bool x_2, Value.int IntKind.i64 x_3, Value.slice a n c, Value.slice a_1 n_1 c_1, Value.int IntKind.i64 x_4, Value.int IntKind.i64 x_5, Value.int IntKind.i64 x_6, Value.int IntKind.i64 x_7, Value.string x_8, Value.slice a_2 n_2 c_2, Value.slice a_3 n_3 c_3])) h'_1 ∧ ∃ (a_4 : Option Addr), ∃ (n_4 : Nat), ∃ (c_4 : Nat), ∃ (h' : AHeap), ACall Tryz.prog (8 : Nat) [Value.agg (Array.mk [Value.int IntKind.i64 x, Value.int IntKind.i64 x_1, Value.bool x_2, Value.int IntKind.i64 x_3, Value.slice a n c, Value.slice a_1 n_1 c_1, Value.int IntKind.i64 x_4, Value.int IntKind.i64 x_5, Value.int IntKind.i64 x_6, Value.int IntKind.i64 x_7, Value.string x_8, Value.slice a_2 n_2 c_2, Value.slice a_3 n_3 c_3])] h'_1 (Value.slice a_4 n_4 c_4) h' ∧ ∃ (x : Int), ∃ (x_9 : Int), ∃ (x_10 : Bool), ∃ (x_11 : Int), ∃ (a : Option Addr), ∃ (n : Nat), ∃ (c : Nat), ∃ (a_5 : Option Addr), ∃ (n_5 : Nat), ∃ (c_5 : Nat), ∃ (x_12 : Int), ∃ (x_13 : Int), ∃ (x_14 : Int), ∃ (x_15 : Int), ∃ (x_16 : ByteArray), ∃ (a_6 : Option Addr), ∃ (n_6 : Nat), ∃ (c_6 : Nat), ∃ (a_7 : Option Addr), ∃ (n_7 : Nat), ∃ (c_7 : Nat), ∃ (h'_2 : AHeap), ACall Tryz.prog (9 : Nat) [Value.agg (Array.mk [Value.int IntKind.i64 (Prod.fst a0), Value.int IntKind.i64 (Prod.fst (Prod.snd a0)), Value.bool (Prod.fst (Prod.snd (Prod.snd a0))), Value.int IntKind.i64 (Prod.fst (Prod.snd (Prod.snd (Prod.snd a0)))), v0_1, v0_2, Value.int IntKind.i64 (Prod.fst (Prod.fst (Prod.snd (Prod.snd (Prod.snd (Prod.snd (Prod.snd (Prod.snd a0)))))))), Value.int IntKind.i64 (Prod.fst (Prod.snd (Prod.fst (Prod.snd (Prod.snd (Prod.snd (Prod.snd (Prod.snd (Prod.snd a0))))))))), Value.int IntKind.i64 (Prod.fst (Prod.snd (Prod.snd (Prod.fst (Prod.snd (Prod.snd (Prod.snd (Prod.snd (Prod.snd (Prod.snd a0)))))))))), Value.int IntKind.i64 (Prod.fst (Prod.snd (Prod.snd (Prod.snd (Prod.fst (Prod.snd (Prod.snd (Prod.snd (Prod.snd (Prod.snd (Prod.snd a0))))))))))), Value.string (Prod.fst (Prod.snd (Prod.snd (Prod.snd (Prod.snd (Prod.fst (Prod.snd (Prod.snd (Prod.snd (Prod.snd (Prod.snd (Prod.snd a0)))))))))))), v0_3, v0_4])] h' (Value.agg (Array.mk [Value.int IntKind.i64 x, Value.int IntKind.i64 x_9, Value.bool x_10, Value.int IntKind.i64 x_11, Value.slice a n c, Value.slice a_5 n_5 c_5, Value.int IntKind.i64 x_12, Value.int IntKind.i64 x_13, Value.int IntKind.i64 x_14, Value.int IntKind.i64 x_15, Value.string x_16, Value.slice a_6 n_6 c_6, Value.slice a_7 n_7 c_7])) h'_2 ∧ ∃ (a_8 : Option Addr), ∃ (n_8 : Nat), ∃ (c_8 : Nat), ∃ (h' : AHeap), ACall Tryz.prog (10 : Nat) [Value.agg (Array.mk [Value.int IntKind.i64 x, Value.int IntKind.i64 x_9, Value.bool x_10, Value.int IntKind.i64 x_11, Value.slice a n c, Value.slice a_5 n_5 c_5, Value.int IntKind.i64 x_12, Value.int IntKind.i64 x_13, Value.int IntKind.i64 x_14, Value.int IntKind.i64 x_15, Value.string x_16, Value.slice a_6 n_6 c_6, Value.slice a_7 n_7 c_7])] h'_2 (Value.slice a_8 n_8 c_8) h' ∧ ∃ (x_17 : Bool), ∃ (h'_3 : AHeap), ACall Tryz.prog (11 : Nat) [Value.slice a_8 n_8 c_8, Value.slice a_4 n_4 c_4] h' (Value.bool x_17) h'_3 ∧ bs (!x_17) (Q (Value.bool false) h'_3) (∃ (x_18 : Int), ∃ (x_19 : Int), ∃ (x_20 : Bool), ∃ (x_21 : Int), ∃ (a_9 : Option Addr), ∃ (n_9 : Nat), ∃ (c_9 : Nat), ∃ (a_10 : Option Addr), ∃ (n_10 : Nat), ∃ (c_10 : Nat), ∃ (x_22 : Int), ∃ (x_23 : Int), ∃ (x_24 : Int), ∃ (x_25 : Int), ∃ (x_26 : ByteArray), ∃ (a_11 : Option Addr), ∃ (n_11 : Nat), ∃ (c_11 : Nat), ∃ (a_12 : Option Addr), ∃ (n_12 : Nat), ∃ (c_12 : Nat), ∃ (h' : AHeap), ACall Tryz.prog (9 : Nat) [Value.agg (Array.mk [Value.int IntKind.i64 (Prod.fst a0), Value.int IntKind.i64 (Prod.fst (Prod.snd a0)), Value.bool (Prod.fst (Prod.snd (Prod.snd a0))), Value.int IntKind.i64 (Prod.fst (Prod.snd (Prod.snd (Prod.snd a0)))), v0_1, v0_2, Value.int IntKind.i64 (Prod.fst (Prod.fst (Prod.snd (Prod.snd (Prod.snd (Prod.snd (Prod.snd (Prod.snd a0)))))))), Value.int IntKind.i64 (Prod.fst (Prod.snd (Prod.fst (Prod.snd (Prod.snd (Prod.snd (Prod.snd (Prod.snd (Prod.snd a0))))))))), Value.int IntKind.i64 (Prod.fst (Prod.snd (Prod.snd (Prod.fst (Prod.snd (Prod.snd (Prod.snd (Prod.snd (Prod.snd (Prod.snd a0)))))))))), Value.int IntKind.i64 (Prod.fst (Prod.snd (Prod.snd (Prod.snd (Prod.fst (Prod.snd (Prod.snd (Prod.snd (Prod.snd (Prod.snd (Prod.snd a0))))))))))), Value.string (Prod.fst (Prod.snd (Prod.snd (Prod.snd (Prod.snd (Prod.fst (Prod.snd (Prod.snd (Prod.snd (Prod.snd (Prod.snd (Prod.snd a0)))))))))))), v0_3, v0_4])] h'_3 (Value.agg (Array.mk [Value.int IntKind.i64 x_18, Value.int IntKind.i64 x_19, Value.bool x_20, Value.int IntKind.i64 x_21, Value.slice a_9 n_9 c_9, Value.slice a_10 n_10 c_10, Value.int IntKind.i64 x_22, Value.int IntKind.i64 x_23, Value.int IntKind.i64 x_24, Value.int IntKind.i64 x_25, Value.string x_26, Value.slice a_11 n_11 c_11, Value.slice a_12 n_12 c_12])) h' ∧ Value.agg (Array.mk [Value.int IntKind.i64 x, Value.int IntKind.i64 x_9, Value.bool x_10, Value.int IntKind.i64 x_11, Value.slice a n c, Value.slice a_5 n_5 c_5, Value.int IntKind.i64 x_12, Value.int IntKind.i64 x_13, Value.int IntKind.i64 x_14, Value.int IntKind.i64 x_15, Value.string x_16, Value.slice a_6 n_6 c_6, Value.slice a_7 n_7 c_7]) = Value.agg (Array.mk [Value.int IntKind.i64 x, Value.int IntKind.i64 x_9, Value.bool x_10, Value.int IntKind.i64 x_11, Value.slice a n c, Value.slice a_5 n_5 c_5, Value.int IntKind.i64 x_12, Value.int IntKind.i64 x_13, Value.int IntKind.i64 x_14, Value.int IntKind.i64 x_15, Value.string x_16, Value.slice a_6 n_6 c_6, Value.slice a_7 n_7 c_7]) ∧ ∃ (x_27 : Bool), ∃ (h'_4 : AHeap), ACall Tryz.prog (12 : Nat) [Value.agg (Array.mk [Value.int IntKind.i64 x, Value.int IntKind.i64 x_9, Value.bool x_10, Value.int IntKind.i64 x_11, Value.slice a n c, Value.slice a_5 n_5 c_5, Value.int IntKind.i64 x_12, Value.int IntKind.i64 x_13, Value.int IntKind.i64 x_14, Value.int IntKind.i64 x_15, Value.string x_16, Value.slice a_6 n_6 c_6, Value.slice a_7 n_7 c_7]), Value.agg (Array.mk [Value.int IntKind.i64 x_18, Value.int IntKind.i64 x_19, Value.bool x_20, Value.int IntKind.i64 x_21, Value.slice a_9 n_9 c_9, Value.slice a_10 n_10 c_10, Value.int IntKind.i64 x_22, Value.int IntKind.i64 x_23, Value.int IntKind.i64 x_24, Value.int IntKind.i64 x_25, Value.string x_26, Value.slice a_11 n_11 c_11, Value.slice a_12 n_12 c_12])] h' (Value.bool x_27) h'_4 ∧ bs (!x_27) (Q (Value.bool false) h'_4) (∃ (x_28 : Int), ∃ (h' : AHeap), ACall Tryz.prog (13 : Nat) [Value.agg (Array.mk [Value.int IntKind.i64 x, Value.int IntKind.i64 x_9, Value.bool x_10, Value.int IntKind.i64 x_11, Value.slice a n c, Value.slice a_5 n_5 c_5, Value.int IntKind.i64 x_12, Value.int IntKind.i64 x_13, Value.int IntKind.i64 x_14, Value.int IntKind.i64 x_15, Value.string x_16, Value.slice a_6 n_6 c_6, Value.slice a_7 n_7 c_7]), Value.int IntKind.i64 (1 : Int)] h'_4 (Value.int IntKind.i64 x_28) h' ∧ bs (decide (x_28 < (0 : Int))) (Q (Value.bool false) h') (∃ (x : Bool), ∃ (h'_5 : AHeap), ACall Tryz.prog (11 : Nat) [Value.slice a_8 n_8 c_8, Value.slice a_4 n_4 c_4] h' (Value.bool x) h'_5 ∧ bs (!x) (Q (Value.bool false) h'_5) (∃ (x : Int), ∃ (h' : AHeap), ACall Tryz.prog (14 : Nat) [Value.slice a_8 n_8 c_8, Value.int IntKind.i64 (1 : Int)] h'_5 (Value.int IntKind.i64 x) h' ∧ ∃ (x_29 : Int), ∃ (h'_6 : AHeap), ACall Tryz.prog (15 : Nat) [Value.slice a_8 n_8 c_8, Value.int IntKind.i64 (1 : Int)] h' (Value.int IntKind.i64 x_29) h'_6 ∧ bs (decide (x_29 < (0 : Int))) (Q (Value.bool false) h'_6) (bs (!decide (x_29 = x)) (Q (Value.bool false) h'_6) (∃ (x_30 : Int), ∃ (x_31 : Int), ∃ (x_32 : Bool), ∃ (x_33 : Int), ∃ (a : Option Addr), ∃ (n : Nat), ∃ (c : Nat), ∃ (a_13 : Option Addr), ∃ (n_13 : Nat), ∃ (c_13 : Nat), ∃ (x_34 : Int), ∃ (x_35 : Int), ∃ (x_36 : Int), ∃ (x_37 : Int), ∃ (x_38 : ByteArray), ∃ (a_14 : Option Addr), ∃ (n_14 : Nat), ∃ (c_14 : Nat), ∃ (a_15 : Option Addr), ∃ (n_15 : Nat), ∃ (c_15 : Nat), ∃ (h' : AHeap), ACall Tryz.prog (9 : Nat) [Value.agg (Array.mk [Value.int IntKind.i64 (Prod.fst a0), Value.int IntKind.i64 (Prod.fst (Prod.snd a0)), Value.bool (Prod.fst (Prod.snd (Prod.snd a0))), Value.int IntKind.i64 (Prod.fst (Prod.snd (Prod.snd (Prod.snd a0)))), v0_1, v0_2, Value.int IntKind.i64 (Prod.fst (Prod.fst (Prod.snd (Prod.snd (Prod.snd (Prod.snd (Prod.snd (Prod.snd a0)))))))), Value.int IntKind.i64 (Prod.fst (Prod.snd (Prod.fst (Prod.snd (Prod.snd (Prod.snd (Prod.snd (Prod.snd (Prod.snd a0))))))))), Value.int IntKind.i64 (Prod.fst (Prod.snd (Prod.snd (Prod.fst (Prod.snd (Prod.snd (Prod.snd (Prod.snd (Prod.snd (Prod.snd a0)))))))))), Value.int IntKind.i64 (Prod.fst (Prod.snd (Prod.snd (Prod.snd (Prod.fst (Prod.snd (Prod.snd (Prod.snd (Prod.snd (Prod.snd (Prod.snd a0))))))))))), Value.string (Prod.fst (Prod.snd (Prod.snd (Prod.snd (Prod.snd (Prod.fst (Prod.snd (Prod.snd (Prod.snd (Prod.snd (Prod.snd (Prod.snd a0)))))))))))), v0_3, v0_4])] h'_6 (Value.agg (Array.mk [Value.int IntKind.i64 x_30, Value.int IntKind.i64 x_31, Value.bool x_32, Value.int IntKind.i64 x_33, Value.slice a n c, Value.slice a_13 n_13 c_13, Value.int IntKind.i64 x_34, Value.int IntKind.i64 x_35, Value.int IntKind.i64 x_36, Value.int IntKind.i64 x_37, Value.string x_38, Value.slice a_14 n_14 c_14, Value.slice a_15 n_15 c_15])) h' ∧ ∃ (a_16 : Option Addr), ∃ (n_16 : Nat), ∃ (c_16 : Nat), ∃ (h'_7 : AHeap), ACall Tryz.prog (10 : Nat) [Value.agg (Array.mk [Value.int IntKind.i64 x_30, Value.int IntKind.i64 x_31, Value.bool x_32, Value.int IntKind.i64 x_33, Value.slice a n c, Value.slice a_13 n_13 c_13, Value.int IntKind.i64 x_34, Value.int IntKind.i64 x_35, Value.int IntKind.i64 x_36, Value.int IntKind.i64 x_37, Value.string x_38, Value.slice a_14 n_14 c_14, Value.slice a_15 n_15 c_15])] h' (Value.slice a_16 n_16 c_16) h'_7 ∧ ∃ (x_39 : Bool), ∃ (h' : AHeap), ACall Tryz.prog (11 : Nat) [Value.slice a_16 n_16 c_16, Value.slice a_4 n_4 c_4] h'_7 (Value.bool x_39) h' ∧ bs (!x_39) (Q (Value.bool false) h') (∃ (x_40 : Int), ∃ (h'_8 : AHeap), ACall Tryz.prog (15 : Nat) [Value.slice a_8 n_8 c_8, Value.int IntKind.i64 (1 : Int)] h' (Value.int IntKind.i64 x_40) h'_8 ∧ bs (decide (x_40 < (0 : Int))) (Q (Value.bool false) h'_8) (bs (!decide (x_40 = x)) (Q (Value.bool false) h'_8) (Q (Value.bool true) h'_8))))))))))) = _) ?_
  refine ⟨_, _, szReplica_spec h a0 1048576 _ _ _ _ s0_1 s0_2 s0_3 s0_4 (by omega) ok0, bs_d (fun _ => HQ _ _ rfl) (fun q0 => ?_)⟩
  have z0 := replicaSh.sz_le a0 1048576 (by omega)
  have sm0 := replicaSh.sz_small a0 1048576 (by omega) (by omega) (by omega)
  have hcv0 : (replicaSh.cv a0 : Int) ≤ 200000000 := by have := Sh.cv_le replicaSh (by decide) a0 1048576 (by omega) (by omega); omega
  have okT : (Sh.sl saySh).ok T := by rw [hT]; exact rptM_ok a0 ok0 sm0
  have cnT : ((Sh.sl saySh).cv T : Int) ≤ 900000000000 := by rw [hT]; exact rptM_cn a0 ok0 sm0 hcv0
  obtain ⟨_, g1, C1, k1, w1, y1_1, y1_2, y1_3, y1_4, ids1, rfl, r1, f1⟩ := toReplica_spec h a0 _ _ _ _ s0_1 s0_2 s0_3 s0_4 hw sm0
  obtain ⟨z1_1, z1_2, z1_3, z1_4, d1_1, d1_2, d1_3, d1_4, ez, ei, p1_1, p1_2, p1_3, p1_4⟩ := ro_replica.1 r1
  cases ez
  subst ei
  try simp only [List.nil_append, List.append_nil] at f1
  obtain ⟨u1_1, e1_1, rfl⟩ := p1_1.sl.isSlice
  obtain ⟨u1_2, e1_2, rfl⟩ := p1_2.sl.isSlice
  obtain ⟨u1_3, e1_3, rfl⟩ := p1_3.sl.isSlice
  obtain ⟨u1_4, e1_4, rfl⟩ := p1_4.sl.isSlice
  have l0_1 := k1
  refine ⟨_, _, _, _, _, _, _, _, _, _, _, _, _, _, _, _, _, _, _, _, _, _, C1, ?_⟩
  obtain ⟨W1, g2, CW, k2, w2, RW1⟩ := xsRepeat g1 w1 a0 _ _ _ _ p1_1.sl p1_2.sl p1_3.sl p1_4.sl ok0 sm0
  rw [← hT] at RW1
  obtain ⟨oW1, cW1, rfl⟩ := RW1.isSlice
  have l0_2 := l0_1.trans k2
  refine ⟨_, _, _, _, CW, ?_⟩
  obtain ⟨_, g3, C2, k3, w3, y2_1, y2_2, y2_3, y2_4, ids2, rfl, r2, f2⟩ := toReplica_spec g2 a0 _ _ _ _ (s0_1.mono l0_2) (s0_2.mono l0_2) (s0_3.mono l0_2) (s0_4.mono l0_2) w2 sm0
  obtain ⟨z2_1, z2_2, z2_3, z2_4, d2_1, d2_2, d2_3, d2_4, ez, ei, p2_1, p2_2, p2_3, p2_4⟩ := ro_replica.1 r2
  cases ez
  subst ei
  try simp only [List.nil_append, List.append_nil] at f2
  obtain ⟨u2_1, e2_1, rfl⟩ := p2_1.sl.isSlice
  obtain ⟨u2_2, e2_2, rfl⟩ := p2_2.sl.isSlice
  obtain ⟨u2_3, e2_3, rfl⟩ := p2_3.sl.isSlice
  obtain ⟨u2_4, e2_4, rfl⟩ := p2_4.sl.isSlice
  have l0_3 := l0_2.trans k3
  have lW_3 := k3
  refine ⟨_, _, _, _, _, _, _, _, _, _, _, _, _, _, _, _, _, _, _, _, _, _, C2, ?_⟩
  obtain ⟨G1, g4, CG, k4, w4, JG1, RG1, fG⟩ := xiRepeat g3 w3 a0 _ _ _ _ p2_1.sl p2_2.sl p2_3.sl p2_4.sl ok0 sm0
  rw [← hT] at RG1
  obtain ⟨oG1, cG1, rfl⟩ := RG1.sl.isSlice
  have l0_4 := l0_3.trans k4
  have lW_4 := lW_3.trans k4
  have p2_1 := So.le k4 p2_1
  have p2_2 := So.le k4 p2_2
  have p2_3 := So.le k4 p2_3
  have p2_4 := So.le k4 p2_4
  refine ⟨_, _, _, _, CG, ?_⟩
  have E1 := eqSayS_spec g4 _ _ _ _ _ _ T T RG1.sl (RW1.mono lW_4) okT
  rw [eqb_self] at E1
  refine ⟨_, _, E1, bs_nb (fun e => by cases e) (fun _ => ?_)⟩
  obtain ⟨_, g5, C3, k5, w5, y3_1, y3_2, y3_3, y3_4, ids3, rfl, r3, f3⟩ := toReplica_spec g4 a0 _ _ _ _ (s0_1.mono l0_4) (s0_2.mono l0_4) (s0_3.mono l0_4) (s0_4.mono l0_4) w4 sm0
  obtain ⟨z3_1, z3_2, z3_3, z3_4, d3_1, d3_2, d3_3, d3_4, ez, ei, p3_1, p3_2, p3_3, p3_4⟩ := ro_replica.1 r3
  cases ez
  subst ei
  try simp only [List.nil_append, List.append_nil] at f3
  obtain ⟨u3_1, e3_1, rfl⟩ := p3_1.sl.isSlice
  obtain ⟨u3_2, e3_2, rfl⟩ := p3_2.sl.isSlice
  obtain ⟨u3_3, e3_3, rfl⟩ := p3_3.sl.isSlice
  obtain ⟨u3_4, e3_4, rfl⟩ := p3_4.sl.isSlice
  have l0_5 := l0_4.trans k5
  have lW_5 := lW_4.trans k5
  have p2_1 := So.le k5 p2_1
  have p2_2 := So.le k5 p2_2
  have p2_3 := So.le k5 p2_3
  have p2_4 := So.le k5 p2_4
  have RG1 := So.le k5 RG1
  have E2 := eqReplica_spec g5 a0 a0 _ _ _ _ p2_1.sl p2_2.sl p2_3.sl p2_4.sl _ _ _ _ p3_1.sl p3_2.sl p3_3.sl p3_4.sl ok0
  rw [eqb_self] at E2
  refine ⟨_, _, _, _, _, _, _, _, _, _, _, _, _, _, _, _, _, _, _, _, _, _, C3, rfl, _, _, E2, bs_nb (fun e => by cases e) (fun _ => ?_)⟩
  have mk0 := Sh.mkv_cv replicaSh a0 1
  obtain ⟨_, g6, M0, rfl, w6, O0, p2_1, p2_2, p2_3, p2_4⟩ := mkReplica g5 w5 a0 _ _ _ _ _ _ _ _ p2_1 p2_2 p2_3 p2_4 f2.nd 1 (by omega) (by omega)
  have l0_6 := leOut l0_5 hw O0 (fun l hl => by have h1 := (f2.bd l hl).1; have h2 := l0_2.n; omega)
  have lW_6 := leOut lW_5 w2 O0 (fun l hl => by have h1 := (f2.bd l hl).1; have h2 := (AHeap.Le.refl g2).n; omega)
  have RG1 := So.out RG1 O0 (fun l hl hm => by have h1 := f2.bd l hm; have h2 := fG.bd l (by simp [hl]); omega)
  refine ⟨_, _, M0, ?_⟩
  refine bs_d (fun e => by omega) (fun _ => ?_)
  have E3 := eqSayS_spec g6 _ _ _ _ _ _ T T RG1.sl (RW1.mono lW_6) okT
  rw [eqb_self] at E3
  refine ⟨_, _, E3, bs_nb (fun e => by cases e) (fun _ => ?_)⟩
  have mkG := mrkL_cn (Sh.mkd_cn saySh) T 1
  have mqG : ((List.map (Sh.cn saySh) T).sum : Int) ≤ 900000000000 := cnT
  obtain ⟨_, g7, MG, rfl, w7, OG, RG1⟩ := mkSayS g6 w6 T _ _ RG1 fG.nd 1 (by omega) (by omega)
  have l0_7 := leOut l0_6 hw OG (fun l hl => by have h1 := (fG.bd l hl).1; have h2 := l0_3.n; omega)
  have lW_7 := leOut lW_6 w2 OG (fun l hl => by have h1 := (fG.bd l hl).1; have h2 := lW_3.n; omega)
  refine ⟨_, _, MG, ?_⟩
  have RG1 := RG1.sl
  obtain ⟨_, g8, Q1, rfl, w8, k8⟩ := hdSayS g7 w7 T _ 1 RG1 (by omega) (by omega)
  have l0_8 := l0_7.trans k8
  have lW_8 := lW_7.trans k8
  have RG1 := RG1.mono k8
  refine ⟨_, _, Q1, bs_d (fun e => absurd e (by omega)) (fun _ => bs_dn (fun e => absurd rfl e) (fun _ => ?_))⟩
  obtain ⟨_, g9, C4, k9, w9, y4_1, y4_2, y4_3, y4_4, ids4, rfl, r4, f4⟩ := toReplica_spec g8 a0 _ _ _ _ (s0_1.mono l0_8) (s0_2.mono l0_8) (s0_3.mono l0_8) (s0_4.mono l0_8) w8 sm0
  obtain ⟨z4_1, z4_2, z4_3, z4_4, d4_1, d4_2, d4_3, d4_4, ez, ei, p4_1, p4_2, p4_3, p4_4⟩ := ro_replica.1 r4
  cases ez
  subst ei
  try simp only [List.nil_append, List.append_nil] at f4
  obtain ⟨u4_1, e4_1, rfl⟩ := p4_1.sl.isSlice
  obtain ⟨u4_2, e4_2, rfl⟩ := p4_2.sl.isSlice
  obtain ⟨u4_3, e4_3, rfl⟩ := p4_3.sl.isSlice
  obtain ⟨u4_4, e4_4, rfl⟩ := p4_4.sl.isSlice
  have l0_9 := l0_8.trans k9
  have lW_9 := lW_8.trans k9
  have RG1 := RG1.mono k9
  refine ⟨_, _, _, _, _, _, _, _, _, _, _, _, _, _, _, _, _, _, _, _, _, _, C4, ?_⟩
  obtain ⟨H1, g10, CH, k10, w10, JH1, RH1, fH⟩ := xiRepeat g9 w9 a0 _ _ _ _ p4_1.sl p4_2.sl p4_3.sl p4_4.sl ok0 sm0
  rw [← hT] at RH1
  obtain ⟨oH1, cH1, rfl⟩ := RH1.sl.isSlice
  have l0_10 := l0_9.trans k10
  have lW_10 := lW_9.trans k10
  have RG1 := RG1.mono k10
  refine ⟨_, _, _, _, CH, ?_⟩
  have E4 := eqSayS_spec g10 _ _ _ _ _ _ T T RH1.sl (RW1.mono lW_10) okT
  rw [eqb_self] at E4
  refine ⟨_, _, E4, bs_nb (fun e => by cases e) (fun _ => ?_)⟩
  obtain ⟨_, g11, Q2, rfl, w11, k11⟩ := hdSayS g10 w10 T _ 1 RG1 (by omega) (by omega)
  have l0_11 := l0_10.trans k11
  have lW_11 := lW_10.trans k11
  have RH1 := So.le k11 RH1
  have RG1 := RG1.mono k11
  refine ⟨_, _, Q2, bs_d (fun e => absurd e (by omega)) (fun _ => bs_dn (fun e => absurd rfl e) (fun _ => ?_))⟩
  exact HQ _ _ rfl
end Go.Proofs.YtpgfjadjhliohaaGreat
end
