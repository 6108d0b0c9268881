/- Contracts of functions that change a slice in place, or not: the cap is whatever; room behind a slice; results under another number. -/
import Derived.Test.YtanienlcebkijaaV11A28
namespace Go.Abs
def AHeap.pad (h : AHeap) (l e k : Nat) : AHeap := match h.get l with
  | some o => h.put l (some ⟨o.rows ++ List.replicate (k - o.rows.length) (List.replicate e (.chan none)), o.esz, o.rw⟩)
  | none => h
theorem turns_refl (w : World) (b : Nat) : Turns w w b := ⟨rfl, rfl, rfl, rfl, fun _ _ => rfl⟩
theorem Rel.pad {L : Lay} {F R : Nat → Prop} {w0 w : World} {h : AHeap} (r : Rel L F R w0 w h) {l k : Nat} {s : Site} {rows : List (List Value)} {e : Nat} (hl : h.get l = some ⟨rows, e, true⟩) (hs : L l = some s) (room : s.base + k * e ≤ s.bsz) :
    Rel L F R w0 w (h.pad l e k) := by
  unfold AHeap.pad
  rw [hl]
  dsimp only
  have or := r.obj l _ s hl hs
  have hes : s.esz = e := or.esz
  obtain ⟨bc, ty, fr, hh, hbs, hfr⟩ := or.own rfl
  refine r.rewrite hl hs rfl rfl (turns_refl w _) ⟨or.esz, or.rw, or.lt, fun i row hi => ?_, fun i row hi j v hj => ?_, fun _ => ⟨bc, ty, fr, hh, hbs, hfr⟩⟩
  · rcases Nat.lt_or_ge i rows.length with h1 | h1
    · rw [List.getElem?_append_left h1] at hi; exact or.len i row hi
    · rw [List.getElem?_append_right h1] at hi
      rw [List.eq_of_mem_replicate (List.mem_of_getElem? hi)]; simp
  · rcases Nat.lt_or_ge i rows.length with h1 | h1
    · rw [List.getElem?_append_left h1] at hi; exact or.cell i row hi j v hj
    · rw [List.getElem?_append_right h1] at hi
      have hik := (List.getElem?_eq_some_iff.1 hi).1
      rw [List.length_replicate] at hik
      have hrow := List.eq_of_mem_replicate (List.mem_of_getElem? hi)
      subst hrow
      have hje := (List.getElem?_eq_some_iff.1 hj).1
      rw [List.length_replicate] at hje
      have hv := List.eq_of_mem_replicate (List.mem_of_getElem? hj)
      subst hv
      have h2 : (i + 1) * e ≤ k * e := Nat.mul_le_mul_right _ (by omega)
      rw [Nat.succ_mul] at h2
      have h3 : s.base + i * e + j < bc.size := by omega
      refine ⟨bc[s.base + i * e + j], ?_, .junk _⟩
      unfold World.cell?
      rw [hh, hes]
      simp [h3]
theorem acall_room {P : Program} {f : FuncId} {l r e n c : Nat} {rest : List Value} {h h' : AHeap} {v : Value} {rows : List (List Value)} (hl : h.get l = some ⟨rows, e, true⟩)
    (H : ∀ C, n ≤ C → ACall P f (.slice (some ⟨l, r, some e⟩) n (C + 1) :: rest) (h.pad l e (r + C)) v h') :
    ACall P f (.slice (some ⟨l, r, some e⟩) n c :: rest) h v h' := by
  intro L F R w0 w ARGS rel ha
  obtain ⟨hs, hv⟩ := ha
  have h0 : 0 < ARGS.size := by rw [← hs]; simp
  have v0 := hv 0 _ _ rfl (Array.getElem?_eq_getElem h0)
  generalize hA : ARGS[0] = A0 at v0
  cases v0 with
  | slice hL he hn ha room hc =>
    rename_i C s A
    have or := rel.obj l _ s hl hL
    have rp := rel.pad (k := r + C) hl hL (room or.rw)
    have hn' : (h.pad l e (r + C)).n = h.n := by unfold AHeap.pad; rw [hl]; rfl
    refine (H C hn L F R w0 w ARGS rp ⟨by rw [← hs]; simp, fun i x X hx hX => ?_⟩).mono ?_
    · cases i with
      | zero =>
        simp at hx; subst hx
        rw [Array.getElem?_eq_getElem h0, hA] at hX
        obtain rfl := Option.some.inj hX
        exact .slice hL he hn ha room (.inr rfl)
      | succ i => exact hv (i + 1) x X (by simpa using hx) hX
    · rintro ex W ⟨V, L', e1, ext, e3, e4⟩
      exact ⟨V, L', e1, ⟨by rw [← hn']; exact ext.n, fun x hx => ext.lay x (by rw [hn']; exact hx)⟩, e3, e4⟩
theorem acall_kill {P : Program} {f : FuncId} {args : List Value} {h h' : AHeap} {v : Value} (H : ACall P f args h v h') (l : Nat) : ACall P f args h v (h'.put l none) := by
  intro L F R w0 w ARGS rel ha
  refine (H L F R w0 w ARGS rel ha).mono ?_
  rintro ex W ⟨V, L', e1, ext, e3, e4⟩
  exact ⟨V, L', e1, ⟨ext.n, ext.lay⟩, e3, e4.kill l⟩
theorem acall_rehome {P : Program} {f : FuncId} {args : List Value} {h h' : AHeap} {l r e n c : Nat} {rows : List (List Value)} (hl : h'.get l = some ⟨rows, e, true⟩)
    (H : ACall P f args h (.slice (some ⟨l, r, some e⟩) n c) h') : ACall P f args h (.slice (some ⟨h'.n, 0, some e⟩) n 0) ((h'.put l none).push ⟨(rows.drop r).take n, e, true⟩) := by
  intro L F R w0 w ARGS rel ha
  refine (H L F R w0 w ARGS rel ha).mono ?_
  rintro ex W ⟨V, L', e1, ext, e3, q⟩
  cases e3 with
  | slice hL he hn ha room hc =>
    rename_i C s A
    have or := q.obj l _ s hl hL
    have hes : s.esz = e := or.esz
    obtain ⟨bc, ty, fr, hh, hbs, hfr⟩ := or.own rfl
    have hk := q.kill l
    have hno : ∀ x y p, (h'.put l none).get x = some y → L' x = some p → p.blk ≠ s.blk := by
      intro x y p h1 h2 e
      by_cases ex : x = l
      · subst ex; rw [AHeap.get_put_eq] at h1; cases h1
      · rw [AHeap.get_put_ne ex] at h1
        exact q.apart l x _ y s p hl h1 hL h2 rfl (Ne.symm ex) e.symm
    have hle := Lay.le_set (L := L') (q.unl h'.n (Nat.le_refl _)) ⟨s.blk, s.base + r * e, e, s.bsz, true⟩
    have pa := hk.pushAt (s := ⟨s.blk, s.base + r * e, e, s.bsz, true⟩) (o' := ⟨(rows.drop r).take n, e, true⟩) rfl (q.free l _ s hl hL rfl) hno (turns_refl W _) (by
      refine ⟨rfl, rfl, or.lt, fun i row hi => ?_, fun i row hi j v hj => ?_, fun _ => ⟨bc, ty, fr, hh, hbs, hfr.imp id fun h => ⟨by show e = 1; rw [← hes]; exact h.1, h.2⟩⟩⟩
      · rw [List.getElem?_take] at hi
        split at hi
        · rw [List.getElem?_drop] at hi; exact or.len _ row hi
        · cases hi
      · rw [List.getElem?_take] at hi
        split at hi
        · rw [List.getElem?_drop] at hi
          obtain ⟨V2, a1, a2⟩ := or.cell _ row hi j v hj
          refine ⟨V2, ?_, a2.mono hle⟩
          rw [hes, Nat.add_mul] at a1
          show W.cell? ⟨s.blk, s.base + r * e + i * e + j, none⟩ = some V2
          rw [← a1]; congr 2; omega
        · cases hi)
    refine ⟨_, _, e1, ⟨Nat.le_trans ext.n (Nat.le_succ _), fun x hx => ?_⟩, .slice (s := ⟨s.blk, s.base + r * e, e, s.bsz, true⟩) (if_pos rfl) rfl hn (ha.imp id fun h => ?_) (fun _ => ?_) (.inl rfl), pa⟩
    · have h1 := ext.n
      show (if x = h'.n then _ else L' x) = L x
      rw [if_neg (by omega)]; exact ext.lay x hx
    · rw [h]; simp
    · have := room or.rw
      show s.base + r * e + (0 + C) * e ≤ s.bsz
      rw [Nat.zero_add]
      rw [Nat.add_mul] at this; omega
end Go.Abs
