/- Functions of the library that are known by the kit's calls: what they leave is what was there. -/
import Derived.Test.YtdcijleeoihlfaaA30
namespace Go.Abs
theorem Rel.below {L : Lay} {F R : Nat → Prop} {w0 w w' : World} {h : AHeap} (r : Rel L F R w0 w h) (b : RowKit.Below w.heap.size w w') : Rel L F R w0 w' h := by
  have hlt : ∀ x, F x → x < w.heap.size := fun x hx => Nat.lt_of_lt_of_le (r.inF x hx) r.keeps.size
  refine ⟨⟨b.os.trans r.keeps.os, b.tape.trans r.keeps.tape, b.output.trans r.keeps.output, Nat.le_trans r.keeps.size b.size, fun x hx => (b.block x (hlt x hx)).trans (r.keeps.block x hx)⟩, r.inF, r.inR, r.fresh, r.unl, fun l o s h1 h2 => ?_, r.free, r.ro, r.apart⟩
  have ob := r.obj l o s h1 h2
  refine ⟨ob.esz, ob.rw, Nat.lt_of_lt_of_le ob.lt b.size, ob.len, fun k row hr j v hv => ?_, fun ho => ?_⟩
  · obtain ⟨V, hV, hvr⟩ := ob.cell k row hr j v hv
    exact ⟨V, by rw [b.cell (p := ⟨s.blk, s.base + k * s.esz + j, none⟩) ob.lt]; exact hV, hvr⟩
  · obtain ⟨cs, T, fr, e, h2, h3⟩ := ob.own ho
    exact ⟨cs, T, fr, by rw [b.block _ ob.lt]; exact e, h2, h3⟩

theorem acall_of_below {P : Program} {f : FuncId} {args : List Value} {h : AHeap} {v : Value}
    (H : ∀ (L : Lay) (F R : Nat → Prop) (w0 w : World) (ARGS : Array Value), Rel L F R w0 w h → ARel L args.toArray ARGS → Calls P f ARGS w fun e W => ∃ V, e = .returned V ∧ VRel L v V ∧ RowKit.Below w.heap.size w W) : ACall P f args h v h := by
  intro L F R w0 w ARGS r a
  refine (H L F R w0 w ARGS r a).mono ?_
  rintro e W ⟨V, he, hv, hb⟩
  exact ⟨V, L, he, .refl _ _, hv, r.below hb⟩
end Go.Abs
