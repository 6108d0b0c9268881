/- More on data by shapes: sizes step by step; what is owned in a heap that grows; tests whose decision is whatever. -/
import Derived.Test.YtanienlcebkijaaV11A27
namespace Go.Dat
open Go.Abs
theorem Sh.ro.le {h h' : AHeap} (hl : h.Le h') {s : Sh} {x : s.T} {cs : List Value} {ids : List Nat} (r : s.ro h x cs ids) : s.ro h' x cs ids := by
  refine Sh.ro.frame hl.shp (fun l hm => ?_) r
  cases hq : h.get l with
  | some o => exact hl.get l o hq
  | none => exact absurd hq (ro_some r hm)
theorem So.le {h h' : AHeap} (hl : h.Le h') {s : Sh} {xs : List s.T} {v : Value} {ids : List Nat} (r : So h s xs v ids) : So h' s xs v ids := by
  obtain ⟨v', e, h1⟩ := ro_sl.1 (Sh.ro.le hl (ro_sl.2 ⟨v, rfl, r⟩))
  cases e; exact h1
theorem sz_step {a b : Sh} {x : (Sh.pair a b).T} {l m r : Int} (h : a.sz x.1 l = m) (hm : 0 ≤ m) (t : b.sz x.2 m = r) : (Sh.pair a b).sz x l = r := by
  show (if a.sz x.1 l < 0 then -1 else b.sz x.2 (a.sz x.1 l)) = r
  rw [h, if_neg (by omega), t]
theorem sz_stop {a b : Sh} {x : (Sh.pair a b).T} {l : Int} (h : a.sz x.1 l < 0) : (Sh.pair a b).sz x l = -1 := by
  show (if a.sz x.1 l < 0 then -1 else b.sz x.2 (a.sz x.1 l)) = -1
  rw [if_pos h]
theorem sz_str {x : ByteArray} {l : Int} (h : ¬ l - (x.size : Int) < 0) : Sh.str.sz x l = l - (x.size : Int) := by
  show (if l - (x.size : Int) < 0 then -1 else l - (x.size : Int)) = _
  rw [if_neg h]
theorem sz_strn {x : ByteArray} {l : Int} (h : l - (x.size : Int) < 0) : Sh.str.sz x l = -1 := by
  show (if l - (x.size : Int) < 0 then -1 else l - (x.size : Int)) = _
  rw [if_pos h]
theorem sz_neg {s : Sh} {x : s.T} {l : Int} (hl : 0 ≤ l) (h : s.sz x l < 0) : s.sz x l = -1 := by
  have := s.sz_le x l hl; omega
theorem neg1 {i : Int} (h : i = -1) : i < 0 := by omega
end Go.Dat
namespace Go.Abs
theorem bs_d {p : Prop} {i : Decidable p} {x y : Prop} (h1 : p → x) (h2 : ¬ p → y) : bs (@decide p i) x y := bs_of (fun h => h1 (of_decide_eq_true h)) (fun h => h2 (of_decide_eq_false h))
theorem bs_dn {p : Prop} {i : Decidable p} {x y : Prop} (h1 : ¬ p → x) (h2 : p → y) : bs (!@decide p i) x y := bs_of (fun h => h1 (by simpa using h)) (fun h => h2 (by simpa using h))
theorem bs_nb {b : Bool} {x y : Prop} (h1 : b = false → x) (h2 : b = true → y) : bs (!b) x y := bs_of (fun h => h1 (by simpa using h)) (fun h => h2 (by simpa using h))
theorem acall_q {P : Program} {f : FuncId} {args : List Value} {h : AHeap} {Q : Value → AHeap → Prop} (hx : ∀ Q' : Value → AHeap → Prop, (∀ v h', Q v h' → Q' v h') → ∃ v h', ACall P f args h v h' ∧ Q' v h') :
    ∃ v h', ACall P f args h v h' ∧ Q v h' := hx Q fun _ _ x => x
structure Vc (p : Prop) : Prop where
  out : p
theorem vc_mp {p q : Prop} (e : q = p) (h : q) : Vc p := ⟨e ▸ h⟩
theorem acall_vc {P : Program} {nt : Nat} {rs : List ResultVar} {f : FuncId} {fn : Func} {c : Code} {args : List Value} {h0 : AHeap} {Q : Value → AHeap → Prop} (E : Tmp → Bool) (D : Nat → List Stp) (LS : Nat → LSpec) (hm : P.follows .mixedOrders = true) (hf : P.funcs[f]? = some fn) (hb : fn.body = some c) (hrs : fn.results = rs.toArray) (hn : fn.ntmps = nt) (hs : args.length ≤ nt)
    (hl : Vc (loopsOk (LoopOk P nt E D LS rs) c)) (h : Vc (vcL P nt E D LS Q c (vcRes P rs Q) (retX P rs Q) (st0 args h0))) : ∃ v h', ACall P f args h0 v h' ∧ Q v h' :=
  acall_by E D LS hm hf hb hrs hn hs hl.out h.out
theorem acall_out {P : Program} {f : FuncId} {args : List Value} {h : AHeap} {v : Value} (hx : ∃ v' h', ACall P f args h v' h' ∧ v' = v ∧ h' = h) : ACall P f args h v h := by
  obtain ⟨_, _, hA, rfl, rfl⟩ := hx; exact hA
end Go.Abs
