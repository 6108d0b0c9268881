/- Contracts: the bytes of brokers, in the program. -/
import Derived.Test.YtanienlcebkijaaV11F6
import Derived.Test.YtanienlcebkijaaV11H2
namespace Go.Dat
open Go.Abs
def nb (n : Int) : ByteArray := vb (foldN n)
def grpB (g : groupSh.T) : ByteArray := cat [vt g.1, nb g.2]
def topPre (t : topicSh.T) (j : Nat) : List ByteArray := [vt t.1, nb t.2.1, nb t.2.2.1.length] ++ (t.2.2.1.take j).map vt
def topPre2 (t : topicSh.T) (j : Nat) : List ByteArray := topPre t t.2.2.1.length ++ [nb t.2.2.2.length] ++ (t.2.2.2.take j).map grpB
def topB (t : topicSh.T) : ByteArray := cat (topPre2 t t.2.2.2.length)
def repB (r : replySh.T) : ByteArray := cat [nb r.1, nb r.2.1, vt r.2.2]
def brkPre (ts : List topicSh.T) (i : Nat) : List ByteArray := [nb ts.length] ++ (ts.take i).map topB
def brkPre2 (ts : List topicSh.T) (rs : List replySh.T) (j : Nat) : List ByteArray := brkPre ts ts.length ++ [nb rs.length] ++ (rs.take j).map repB
theorem cat_size_app (L M : List ByteArray) : (cat (L ++ M)).size = (cat L).size + (cat M).size := by rw [cat_append, ByteArray.size_append]
theorem cat_size_cons (x : ByteArray) (L : List ByteArray) : (cat (x :: L)).size = x.size + (cat L).size := ByteArray.size_append
theorem cat_size_nil : (cat []).size = 0 := rfl
theorem cat_map_take {α : Type} {f : α → ByteArray} {m : Nat} : ∀ {xs : List α} (_ : ∀ x ∈ xs, (f x).size ≤ m) (j : Nat), (cat ((xs.take j).map f)).size ≤ m * xs.length
  | [], _, j => by rw [List.take_nil]; exact Nat.zero_le _
  | x :: xs, h, 0 => Nat.zero_le _
  | x :: xs, h, j + 1 => by
    have h1 := h x List.mem_cons_self
    have h2 := cat_map_take (xs := xs) (fun y hy => h y (List.mem_cons_of_mem _ hy)) j
    rw [List.take_succ_cons, List.map_cons, cat_size_cons, List.length_cons, Nat.mul_succ]; omega
theorem nb_size {n : Int} (h : -9223372036854775808 ≤ n ∧ n ≤ 9223372036854775807) : (nb n).size ≤ 10 := vb_size 9 _ (by have := foldN_lt h; omega)
theorem vt_size' {t : ByteArray} (h : t.size ≤ 1000000000) : (vt t).size ≤ t.size + 10 := by
  have := nb_size (n := t.size) (by omega)
  unfold vt; rw [ByteArray.size_append]; unfold nb at this; omega
def InR (lo hi x : Int) : Prop := lo ≤ x ∧ x ≤ hi
theorem nb_sz {lo hi n : Int} (h : InR lo hi n) (h1 : -9223372036854775808 ≤ lo) (h2 : hi ≤ 9223372036854775807) : (nb n).size ≤ 10 := nb_size (by unfold InR at h; omega)
structure TopSz (t : topicSh.T) : Prop where
  nm : t.1.size ≤ 20
  bs : InR 0 1000000000 t.2.1
  hl : t.2.2.1.length ≤ 20
  gl : t.2.2.2.length ≤ 4
  hs : ∀ m ∈ t.2.2.1, ByteArray.size m ≤ 40
  gs : ∀ g ∈ t.2.2.2, ByteArray.size g.1 ≤ 20 ∧ InR 0 2000000000 g.2
theorem TopicOk.sz {n : ByteArray} {b : Int} {hs : List Sh.str.T} {gs : List groupSh.T} (H : TopicOk n b hs gs) : TopSz (n, b, hs, gs) := by
  obtain ⟨h1, h2, h3, h4, h5, h6, h7⟩ := H
  refine ⟨h1.2.1, h2, h3, h4, fun m hm => ?_, fun g hg => ?_⟩
  · obtain ⟨i, hi⟩ := List.mem_iff_getElem?.1 hm
    have := (h6 i (List.getElem?_eq_some_iff.1 hi).1).out hi
    exact this.2
  · obtain ⟨i, hi⟩ := List.mem_iff_getElem?.1 hg
    obtain ⟨gn, (gk : Int)⟩ := g
    have := (h7 i (List.getElem?_eq_some_iff.1 hi).1).out (n := gn) (k := gk) hi
    refine ⟨this.1.2.1, ?_⟩
    show (0 : Int) ≤ gk ∧ gk ≤ 2000000000
    have h8 : hs.length ≤ 20 := h3
    omega
theorem TopSz.grp {t : topicSh.T} (H : TopSz t) : ∀ g ∈ t.2.2.2, (grpB g).size ≤ 40 := fun g hg => by
  have h1 := H.gs g hg
  have h2 := vt_size' (t := g.1) (by omega)
  have h3 := nb_sz h1.2 (by omega) (by omega)
  unfold grpB
  simp only [cat_size_cons, cat_size_nil]; omega
theorem TopSz.pre {t : topicSh.T} (H : TopSz t) (j : Nat) : (cat (topPre t j)).size ≤ 1050 := by
  have h1 := vt_size' (t := t.1) (by have := H.nm; omega)
  have h2 := nb_sz H.bs (by omega) (by omega)
  have h3 := nb_size (n := t.2.2.1.length) (by have := H.hl; omega)
  have h4 := cat_map_take (f := vt) (m := 50) (xs := t.2.2.1) (fun x hx => by have h5 := H.hs x hx; have := vt_size' (t := x) (by omega); omega) j
  have h5 := H.hl
  have h6 := H.nm
  have : 50 * t.2.2.1.length ≤ 1000 := by omega
  unfold topPre
  rw [cat_size_app]
  simp only [cat_size_cons, cat_size_nil]
  omega
theorem TopSz.pre2 {t : topicSh.T} (H : TopSz t) (j : Nat) : (cat (topPre2 t j)).size ≤ 1300 := by
  have h1 := H.pre t.2.2.1.length
  have h3 := nb_size (n := t.2.2.2.length) (by have := H.gl; omega)
  have h4 := cat_map_take H.grp j
  have h5 := H.gl
  unfold topPre2
  rw [cat_size_app, cat_size_app]
  simp only [cat_size_cons, cat_size_nil]
  omega
structure BrkSz (ts : List topicSh.T) (rs : List replySh.T) : Prop where
  tl : ts.length ≤ 4
  rl : rs.length ≤ 9
  ts : ∀ t ∈ ts, TopSz t
  rs : ∀ r ∈ rs, InR 1 9 r.1 ∧ InR 1 1000000000 r.2.1 ∧ ByteArray.size r.2.2 ≤ 900
theorem BrokerOk.sz {ts : List topicSh.T} {rs : List replySh.T} (H : BrokerOk ts rs) : BrkSz ts rs := by
  obtain ⟨h1, h2, h3, h4⟩ := H
  refine ⟨h1, h2, fun t ht => ?_, fun r hr => ?_⟩
  · obtain ⟨i, hi⟩ := List.mem_iff_getElem?.1 ht
    exact TopicOk.sz ((h3 i (List.getElem?_eq_some_iff.1 hi).1).out (n := t.1) (b := t.2.1) (hs := t.2.2.1) (gs := t.2.2.2) hi).1
  · obtain ⟨i, hi⟩ := List.mem_iff_getElem?.1 hr
    have := (h4 i (List.getElem?_eq_some_iff.1 hi).1).out (c := r.1) (n := r.2.1) (t := r.2.2) hi
    exact ⟨this.1, this.2.1, this.2.2.1⟩
theorem BrkSz.pre {ts : List topicSh.T} {rs : List replySh.T} (H : BrkSz ts rs) (i : Nat) : (cat (brkPre ts i)).size ≤ 5300 := by
  have h1 := nb_size (n := ts.length) (by have := H.tl; omega)
  have h2 := cat_map_take (f := topB) (m := 1300) (xs := ts) (fun t ht => (H.ts t ht).pre2 _) i
  have h3 := H.tl
  unfold brkPre
  rw [cat_size_app]
  simp only [cat_size_cons, cat_size_nil]
  omega
theorem BrkSz.rep {ts : List topicSh.T} {rs : List replySh.T} (H : BrkSz ts rs) : ∀ r ∈ rs, (repB r).size ≤ 930 := fun r hr => by
  obtain ⟨h1, h2, h3⟩ := H.rs r hr
  have h4 := nb_sz h1 (by omega) (by omega)
  have h5 := nb_sz h2 (by omega) (by omega)
  have h6 := vt_size' (t := r.2.2) (by omega)
  unfold repB
  simp only [cat_size_cons, cat_size_nil]; omega
theorem BrkSz.pre2 {ts : List topicSh.T} {rs : List replySh.T} (H : BrkSz ts rs) (j : Nat) : (cat (brkPre2 ts rs j)).size ≤ 14000 := by
  have h1 := H.pre ts.length
  have h2 := nb_size (n := rs.length) (by have := H.rl; omega)
  have h3 := cat_map_take H.rep j
  have h4 := H.rl
  unfold brkPre2
  rw [cat_size_app, cat_size_app]
  simp only [cat_size_cons, cat_size_nil]
  omega
end Go.Dat
namespace Go.Proofs.Ytanienlcebkijaa
open Go.Abs Go.Dat
set_option maxRecDepth 100000
set_option maxHeartbeats 8000000
end Go.Proofs.Ytanienlcebkijaa
