/- Contracts: the bytes of brokers, in the program. -/
import Derived.Test.YtdcijleeoihlfaaV8F6
import Derived.Test.YtdcijleeoihlfaaV8H2
namespace Go.Dat
open Go.Abs
def nb (n : Int) : ByteArray := vb (foldN n)
def grpB (g : groupSh.T) : ByteArray := cat [vt g.1, nb g.2]
def topPre (t : topicSh.T) (j : Nat) : List ByteArray := [vt t.1, nb t.2.1, nb t.2.2.1.length] ++ (t.2.2.1.take j).map vt
def topPre2 (t : topicSh.T) (j : Nat) : List ByteArray := topPre t t.2.2.1.length ++ [nb t.2.2.2.length] ++ (t.2.2.2.take j).map grpB
def topB (t : topicSh.T) : ByteArray := cat (topPre2 t t.2.2.2.length)
def repB (r : replySh.T) : ByteArray := cat [nb r.1, nb r.2.1, vt r.2.2]
def brkPre (ts : List topicSh.T) (i : Nat) : List ByteArray := [nb ts.length] ++ (ts.take i).map topB
def brkPre2 (ts : List topicSh.T) (rs : List replySh.T) (j : Nat) : List ByteArray := brkPre ts ts.length ++ [nb rs.length] ++ (rs.take j).map repB
def brkB (ts : List topicSh.T) (rs : List replySh.T) : ByteArray := cat (brkPre2 ts rs rs.length)
theorem cat_one (x : ByteArray) : cat [x] = x := ba_append_nil x
theorem cat_snoc (L : List ByteArray) (x : ByteArray) : cat L ++ x = cat (L ++ [x]) := by rw [cat_append, cat_one]
theorem cat_size_app (L M : List ByteArray) : (cat (L ++ M)).size = (cat L).size + (cat M).size := by rw [cat_append, ByteArray.size_append]
theorem cat_size_cons (x : ByteArray) (L : List ByteArray) : (cat (x :: L)).size = x.size + (cat L).size := ByteArray.size_append
theorem cat_size_nil : (cat []).size = 0 := rfl
theorem cat_map_take {α : Type} {f : α → ByteArray} {m : Nat} : ∀ {xs : List α} (_ : ∀ x ∈ xs, (f x).size ≤ m) (j : Nat), (cat ((xs.take j).map f)).size ≤ m * xs.length
  | [], _, j => by rw [List.take_nil]; exact Nat.zero_le _
  | x :: xs, h, 0 => Nat.zero_le _
  | x :: xs, h, j + 1 => by
    have h1 := h x List.mem_cons_self
    have h2 := cat_map_take (xs := xs) (fun y hy => h y (List.mem_cons_of_mem _ hy)) j
    rw [List.take_succ_cons, List.map_cons, cat_size_cons, List.length_cons, Nat.mul_succ]; omega
theorem take_map_snoc {α β : Type} {f : α → β} {xs : List α} {i : Nat} {x : α} (h : xs[i]? = some x) : (xs.take (i + 1)).map f = (xs.take i).map f ++ [f x] := by
  obtain ⟨hi, e⟩ := List.getElem?_eq_some_iff.1 h
  rw [List.take_succ_eq_append_getElem hi, List.map_append, e]; rfl
theorem brkPre_step {ts : List topicSh.T} {i : Nat} {t : topicSh.T} (h : ts[i]? = some t) : cat (brkPre ts (i + 1)) = cat (brkPre ts i ++ topPre2 t t.2.2.2.length) := by
  unfold brkPre
  rw [take_map_snoc h, ← List.append_assoc, cat_append, cat_one, cat_append (_ ++ _) (topPre2 _ _)]; rfl
theorem nb_size {n : Int} (h : -9223372036854775808 ≤ n ∧ n ≤ 9223372036854775807) : (nb n).size ≤ 10 := vb_size 9 _ (by have := foldN_lt h; omega)
theorem vt_size' {t : ByteArray} (h : t.size ≤ 1000000000) : (vt t).size ≤ t.size + 10 := by
  have := nb_size (n := t.size) (by omega)
  unfold vt; rw [ByteArray.size_append]; unfold nb at this; omega
def InR (lo hi x : Int) : Prop := lo ≤ x ∧ x ≤ hi
theorem nb_sz {lo hi n : Int} (h : InR lo hi n) (h1 : -9223372036854775808 ≤ lo) (h2 : hi ≤ 9223372036854775807) : (nb n).size ≤ 10 := nb_size (by unfold InR at h; omega)
structure TopSz (t : topicSh.T) : Prop where
  nm : t.1.size ≤ 20
  bs : InR 0 1000000000 t.2.1
  hl : t.2.2.1.length ≤ 20
  gl : t.2.2.2.length ≤ 4
  hs : ∀ m ∈ t.2.2.1, ByteArray.size m ≤ 40
  gs : ∀ g ∈ t.2.2.2, ByteArray.size g.1 ≤ 20 ∧ InR 0 2000000000 g.2
theorem TopicOk.sz {n : ByteArray} {b : Int} {hs : List Sh.str.T} {gs : List groupSh.T} (H : TopicOk n b hs gs) : TopSz (n, b, hs, gs) := by
  obtain ⟨h1, h2, h3, h4, h5, h6, h7⟩ := H
  refine ⟨h1.2.1, h2, h3, h4, fun m hm => ?_, fun g hg => ?_⟩
  · obtain ⟨i, hi⟩ := List.mem_iff_getElem?.1 hm
    have := (h6 i (List.getElem?_eq_some_iff.1 hi).1).out hi
    exact this.2
  · obtain ⟨i, hi⟩ := List.mem_iff_getElem?.1 hg
    obtain ⟨gn, (gk : Int)⟩ := g
    have := (h7 i (List.getElem?_eq_some_iff.1 hi).1).out (n := gn) (k := gk) hi
    refine ⟨this.1.2.1, ?_⟩
    show (0 : Int) ≤ gk ∧ gk ≤ 2000000000
    have h8 : hs.length ≤ 20 := h3
    omega
theorem TopSz.grp {t : topicSh.T} (H : TopSz t) : ∀ g ∈ t.2.2.2, (grpB g).size ≤ 40 := fun g hg => by
  have h1 := H.gs g hg
  have h2 := vt_size' (t := g.1) (by omega)
  have h3 := nb_sz h1.2 (by omega) (by omega)
  unfold grpB
  simp only [cat_size_cons, cat_size_nil]; omega
theorem TopSz.pre {t : topicSh.T} (H : TopSz t) (j : Nat) : (cat (topPre t j)).size ≤ 1050 := by
  have h1 := vt_size' (t := t.1) (by have := H.nm; omega)
  have h2 := nb_sz H.bs (by omega) (by omega)
  have h3 := nb_size (n := t.2.2.1.length) (by have := H.hl; omega)
  have h4 := cat_map_take (f := vt) (m := 50) (xs := t.2.2.1) (fun x hx => by have h5 := H.hs x hx; have := vt_size' (t := x) (by omega); omega) j
  have h5 := H.hl
  have h6 := H.nm
  have : 50 * t.2.2.1.length ≤ 1000 := by omega
  unfold topPre
  rw [cat_size_app]
  simp only [cat_size_cons, cat_size_nil]
  omega
theorem TopSz.pre2 {t : topicSh.T} (H : TopSz t) (j : Nat) : (cat (topPre2 t j)).size ≤ 1300 := by
  have h1 := H.pre t.2.2.1.length
  have h3 := nb_size (n := t.2.2.2.length) (by have := H.gl; omega)
  have h4 := cat_map_take H.grp j
  have h5 := H.gl
  unfold topPre2
  rw [cat_size_app, cat_size_app]
  simp only [cat_size_cons, cat_size_nil]
  omega
structure BrkSz (ts : List topicSh.T) (rs : List replySh.T) : Prop where
  tl : ts.length ≤ 4
  rl : rs.length ≤ 9
  ts : ∀ t ∈ ts, TopSz t
  rs : ∀ r ∈ rs, InR 1 9 r.1 ∧ InR 1 1000000000 r.2.1 ∧ ByteArray.size r.2.2 ≤ 900
theorem BrokerOk.sz {ts : List topicSh.T} {rs : List replySh.T} (H : BrokerOk ts rs) : BrkSz ts rs := by
  obtain ⟨h1, h2, h3, h4⟩ := H
  refine ⟨h1, h2, fun t ht => ?_, fun r hr => ?_⟩
  · obtain ⟨i, hi⟩ := List.mem_iff_getElem?.1 ht
    exact TopicOk.sz ((h3 i (List.getElem?_eq_some_iff.1 hi).1).out (n := t.1) (b := t.2.1) (hs := t.2.2.1) (gs := t.2.2.2) hi).1
  · obtain ⟨i, hi⟩ := List.mem_iff_getElem?.1 hr
    have := (h4 i (List.getElem?_eq_some_iff.1 hi).1).out (c := r.1) (n := r.2.1) (t := r.2.2) hi
    exact ⟨this.1, this.2.1, this.2.2.1⟩
theorem BrkSz.pre {ts : List topicSh.T} {rs : List replySh.T} (H : BrkSz ts rs) (i : Nat) : (cat (brkPre ts i)).size ≤ 5300 := by
  have h1 := nb_size (n := ts.length) (by have := H.tl; omega)
  have h2 := cat_map_take (f := topB) (m := 1300) (xs := ts) (fun t ht => (H.ts t ht).pre2 _) i
  have h3 := H.tl
  unfold brkPre
  rw [cat_size_app]
  simp only [cat_size_cons, cat_size_nil]
  omega
theorem BrkSz.rep {ts : List topicSh.T} {rs : List replySh.T} (H : BrkSz ts rs) : ∀ r ∈ rs, (repB r).size ≤ 930 := fun r hr => by
  obtain ⟨h1, h2, h3⟩ := H.rs r hr
  have h4 := nb_sz h1 (by omega) (by omega)
  have h5 := nb_sz h2 (by omega) (by omega)
  have h6 := vt_size' (t := r.2.2) (by omega)
  unfold repB
  simp only [cat_size_cons, cat_size_nil]; omega
theorem BrkSz.pre2 {ts : List topicSh.T} {rs : List replySh.T} (H : BrkSz ts rs) (j : Nat) : (cat (brkPre2 ts rs j)).size ≤ 14000 := by
  have h1 := H.pre ts.length
  have h2 := nb_size (n := rs.length) (by have := H.rl; omega)
  have h3 := cat_map_take H.rep j
  have h4 := H.rl
  unfold brkPre2
  rw [cat_size_app, cat_size_app]
  simp only [cat_size_cons, cat_size_nil]
  omega
theorem app1 (A : List ByteArray) (x : ByteArray) : Append.append (cat A) x = cat (A ++ [x]) := cat_snoc A x
theorem app2 (A : List ByteArray) (x y : ByteArray) : Append.append (cat A) (Append.append x y) = cat (A ++ [x, y]) := by
  show cat A ++ (x ++ y) = _
  rw [← ba_assoc, cat_snoc, cat_snoc, List.append_assoc]; rfl
theorem app3 (A : List ByteArray) (x : ByteArray) (a b : Int) : Append.append (cat A) (Append.append x (vns [a, b])) = cat (A ++ [x, nb a, nb b]) := by
  show cat A ++ (x ++ cat [nb a, nb b]) = _
  rw [← ba_assoc, cat_snoc, ← cat_append, List.append_assoc]; rfl
theorem app4 (A : List ByteArray) (x : ByteArray) (a b : Int) : Append.append (cat A) (Append.append (vns [a, b]) x) = cat (A ++ [nb a, nb b, x]) := by
  show cat A ++ (cat [nb a, nb b] ++ x) = _
  rw [← ba_assoc, ← cat_append, cat_snoc, List.append_assoc]; rfl
theorem cat_sub (A : List ByteArray) (B : List ByteArray) (x : ByteArray) (h : x = cat B) : cat (A ++ B) = cat (A ++ [x]) := by rw [cat_append, cat_append, cat_one, h]
theorem topPre_step {t : topicSh.T} {j : Nat} {m : ByteArray} (h : (show List ByteArray from t.2.2.1)[j]? = some m) : topPre t (j + 1) = topPre t j ++ [vt m] := by
  unfold topPre; rw [take_map_snoc (f := vt) h, List.append_assoc]
theorem topPre2_step {t : topicSh.T} {j : Nat} {g : groupSh.T} (h : (show List groupSh.T from t.2.2.2)[j]? = some g) : topPre2 t (j + 1) = topPre2 t j ++ [grpB g] := by
  unfold topPre2; rw [take_map_snoc (f := grpB) h]; simp only [List.append_assoc]
theorem brkPre2_step {ts : List topicSh.T} {rs : List replySh.T} {j : Nat} {r : replySh.T} (h : rs[j]? = some r) : brkPre2 ts rs (j + 1) = brkPre2 ts rs j ++ [repB r] := by
  unfold brkPre2; rw [take_map_snoc (f := repB) h]; simp only [List.append_assoc]
theorem sl_ints {g : AHeap} {c : Nat} (xs : List Int) (rows : List (List Value)) (hr : rows = xs.map fun x => [.int .i64 x]) : Sl (g.push ⟨rows, 1, true⟩) Sh.int xs (.slice (some ⟨g.n, 0, some 1⟩) xs.length c) := by
  subst hr
  refine ⟨_, _, c, xs.map fun x => [.int .i64 x], rfl, .inr ⟨_, _, rfl⟩, ?_, rfl, fun i x row h1 h2 => ?_⟩
  · rw [get_rowsOf AHeap.get_push_eq (by simp), List.drop_zero, List.take_of_length_le (by simp)]
  · rw [List.getElem?_map, h1] at h2
    exact (Option.some.inj h2).symm
theorem ok_ints {xs : List Int} (hl : xs.length ≤ 1000) (h : ∀ x ∈ xs, InR (-9223372036854775808) 9223372036854775807 x) : (Sh.sl Sh.int).ok xs := ⟨by show xs.length ≤ _; omega, h⟩
theorem ok_ints2 {a b : Int} (ha : InR (-9223372036854775808) 9223372036854775807 a) (hb : InR (-9223372036854775808) 9223372036854775807 b) : (Sh.sl Sh.int).ok [a, b] := ok_ints (by simp) (fun x hx => by
  simp only [List.mem_cons, List.not_mem_nil, or_false] at hx
  rcases hx with rfl | rfl
  · exact ha
  · exact hb)
theorem vns2_size {a b : Int} (ha : InR (-9223372036854775808) 9223372036854775807 a) (hb : InR (-9223372036854775808) 9223372036854775807 b) : (vns [a, b]).size ≤ 20 := vns_size [a, b] (ok_ints2 ha hb).2
end Go.Dat
namespace Go.Proofs.Ytdcijleeoihlfaa
open Go.Abs Go.Dat
set_option maxRecDepth 100000
set_option maxHeartbeats 8000000
abbrev BF := Nat × topicSh.T × Option Addr × Nat × Option Addr × Nat
structure BI (h : AHeap) (ts : List topicSh.T) (x : BF) (g : AHeap) : Prop where
  at_ : ts[x.1]? = some x.2.1
  s1 : Sl g Sh.str x.2.1.2.2.1 (.slice x.2.2.1 x.2.1.2.2.1.length x.2.2.2.1)
  s2 : Sl g groupSh x.2.1.2.2.2 (.slice x.2.2.2.2.1 x.2.1.2.2.2.length x.2.2.2.2.2)
  le : h.Le g
  wf : g.wf
def bbL (ts : List topicSh.T) (rs : List replySh.T) (a1 : Option Addr) (c1 : Nat) (a2 : Option Addr) (c2 : Nat) (h : AHeap) : Nat → LSpec
  | 0 => {
    ι := Nat × AHeap
    κ := AHeap
    I := fun i => i.1 ≤ ts.length ∧ h.Le i.2 ∧ i.2.wf
    μ := fun i => ts.length - i.1
    head := fun i => ⟨[(1, .complex .f32 0 0), (3, .string (cat (brkPre ts i.1))), (17, .slice a1 ts.length c1), (18, .int .i64 ts.length), (19, .int .i64 i.1)], [[.slice a1 ts.length c1, .slice a2 rs.length c2]], i.2⟩
    post := fun j => ⟨[(1, .complex .f32 0 0), (3, .string (cat (brkPre ts ts.length)))], [[.slice a1 ts.length c1, .slice a2 rs.length c2]], j⟩
    R := fun _ j => h.Le j ∧ j.wf
    ret := fun _ _ _ => False }
  | 2 => {
    ι := BF × Nat × AHeap
    κ := BF × AHeap
    I := fun i => BI h ts i.1 i.2.2 ∧ i.2.1 ≤ i.1.2.1.2.2.1.length
    μ := fun i => i.1.2.1.2.2.1.length - i.2.1
    head := fun i => ⟨[(1, .complex .f32 0 0), (3, .string (cat (brkPre ts i.1.1 ++ topPre i.1.2.1 i.2.1))), (5, .complex .f32 1 0), (17, .slice a1 ts.length c1), (18, .int .i64 ts.length), (19, .int .i64 i.1.1), (37, .slice i.1.2.2.1 i.1.2.1.2.2.1.length i.1.2.2.2.1), (38, .int .i64 i.1.2.1.2.2.1.length), (39, .int .i64 i.2.1)],
      [[.slice a1 ts.length c1, .slice a2 rs.length c2], [.string i.1.2.1.1, .int .i64 i.1.2.1.2.1, .slice i.1.2.2.1 i.1.2.1.2.2.1.length i.1.2.2.2.1, .slice i.1.2.2.2.2.1 i.1.2.1.2.2.2.length i.1.2.2.2.2.2]], i.2.2⟩
    post := fun i => ⟨[(1, .complex .f32 0 0), (3, .string (cat (brkPre ts i.1.1 ++ topPre i.1.2.1 i.1.2.1.2.2.1.length))), (5, .complex .f32 1 0), (17, .slice a1 ts.length c1), (18, .int .i64 ts.length), (19, .int .i64 i.1.1)],
      [[.slice a1 ts.length c1, .slice a2 rs.length c2], [.string i.1.2.1.1, .int .i64 i.1.2.1.2.1, .slice i.1.2.2.1 i.1.2.1.2.2.1.length i.1.2.2.2.1, .slice i.1.2.2.2.2.1 i.1.2.1.2.2.2.length i.1.2.2.2.2.2]], i.2⟩
    R := fun i j => j.1 = i.1 ∧ BI h ts j.1 j.2
    ret := fun _ _ _ => False }
  | 4 => {
    ι := BF × Nat × AHeap
    κ := BF × AHeap
    I := fun i => BI h ts i.1 i.2.2 ∧ i.2.1 ≤ i.1.2.1.2.2.2.length
    μ := fun i => i.1.2.1.2.2.2.length - i.2.1
    head := fun i => ⟨[(1, .complex .f32 0 0), (3, .string (cat (brkPre ts i.1.1 ++ topPre2 i.1.2.1 i.2.1))), (17, .slice a1 ts.length c1), (18, .int .i64 ts.length), (19, .int .i64 i.1.1), (55, .slice i.1.2.2.2.2.1 i.1.2.1.2.2.2.length i.1.2.2.2.2.2), (56, .int .i64 i.1.2.1.2.2.2.length), (57, .int .i64 i.2.1)],
      [[.slice a1 ts.length c1, .slice a2 rs.length c2]], i.2.2⟩
    post := fun i => ⟨[(1, .complex .f32 0 0), (3, .string (cat (brkPre ts i.1.1 ++ topPre2 i.1.2.1 i.1.2.1.2.2.2.length))), (17, .slice a1 ts.length c1), (18, .int .i64 ts.length), (19, .int .i64 i.1.1)],
      [[.slice a1 ts.length c1, .slice a2 rs.length c2]], i.2⟩
    R := fun i j => j.1 = i.1 ∧ BI h ts j.1 j.2
    ret := fun _ _ _ => False }
  | _ => {
    ι := Nat × AHeap
    κ := AHeap
    I := fun i => i.1 ≤ rs.length ∧ h.Le i.2 ∧ i.2.wf
    μ := fun i => rs.length - i.1
    head := fun i => ⟨[(3, .string (cat (brkPre2 ts rs i.1))), (79, .slice a2 rs.length c2), (80, .int .i64 rs.length), (81, .int .i64 i.1)], [], i.2⟩
    post := fun j => ⟨[(3, .string (cat (brkPre2 ts rs rs.length)))], [], j⟩
    R := fun _ j => h.Le j ∧ j.wf
    ret := fun _ _ _ => False }
theorem sizeTopic_spec (h : AHeap) (a : Option Addr) (n c : Nat) : ACall Try.prog 129 [.slice a n c] h (.int .i64 n) h := by
  refine acall_out (acall_vc (fun _ => false) (fun _ => []) (fun _ => .none) mixed Try.func129 rfl rfl rfl (Nat.le_of_ble_eq_true rfl) (by refine vc_mp (by kernel_rfl : (True ∧ True ∧ True) = _) ?_; simp only [and_self]) ?_)
  refine vc_mp (by kernel_rfl : (Value.int IntKind.i64 (↑n : Int) = Value.int IntKind.i64 (↑n : Int) ∧ h = h) = _) ?_
  exact ⟨rfl, rfl⟩
theorem sizeString_spec (h : AHeap) (a : Option Addr) (n c : Nat) : ACall Try.prog 131 [.slice a n c] h (.int .i64 n) h := by
  refine acall_out (acall_vc (fun _ => false) (fun _ => []) (fun _ => .none) mixed Try.func131 rfl rfl rfl (Nat.le_of_ble_eq_true rfl) (by refine vc_mp (by kernel_rfl : (True ∧ True ∧ True) = _) ?_; simp only [and_self]) ?_)
  refine vc_mp (by kernel_rfl : (Value.int IntKind.i64 (↑n : Int) = Value.int IntKind.i64 (↑n : Int) ∧ h = h) = _) ?_
  exact ⟨rfl, rfl⟩
theorem sizeGroup_spec (h : AHeap) (a : Option Addr) (n c : Nat) : ACall Try.prog 132 [.slice a n c] h (.int .i64 n) h := by
  refine acall_out (acall_vc (fun _ => false) (fun _ => []) (fun _ => .none) mixed Try.func132 rfl rfl rfl (Nat.le_of_ble_eq_true rfl) (by refine vc_mp (by kernel_rfl : (True ∧ True ∧ True) = _) ?_; simp only [and_self]) ?_)
  refine vc_mp (by kernel_rfl : (Value.int IntKind.i64 (↑n : Int) = Value.int IntKind.i64 (↑n : Int) ∧ h = h) = _) ?_
  exact ⟨rfl, rfl⟩
theorem sizeReply_spec (h : AHeap) (a : Option Addr) (n c : Nat) : ACall Try.prog 133 [.slice a n c] h (.int .i64 n) h := by
  refine acall_out (acall_vc (fun _ => false) (fun _ => []) (fun _ => .none) mixed Try.func133 rfl rfl rfl (Nat.le_of_ble_eq_true rfl) (by refine vc_mp (by kernel_rfl : (True ∧ True ∧ True) = _) ?_; simp only [and_self]) ?_)
  refine vc_mp (by kernel_rfl : (Value.int IntKind.i64 (↑n : Int) = Value.int IntKind.i64 (↑n : Int) ∧ h = h) = _) ?_
  exact ⟨rfl, rfl⟩
theorem brokerBytes_spec (h : AHeap) (hw : h.wf) (ts : List topicSh.T) (rs : List replySh.T) (a1 : Option Addr) (c1 : Nat) (a2 : Option Addr) (c2 : Nat)
    (h1 : Sl h topicSh ts (.slice a1 ts.length c1)) (h2 : Sl h replySh rs (.slice a2 rs.length c2)) (H : BrkSz ts rs) :
    ∃ v h', ACall Try.prog 80 [.agg #[.slice a1 ts.length c1, .slice a2 rs.length c2]] h v h' ∧ h.Le h' ∧ h'.wf ∧ v = .string (brkB ts rs) := by
  refine acall_q fun Q HQ => ?_
  have sz : ∀ a b : ByteArray, (Append.append a b).size = a.size + b.size := fun a b => ByteArray.size_append
  refine acall_vc (fun _ => false) (fun r => match r with | 5 => [(0, 0, []), (1, 0, []), (4, 0, []), (6, 0, []), (2, 1, []), (5, 1, []), (7, 1, []), (3, 3, [5, 7]), (8, 3, [5]), (9, 3, []), (10, 3, []), (11, 0, []), (12, 0, []), (13, 3, [])] | 15 => [(0, 0, []), (1, 0, []), (4, 0, []), (2, 1, []), (5, 1, []), (3, 3, [5]), (6, 3, []), (7, 0, []), (8, 0, []), (9, 3, [])] | 22 => [(0, 0, []), (1, 0, []), (3, 0, []), (7, 0, []), (2, 1, []), (4, 1, []), (8, 1, []), (5, 3, [8]), (6, 3, [8]), (9, 3, []), (10, 0, []), (11, 0, []), (12, 3, [])] | _ => []) (bbL ts rs a1 c1 a2 c2 h) mixed Try.func80 rfl rfl rfl (Nat.le_of_ble_eq_true rfl) ?_ ?_
  · refine vc_mp (by kernel_rfl : (True ∧ True ∧ (True ∧ (∀ (i : Nat × AHeap), Prod.fst i ≤ List.length ts ∧ AHeap.Le h (Prod.snd i) ∧ AHeap.wf (Prod.snd i) → bs (decide ((↑(Prod.fst i) : Int) < (↑(List.length ts) : Int))) (∃ (l : Nat), ∃ (r : Nat), a1 = some (Addr.mk l r (some (4 : Nat))) ∧ (0 : Int) ≤ (↑(Prod.fst i) : Int) ∧ (↑(Prod.fst i) : Int) < (↑(List.length ts) : Int) ∧ ∃ (x : ByteArray), ∃ (x_1 : Int), ∃ (a : Option Addr), ∃ (n : Nat), ∃ (c : Nat), ∃ (a_1 : Option Addr), ∃ (n_1 : Nat), ∃ (c_1 : Nat), AHeap.ld (Prod.snd i) l (r + Int.toNat (↑(Prod.fst i) : Int)) (0 : Nat) (4 : Nat) = some [Value.string x, Value.int IntKind.i64 x_1, Value.slice a n c, Value.slice a_1 n_1 c_1] ∧ ∃ (x_2 : ByteArray), ∃ (h' : AHeap), ACall Try.prog (79 : Nat) [Value.string x] (Prod.snd i) (Value.string x_2) h' ∧ Value.slice a n c = Value.slice a n c ∧ Value.int IntKind.i64 x_1 = Value.int IntKind.i64 x_1 ∧ ∃ (x_3 : Int), ∃ (h'_1 : AHeap), ACall Try.prog (131 : Nat) [Value.slice a n c] h' (Value.int IntKind.i64 x_3) h'_1 ∧ Value.int IntKind.i64 x_1 = Value.int IntKind.i64 x_1 ∧ ∃ (x_4 : ByteArray), ∃ (h' : AHeap), ACall Try.prog (130 : Nat) [Value.slice (some (Addr.mk (AHeap.n h'_1) (0 : Nat) (some (1 : Nat)))) (2 : Nat) (3 : Nat)] (AHeap.push h'_1 (AObj.mk [[Value.int IntKind.i64 x_1], [Value.int IntKind.i64 x_3]] (1 : Nat) true)) (Value.string x_4) h' ∧ ByteArray.size x_2 + ByteArray.size x_4 ≤ (9223372036854775807 : Nat) ∧ ByteArray.size (cat (brkPre ts (Prod.fst i))) + ByteArray.size (Append.append x_2 x_4) ≤ (9223372036854775807 : Nat) ∧ ∃ (i_1 : BF × Nat × AHeap), Value.complex FloatKind.f32 (0 : Nat) (0 : Nat) = Value.complex FloatKind.f32 (0 : Nat) (0 : Nat) ∧ Value.string (Append.append (cat (brkPre ts (Prod.fst i))) (Append.append x_2 x_4)) = Value.string (cat (Append.append (brkPre ts (Prod.fst (Prod.fst i_1))) (topPre (Prod.fst (Prod.snd (Prod.fst i_1))) (Prod.fst (Prod.snd i_1))))) ∧ Value.complex FloatKind.f32 (1 : Nat) (0 : Nat) = Value.complex FloatKind.f32 (1 : Nat) (0 : Nat) ∧ Value.slice a1 (List.length ts) c1 = Value.slice a1 (List.length ts) c1 ∧ Value.int IntKind.i64 (↑(List.length ts) : Int) = Value.int IntKind.i64 (↑(List.length ts) : Int) ∧ Value.int IntKind.i64 (↑(Prod.fst i) : Int) = Value.int IntKind.i64 (↑(Prod.fst (Prod.fst i_1)) : Int) ∧ Value.slice a n c = Value.slice (Prod.fst (Prod.snd (Prod.snd (Prod.fst i_1)))) (List.length (Prod.fst (Prod.snd (Prod.snd (Prod.fst (Prod.snd (Prod.fst i_1))))))) (Prod.fst (Prod.snd (Prod.snd (Prod.snd (Prod.fst i_1))))) ∧ Value.int IntKind.i64 (↑n : Int) = Value.int IntKind.i64 (↑(List.length (Prod.fst (Prod.snd (Prod.snd (Prod.fst (Prod.snd (Prod.fst i_1))))))) : Int) ∧ Value.int IntKind.i64 (0 : Int) = Value.int IntKind.i64 (↑(Prod.fst (Prod.snd i_1)) : Int) ∧ [Value.slice a1 (List.length ts) c1, Value.slice a2 (List.length rs) c2] = [Value.slice a1 (List.length ts) c1, Value.slice a2 (List.length rs) c2] ∧ [Value.string (Prod.fst (Prod.fst (Prod.snd (Prod.fst i_1)))), Value.int IntKind.i64 (Prod.fst (Prod.snd (Prod.fst (Prod.snd (Prod.fst i_1))))), Value.slice (Prod.fst (Prod.snd (Prod.snd (Prod.fst i_1)))) (List.length (Prod.fst (Prod.snd (Prod.snd (Prod.fst (Prod.snd (Prod.fst i_1))))))) (Prod.fst (Prod.snd (Prod.snd (Prod.snd (Prod.fst i_1))))), Value.slice (Prod.fst (Prod.snd (Prod.snd (Prod.snd (Prod.snd (Prod.fst i_1)))))) (List.length (Prod.snd (Prod.snd (Prod.snd (Prod.fst (Prod.snd (Prod.fst i_1))))))) (Prod.snd (Prod.snd (Prod.snd (Prod.snd (Prod.snd (Prod.fst i_1))))))] = [Value.string x, Value.int IntKind.i64 x_1, Value.slice a n c, Value.slice a_1 n_1 c_1] ∧ Prod.snd (Prod.snd i_1) = h' ∧ (BI h ts (Prod.fst i_1) (Prod.snd (Prod.snd i_1)) ∧ Prod.fst (Prod.snd i_1) ≤ List.length (Prod.fst (Prod.snd (Prod.snd (Prod.fst (Prod.snd (Prod.fst i_1))))))) ∧ (∀ (j : BF × AHeap), Prod.fst j = Prod.fst i_1 ∧ BI h ts (Prod.fst j) (Prod.snd j) → ∃ (x : Int), ∃ (h' : AHeap), ACall Try.prog (132 : Nat) [Value.slice (Prod.fst (Prod.snd (Prod.snd (Prod.snd (Prod.snd (Prod.fst j)))))) (List.length (Prod.snd (Prod.snd (Prod.snd (Prod.fst (Prod.snd (Prod.fst j))))))) (Prod.snd (Prod.snd (Prod.snd (Prod.snd (Prod.snd (Prod.fst j))))))] (Prod.snd j) (Value.int IntKind.i64 x) h' ∧ ∃ (x_5 : ByteArray), ∃ (h'_2 : AHeap), ACall Try.prog (78 : Nat) [Value.int IntKind.i64 x] h' (Value.string x_5) h'_2 ∧ ByteArray.size (cat (Append.append (brkPre ts (Prod.fst (Prod.fst j))) (topPre (Prod.fst (Prod.snd (Prod.fst j))) (List.length (Prod.fst (Prod.snd (Prod.snd (Prod.fst (Prod.snd (Prod.fst j)))))))))) + ByteArray.size x_5 ≤ (9223372036854775807 : Nat) ∧ ∃ (i_2 : BF × Nat × AHeap), Value.complex FloatKind.f32 (0 : Nat) (0 : Nat) = Value.complex FloatKind.f32 (0 : Nat) (0 : Nat) ∧ Value.string (Append.append (cat (Append.append (brkPre ts (Prod.fst (Prod.fst j))) (topPre (Prod.fst (Prod.snd (Prod.fst j))) (List.length (Prod.fst (Prod.snd (Prod.snd (Prod.fst (Prod.snd (Prod.fst j)))))))))) x_5) = Value.string (cat (Append.append (brkPre ts (Prod.fst (Prod.fst i_2))) (topPre2 (Prod.fst (Prod.snd (Prod.fst i_2))) (Prod.fst (Prod.snd i_2))))) ∧ Value.slice a1 (List.length ts) c1 = Value.slice a1 (List.length ts) c1 ∧ Value.int IntKind.i64 (↑(List.length ts) : Int) = Value.int IntKind.i64 (↑(List.length ts) : Int) ∧ Value.int IntKind.i64 (↑(Prod.fst (Prod.fst j)) : Int) = Value.int IntKind.i64 (↑(Prod.fst (Prod.fst i_2)) : Int) ∧ Value.slice (Prod.fst (Prod.snd (Prod.snd (Prod.snd (Prod.snd (Prod.fst j)))))) (List.length (Prod.snd (Prod.snd (Prod.snd (Prod.fst (Prod.snd (Prod.fst j))))))) (Prod.snd (Prod.snd (Prod.snd (Prod.snd (Prod.snd (Prod.fst j)))))) = Value.slice (Prod.fst (Prod.snd (Prod.snd (Prod.snd (Prod.snd (Prod.fst i_2)))))) (List.length (Prod.snd (Prod.snd (Prod.snd (Prod.fst (Prod.snd (Prod.fst i_2))))))) (Prod.snd (Prod.snd (Prod.snd (Prod.snd (Prod.snd (Prod.fst i_2)))))) ∧ Value.int IntKind.i64 (↑(List.length (Prod.snd (Prod.snd (Prod.snd (Prod.fst (Prod.snd (Prod.fst j))))))) : Int) = Value.int IntKind.i64 (↑(List.length (Prod.snd (Prod.snd (Prod.snd (Prod.fst (Prod.snd (Prod.fst i_2))))))) : Int) ∧ Value.int IntKind.i64 (0 : Int) = Value.int IntKind.i64 (↑(Prod.fst (Prod.snd i_2)) : Int) ∧ [Value.slice a1 (List.length ts) c1, Value.slice a2 (List.length rs) c2] = [Value.slice a1 (List.length ts) c1, Value.slice a2 (List.length rs) c2] ∧ Prod.snd (Prod.snd i_2) = h'_2 ∧ (BI h ts (Prod.fst i_2) (Prod.snd (Prod.snd i_2)) ∧ Prod.fst (Prod.snd i_2) ≤ List.length (Prod.snd (Prod.snd (Prod.snd (Prod.fst (Prod.snd (Prod.fst i_2))))))) ∧ (∀ (j : BF × AHeap), Prod.fst j = Prod.fst i_2 ∧ BI h ts (Prod.fst j) (Prod.snd j) → ∃ (j_1 : Nat × AHeap), Value.complex FloatKind.f32 (0 : Nat) (0 : Nat) = Value.complex FloatKind.f32 (0 : Nat) (0 : Nat) ∧ Value.string (cat (Append.append (brkPre ts (Prod.fst (Prod.fst j))) (topPre2 (Prod.fst (Prod.snd (Prod.fst j))) (List.length (Prod.snd (Prod.snd (Prod.snd (Prod.fst (Prod.snd (Prod.fst j)))))))))) = Value.string (cat (brkPre ts (Prod.fst j_1))) ∧ Value.slice a1 (List.length ts) c1 = Value.slice a1 (List.length ts) c1 ∧ Value.int IntKind.i64 (↑(List.length ts) : Int) = Value.int IntKind.i64 (↑(List.length ts) : Int) ∧ Value.int IntKind.i64 (IntKind.wrap IntKind.i64 ((↑(Prod.fst (Prod.fst j)) : Int) + (1 : Int))) = Value.int IntKind.i64 (↑(Prod.fst j_1) : Int) ∧ [Value.slice a1 (List.length ts) c1, Value.slice a2 (List.length rs) c2] = [Value.slice a1 (List.length ts) c1, Value.slice a2 (List.length rs) c2] ∧ Prod.snd j_1 = Prod.snd j ∧ (Prod.fst j_1 ≤ List.length ts ∧ AHeap.Le h (Prod.snd j_1) ∧ AHeap.wf (Prod.snd j_1)) ∧ List.length ts - Prod.fst j_1 < List.length ts - Prod.fst i ∧ (∀ (k : AHeap), AHeap.Le h k ∧ AHeap.wf k → AHeap.Le h k ∧ AHeap.wf k) ∧ ∀ (v : Value) (h : AHeap), False → False) ∧ ∀ (v : Value) (h : AHeap), False → False) ∧ ∀ (v : Value) (h : AHeap), False → False) (∃ (j : AHeap), Value.complex FloatKind.f32 (0 : Nat) (0 : Nat) = Value.complex FloatKind.f32 (0 : Nat) (0 : Nat) ∧ Value.string (cat (brkPre ts (Prod.fst i))) = Value.string (cat (brkPre ts (List.length ts))) ∧ [Value.slice a1 (List.length ts) c1, Value.slice a2 (List.length rs) c2] = [Value.slice a1 (List.length ts) c1, Value.slice a2 (List.length rs) c2] ∧ j = Prod.snd i ∧ AHeap.Le h j ∧ AHeap.wf j)) ∧ True ∧ (True ∧ True) ∧ (True ∧ True ∧ (True ∧ (∀ (i : BF × Nat × AHeap), BI h ts (Prod.fst i) (Prod.snd (Prod.snd i)) ∧ Prod.fst (Prod.snd i) ≤ List.length (Prod.fst (Prod.snd (Prod.snd (Prod.fst (Prod.snd (Prod.fst i)))))) → bs (decide ((↑(Prod.fst (Prod.snd i)) : Int) < (↑(List.length (Prod.fst (Prod.snd (Prod.snd (Prod.fst (Prod.snd (Prod.fst i))))))) : Int))) (∃ (l : Nat), ∃ (r : Nat), Prod.fst (Prod.snd (Prod.snd (Prod.fst i))) = some (Addr.mk l r (some (1 : Nat))) ∧ (0 : Int) ≤ (↑(Prod.fst (Prod.snd i)) : Int) ∧ (↑(Prod.fst (Prod.snd i)) : Int) < (↑(List.length (Prod.fst (Prod.snd (Prod.snd (Prod.fst (Prod.snd (Prod.fst i))))))) : Int) ∧ ∃ (x : ByteArray), AHeap.ld (Prod.snd (Prod.snd i)) l (r + Int.toNat (↑(Prod.fst (Prod.snd i)) : Int)) (0 : Nat) (1 : Nat) = some [Value.string x] ∧ ∃ (x_1 : ByteArray), ∃ (h' : AHeap), ACall Try.prog (79 : Nat) [Value.string x] (Prod.snd (Prod.snd i)) (Value.string x_1) h' ∧ ByteArray.size (cat (Append.append (brkPre ts (Prod.fst (Prod.fst i))) (topPre (Prod.fst (Prod.snd (Prod.fst i))) (Prod.fst (Prod.snd i))))) + ByteArray.size x_1 ≤ (9223372036854775807 : Nat) ∧ ∃ (j : BF × Nat × AHeap), Value.complex FloatKind.f32 (0 : Nat) (0 : Nat) = Value.complex FloatKind.f32 (0 : Nat) (0 : Nat) ∧ Value.string (Append.append (cat (Append.append (brkPre ts (Prod.fst (Prod.fst i))) (topPre (Prod.fst (Prod.snd (Prod.fst i))) (Prod.fst (Prod.snd i))))) x_1) = Value.string (cat (Append.append (brkPre ts (Prod.fst (Prod.fst j))) (topPre (Prod.fst (Prod.snd (Prod.fst j))) (Prod.fst (Prod.snd j))))) ∧ Value.complex FloatKind.f32 (1 : Nat) (0 : Nat) = Value.complex FloatKind.f32 (1 : Nat) (0 : Nat) ∧ Value.slice a1 (List.length ts) c1 = Value.slice a1 (List.length ts) c1 ∧ Value.int IntKind.i64 (↑(List.length ts) : Int) = Value.int IntKind.i64 (↑(List.length ts) : Int) ∧ Value.int IntKind.i64 (↑(Prod.fst (Prod.fst i)) : Int) = Value.int IntKind.i64 (↑(Prod.fst (Prod.fst j)) : Int) ∧ Value.slice (Prod.fst (Prod.snd (Prod.snd (Prod.fst i)))) (List.length (Prod.fst (Prod.snd (Prod.snd (Prod.fst (Prod.snd (Prod.fst i))))))) (Prod.fst (Prod.snd (Prod.snd (Prod.snd (Prod.fst i))))) = Value.slice (Prod.fst (Prod.snd (Prod.snd (Prod.fst j)))) (List.length (Prod.fst (Prod.snd (Prod.snd (Prod.fst (Prod.snd (Prod.fst j))))))) (Prod.fst (Prod.snd (Prod.snd (Prod.snd (Prod.fst j))))) ∧ Value.int IntKind.i64 (↑(List.length (Prod.fst (Prod.snd (Prod.snd (Prod.fst (Prod.snd (Prod.fst i))))))) : Int) = Value.int IntKind.i64 (↑(List.length (Prod.fst (Prod.snd (Prod.snd (Prod.fst (Prod.snd (Prod.fst j))))))) : Int) ∧ Value.int IntKind.i64 (IntKind.wrap IntKind.i64 ((↑(Prod.fst (Prod.snd i)) : Int) + (1 : Int))) = Value.int IntKind.i64 (↑(Prod.fst (Prod.snd j)) : Int) ∧ [Value.slice a1 (List.length ts) c1, Value.slice a2 (List.length rs) c2] = [Value.slice a1 (List.length ts) c1, Value.slice a2 (List.length rs) c2] ∧ [Value.string (Prod.fst (Prod.fst (Prod.snd (Prod.fst j)))), Value.int IntKind.i64 (Prod.fst (Prod.snd (Prod.fst (Prod.snd (Prod.fst j))))), Value.slice (Prod.fst (Prod.snd (Prod.snd (Prod.fst j)))) (List.length (Prod.fst (Prod.snd (Prod.snd (Prod.fst (Prod.snd (Prod.fst j))))))) (Prod.fst (Prod.snd (Prod.snd (Prod.snd (Prod.fst j))))), Value.slice (Prod.fst (Prod.snd (Prod.snd (Prod.snd (Prod.snd (Prod.fst j)))))) (List.length (Prod.snd (Prod.snd (Prod.snd (Prod.fst (Prod.snd (Prod.fst j))))))) (Prod.snd (Prod.snd (Prod.snd (Prod.snd (Prod.snd (Prod.fst j))))))] = [Value.string (Prod.fst (Prod.fst (Prod.snd (Prod.fst i)))), Value.int IntKind.i64 (Prod.fst (Prod.snd (Prod.fst (Prod.snd (Prod.fst i))))), Value.slice (Prod.fst (Prod.snd (Prod.snd (Prod.fst i)))) (List.length (Prod.fst (Prod.snd (Prod.snd (Prod.fst (Prod.snd (Prod.fst i))))))) (Prod.fst (Prod.snd (Prod.snd (Prod.snd (Prod.fst i))))), Value.slice (Prod.fst (Prod.snd (Prod.snd (Prod.snd (Prod.snd (Prod.fst i)))))) (List.length (Prod.snd (Prod.snd (Prod.snd (Prod.fst (Prod.snd (Prod.fst i))))))) (Prod.snd (Prod.snd (Prod.snd (Prod.snd (Prod.snd (Prod.fst i))))))] ∧ Prod.snd (Prod.snd j) = h' ∧ (BI h ts (Prod.fst j) (Prod.snd (Prod.snd j)) ∧ Prod.fst (Prod.snd j) ≤ List.length (Prod.fst (Prod.snd (Prod.snd (Prod.fst (Prod.snd (Prod.fst j))))))) ∧ List.length (Prod.fst (Prod.snd (Prod.snd (Prod.fst (Prod.snd (Prod.fst j)))))) - Prod.fst (Prod.snd j) < List.length (Prod.fst (Prod.snd (Prod.snd (Prod.fst (Prod.snd (Prod.fst i)))))) - Prod.fst (Prod.snd i) ∧ (∀ (k : BF × AHeap), Prod.fst k = Prod.fst j ∧ BI h ts (Prod.fst k) (Prod.snd k) → Prod.fst k = Prod.fst i ∧ BI h ts (Prod.fst k) (Prod.snd k)) ∧ ∀ (v : Value) (h : AHeap), False → False) (∃ (j : BF × AHeap), Value.complex FloatKind.f32 (0 : Nat) (0 : Nat) = Value.complex FloatKind.f32 (0 : Nat) (0 : Nat) ∧ Value.string (cat (Append.append (brkPre ts (Prod.fst (Prod.fst i))) (topPre (Prod.fst (Prod.snd (Prod.fst i))) (Prod.fst (Prod.snd i))))) = Value.string (cat (Append.append (brkPre ts (Prod.fst (Prod.fst j))) (topPre (Prod.fst (Prod.snd (Prod.fst j))) (List.length (Prod.fst (Prod.snd (Prod.snd (Prod.fst (Prod.snd (Prod.fst j)))))))))) ∧ Value.complex FloatKind.f32 (1 : Nat) (0 : Nat) = Value.complex FloatKind.f32 (1 : Nat) (0 : Nat) ∧ Value.slice a1 (List.length ts) c1 = Value.slice a1 (List.length ts) c1 ∧ Value.int IntKind.i64 (↑(List.length ts) : Int) = Value.int IntKind.i64 (↑(List.length ts) : Int) ∧ Value.int IntKind.i64 (↑(Prod.fst (Prod.fst i)) : Int) = Value.int IntKind.i64 (↑(Prod.fst (Prod.fst j)) : Int) ∧ [Value.slice a1 (List.length ts) c1, Value.slice a2 (List.length rs) c2] = [Value.slice a1 (List.length ts) c1, Value.slice a2 (List.length rs) c2] ∧ [Value.string (Prod.fst (Prod.fst (Prod.snd (Prod.fst j)))), Value.int IntKind.i64 (Prod.fst (Prod.snd (Prod.fst (Prod.snd (Prod.fst j))))), Value.slice (Prod.fst (Prod.snd (Prod.snd (Prod.fst j)))) (List.length (Prod.fst (Prod.snd (Prod.snd (Prod.fst (Prod.snd (Prod.fst j))))))) (Prod.fst (Prod.snd (Prod.snd (Prod.snd (Prod.fst j))))), Value.slice (Prod.fst (Prod.snd (Prod.snd (Prod.snd (Prod.snd (Prod.fst j)))))) (List.length (Prod.snd (Prod.snd (Prod.snd (Prod.fst (Prod.snd (Prod.fst j))))))) (Prod.snd (Prod.snd (Prod.snd (Prod.snd (Prod.snd (Prod.fst j))))))] = [Value.string (Prod.fst (Prod.fst (Prod.snd (Prod.fst i)))), Value.int IntKind.i64 (Prod.fst (Prod.snd (Prod.fst (Prod.snd (Prod.fst i))))), Value.slice (Prod.fst (Prod.snd (Prod.snd (Prod.fst i)))) (List.length (Prod.fst (Prod.snd (Prod.snd (Prod.fst (Prod.snd (Prod.fst i))))))) (Prod.fst (Prod.snd (Prod.snd (Prod.snd (Prod.fst i))))), Value.slice (Prod.fst (Prod.snd (Prod.snd (Prod.snd (Prod.snd (Prod.fst i)))))) (List.length (Prod.snd (Prod.snd (Prod.snd (Prod.fst (Prod.snd (Prod.fst i))))))) (Prod.snd (Prod.snd (Prod.snd (Prod.snd (Prod.snd (Prod.fst i))))))] ∧ Prod.snd j = Prod.snd (Prod.snd i) ∧ Prod.fst j = Prod.fst i ∧ BI h ts (Prod.fst j) (Prod.snd j))) ∧ True ∧ (True ∧ True) ∧ (True ∧ True) ∧ True) ∧ True ∧ True ∧ (∀ (i : BF × Nat × AHeap), BI h ts (Prod.fst i) (Prod.snd (Prod.snd i)) ∧ Prod.fst (Prod.snd i) ≤ List.length (Prod.snd (Prod.snd (Prod.snd (Prod.fst (Prod.snd (Prod.fst i)))))) → bs (decide ((↑(Prod.fst (Prod.snd i)) : Int) < (↑(List.length (Prod.snd (Prod.snd (Prod.snd (Prod.fst (Prod.snd (Prod.fst i))))))) : Int))) (∃ (l : Nat), ∃ (r : Nat), Prod.fst (Prod.snd (Prod.snd (Prod.snd (Prod.snd (Prod.fst i))))) = some (Addr.mk l r (some (2 : Nat))) ∧ (0 : Int) ≤ (↑(Prod.fst (Prod.snd i)) : Int) ∧ (↑(Prod.fst (Prod.snd i)) : Int) < (↑(List.length (Prod.snd (Prod.snd (Prod.snd (Prod.fst (Prod.snd (Prod.fst i))))))) : Int) ∧ ∃ (x : ByteArray), ∃ (x_1 : Int), AHeap.ld (Prod.snd (Prod.snd i)) l (r + Int.toNat (↑(Prod.fst (Prod.snd i)) : Int)) (0 : Nat) (2 : Nat) = some [Value.string x, Value.int IntKind.i64 x_1] ∧ ∃ (x_2 : ByteArray), ∃ (h' : AHeap), ACall Try.prog (79 : Nat) [Value.string x] (Prod.snd (Prod.snd i)) (Value.string x_2) h' ∧ Value.int IntKind.i64 x_1 = Value.int IntKind.i64 x_1 ∧ ∃ (x : ByteArray), ∃ (h'_1 : AHeap), ACall Try.prog (78 : Nat) [Value.int IntKind.i64 x_1] h' (Value.string x) h'_1 ∧ ByteArray.size x_2 + ByteArray.size x ≤ (9223372036854775807 : Nat) ∧ ByteArray.size (cat (Append.append (brkPre ts (Prod.fst (Prod.fst i))) (topPre2 (Prod.fst (Prod.snd (Prod.fst i))) (Prod.fst (Prod.snd i))))) + ByteArray.size (Append.append x_2 x) ≤ (9223372036854775807 : Nat) ∧ ∃ (j : BF × Nat × AHeap), Value.complex FloatKind.f32 (0 : Nat) (0 : Nat) = Value.complex FloatKind.f32 (0 : Nat) (0 : Nat) ∧ Value.string (Append.append (cat (Append.append (brkPre ts (Prod.fst (Prod.fst i))) (topPre2 (Prod.fst (Prod.snd (Prod.fst i))) (Prod.fst (Prod.snd i))))) (Append.append x_2 x)) = Value.string (cat (Append.append (brkPre ts (Prod.fst (Prod.fst j))) (topPre2 (Prod.fst (Prod.snd (Prod.fst j))) (Prod.fst (Prod.snd j))))) ∧ Value.slice a1 (List.length ts) c1 = Value.slice a1 (List.length ts) c1 ∧ Value.int IntKind.i64 (↑(List.length ts) : Int) = Value.int IntKind.i64 (↑(List.length ts) : Int) ∧ Value.int IntKind.i64 (↑(Prod.fst (Prod.fst i)) : Int) = Value.int IntKind.i64 (↑(Prod.fst (Prod.fst j)) : Int) ∧ Value.slice (Prod.fst (Prod.snd (Prod.snd (Prod.snd (Prod.snd (Prod.fst i)))))) (List.length (Prod.snd (Prod.snd (Prod.snd (Prod.fst (Prod.snd (Prod.fst i))))))) (Prod.snd (Prod.snd (Prod.snd (Prod.snd (Prod.snd (Prod.fst i)))))) = Value.slice (Prod.fst (Prod.snd (Prod.snd (Prod.snd (Prod.snd (Prod.fst j)))))) (List.length (Prod.snd (Prod.snd (Prod.snd (Prod.fst (Prod.snd (Prod.fst j))))))) (Prod.snd (Prod.snd (Prod.snd (Prod.snd (Prod.snd (Prod.fst j)))))) ∧ Value.int IntKind.i64 (↑(List.length (Prod.snd (Prod.snd (Prod.snd (Prod.fst (Prod.snd (Prod.fst i))))))) : Int) = Value.int IntKind.i64 (↑(List.length (Prod.snd (Prod.snd (Prod.snd (Prod.fst (Prod.snd (Prod.fst j))))))) : Int) ∧ Value.int IntKind.i64 (IntKind.wrap IntKind.i64 ((↑(Prod.fst (Prod.snd i)) : Int) + (1 : Int))) = Value.int IntKind.i64 (↑(Prod.fst (Prod.snd j)) : Int) ∧ [Value.slice a1 (List.length ts) c1, Value.slice a2 (List.length rs) c2] = [Value.slice a1 (List.length ts) c1, Value.slice a2 (List.length rs) c2] ∧ Prod.snd (Prod.snd j) = h'_1 ∧ (BI h ts (Prod.fst j) (Prod.snd (Prod.snd j)) ∧ Prod.fst (Prod.snd j) ≤ List.length (Prod.snd (Prod.snd (Prod.snd (Prod.fst (Prod.snd (Prod.fst j))))))) ∧ List.length (Prod.snd (Prod.snd (Prod.snd (Prod.fst (Prod.snd (Prod.fst j)))))) - Prod.fst (Prod.snd j) < List.length (Prod.snd (Prod.snd (Prod.snd (Prod.fst (Prod.snd (Prod.fst i)))))) - Prod.fst (Prod.snd i) ∧ (∀ (k : BF × AHeap), Prod.fst k = Prod.fst j ∧ BI h ts (Prod.fst k) (Prod.snd k) → Prod.fst k = Prod.fst i ∧ BI h ts (Prod.fst k) (Prod.snd k)) ∧ ∀ (v : Value) (h : AHeap), False → False) (∃ (j : BF × AHeap), Value.complex FloatKind.f32 (0 : Nat) (0 : Nat) = Value.complex FloatKind.f32 (0 : Nat) (0 : Nat) ∧ Value.string (cat (Append.append (brkPre ts (Prod.fst (Prod.fst i))) (topPre2 (Prod.fst (Prod.snd (Prod.fst i))) (Prod.fst (Prod.snd i))))) = Value.string (cat (Append.append (brkPre ts (Prod.fst (Prod.fst j))) (topPre2 (Prod.fst (Prod.snd (Prod.fst j))) (List.length (Prod.snd (Prod.snd (Prod.snd (Prod.fst (Prod.snd (Prod.fst j)))))))))) ∧ Value.slice a1 (List.length ts) c1 = Value.slice a1 (List.length ts) c1 ∧ Value.int IntKind.i64 (↑(List.length ts) : Int) = Value.int IntKind.i64 (↑(List.length ts) : Int) ∧ Value.int IntKind.i64 (↑(Prod.fst (Prod.fst i)) : Int) = Value.int IntKind.i64 (↑(Prod.fst (Prod.fst j)) : Int) ∧ [Value.slice a1 (List.length ts) c1, Value.slice a2 (List.length rs) c2] = [Value.slice a1 (List.length ts) c1, Value.slice a2 (List.length rs) c2] ∧ Prod.snd j = Prod.snd (Prod.snd i) ∧ Prod.fst j = Prod.fst i ∧ BI h ts (Prod.fst j) (Prod.snd j))) ∧ True ∧ (True ∧ True) ∧ (True ∧ True) ∧ True) ∧ True) ∧ True ∧ (True ∧ (∀ (i : Nat × AHeap), Prod.fst i ≤ List.length rs ∧ AHeap.Le h (Prod.snd i) ∧ AHeap.wf (Prod.snd i) → bs (decide ((↑(Prod.fst i) : Int) < (↑(List.length rs) : Int))) (∃ (l : Nat), ∃ (r : Nat), a2 = some (Addr.mk l r (some (3 : Nat))) ∧ (0 : Int) ≤ (↑(Prod.fst i) : Int) ∧ (↑(Prod.fst i) : Int) < (↑(List.length rs) : Int) ∧ ∃ (x : Int), ∃ (x_1 : Int), ∃ (x_2 : ByteArray), AHeap.ld (Prod.snd i) l (r + Int.toNat (↑(Prod.fst i) : Int)) (0 : Nat) (3 : Nat) = some [Value.int IntKind.i64 x, Value.int IntKind.i64 x_1, Value.string x_2] ∧ Value.string x_2 = Value.string x_2 ∧ ∃ (x_3 : ByteArray), ∃ (h' : AHeap), ACall Try.prog (130 : Nat) [Value.slice (some (Addr.mk (AHeap.n (Prod.snd i)) (0 : Nat) (some (1 : Nat)))) (2 : Nat) (3 : Nat)] (AHeap.push (Prod.snd i) (AObj.mk [[Value.int IntKind.i64 x], [Value.int IntKind.i64 x_1]] (1 : Nat) true)) (Value.string x_3) h' ∧ Value.string x_2 = Value.string x_2 ∧ ∃ (x : ByteArray), ∃ (h'_1 : AHeap), ACall Try.prog (79 : Nat) [Value.string x_2] h' (Value.string x) h'_1 ∧ ByteArray.size x_3 + ByteArray.size x ≤ (9223372036854775807 : Nat) ∧ ByteArray.size (cat (brkPre2 ts rs (Prod.fst i))) + ByteArray.size (Append.append x_3 x) ≤ (9223372036854775807 : Nat) ∧ ∃ (j : Nat × AHeap), Value.string (Append.append (cat (brkPre2 ts rs (Prod.fst i))) (Append.append x_3 x)) = Value.string (cat (brkPre2 ts rs (Prod.fst j))) ∧ Value.slice a2 (List.length rs) c2 = Value.slice a2 (List.length rs) c2 ∧ Value.int IntKind.i64 (↑(List.length rs) : Int) = Value.int IntKind.i64 (↑(List.length rs) : Int) ∧ Value.int IntKind.i64 (IntKind.wrap IntKind.i64 ((↑(Prod.fst i) : Int) + (1 : Int))) = Value.int IntKind.i64 (↑(Prod.fst j) : Int) ∧ Prod.snd j = h'_1 ∧ (Prod.fst j ≤ List.length rs ∧ AHeap.Le h (Prod.snd j) ∧ AHeap.wf (Prod.snd j)) ∧ List.length rs - Prod.fst j < List.length rs - Prod.fst i ∧ (∀ (k : AHeap), AHeap.Le h k ∧ AHeap.wf k → AHeap.Le h k ∧ AHeap.wf k) ∧ ∀ (v : Value) (h : AHeap), False → False) (∃ (j : AHeap), Value.string (cat (brkPre2 ts rs (Prod.fst i))) = Value.string (cat (brkPre2 ts rs (List.length rs))) ∧ j = Prod.snd i ∧ AHeap.Le h j ∧ AHeap.wf j)) ∧ True ∧ (True ∧ True) ∧ (True ∧ True) ∧ True) ∧ True ∧ True) = _) ?_
    simp only [true_and, and_true]
    refine ⟨⟨?_, ?_, ?_⟩, ?_⟩
    · rintro ⟨i, g⟩ ⟨hi, le, wf⟩
      dsimp only at *
      refine bs_d (fun hlt => ?_) (fun hge => ⟨g, by rw [show i = ts.length by omega], rfl, le, wf⟩)
      obtain ⟨⟨n, b, hs, gs⟩, hat⟩ : ∃ y : ByteArray × Int × List Sh.str.T × List groupSh.T, ts[i]? = some y := ⟨_, List.getElem?_eq_getElem (by omega)⟩
      obtain ⟨l, r, row, ha, _, hrd, hld⟩ := (h1.mono le).elem hat
      obtain ⟨v1, v2, rfl, s1, s2⟩ := rd_topic.1 hrd
      dsimp only at hld s1 s2
      obtain ⟨a3, c3, rfl⟩ := s1.isSlice
      obtain ⟨a4, c4, rfl⟩ := s2.isSlice
      have hz := H.ts _ (List.mem_of_getElem? hat)
      have q0 := H.pre i
      have hn : n.size ≤ 20 := hz.nm
      have hb : 0 ≤ b ∧ b ≤ 1000000000 := hz.bs
      have hhl : hs.length ≤ 20 := hz.hl
      have q1 := vt_size' (t := n) (by omega)
      have i1 : InR (-9223372036854775808) 9223372036854775807 b := by unfold InR; omega
      have i2 : InR (-9223372036854775808) 9223372036854775807 (hs.length : Int) := by unfold InR; omega
      have q2 := vns2_size i1 i2
      obtain ⟨_, g1, A1, le1, w1, rfl⟩ := putText_spec g wf n (by omega)
      have A2 := sizeString_spec g1 a3 hs.length c3
      have lp := AHeap.Le.push w1 ⟨[[.int .i64 b], [.int .i64 (hs.length : Int)]], 1, true⟩
      obtain ⟨_, g3, A3, le3, w3, rfl⟩ := putNums_spec _ (w1.push ⟨[[.int .i64 b], [.int .i64 (hs.length : Int)]], 1, true⟩) _ 2 3 [b, hs.length] (sl_ints [b, hs.length] _ rfl) (ok_ints2 i1 i2) (by omega)
      have lg := le1.trans (lp.trans le3)
      refine ⟨l, r, ha, Int.natCast_nonneg _, hlt, _, _, _, _, _, _, _, _, hld, _, _, A1, _, _, A2, _, _, A3, by omega, by simp only [sz]; omega, ((i, (n, b, hs, gs), a3, c3, a4, c4), 0, g3), congrArg _ (app3 _ _ _ _), rfl, rfl, rfl, rfl, rfl, rfl, ⟨⟨hat, s1.mono lg, s2.mono lg, le.trans lg, w3⟩, Nat.zero_le _⟩, ?_, fun _ _ h => h⟩
      rintro ⟨_, g4⟩ ⟨rfl, B⟩
      obtain ⟨_, s1, s2, le4, wf4⟩ := B
      dsimp only at *
      have A4 := sizeGroup_spec g4 a4 gs.length c4
      have hgl : gs.length ≤ 4 := hz.gl
      have q4 := hz.pre hs.length
      have q5 := cat_size_app (brkPre ts i) (topPre (n, b, hs, gs) hs.length)
      have q6 := nb_size (n := gs.length) (by omega)
      unfold nb at q6
      obtain ⟨_, g5, A5, le5, w5, rfl⟩ := putNum_spec g4 wf4 gs.length (by omega)
      refine ⟨_, _, A4, _, _, A5, ?_, ((i, (n, b, hs, gs), a3, c3, a4, c4), 0, g5), ?_, rfl, rfl, rfl, rfl, rfl, ⟨⟨hat, s1.mono le5, s2.mono le5, le4.trans le5, w5⟩, Nat.zero_le _⟩, ?_, fun _ _ h => h⟩
      · show (cat (brkPre ts i ++ topPre (n, b, hs, gs) hs.length)).size + (vb (foldN gs.length)).size ≤ _
        have q5 : (cat (brkPre ts i ++ topPre (n, b, hs, gs) hs.length)).size = _ := q5
        have q4 : (cat (topPre (n, b, hs, gs) hs.length)).size ≤ 1050 := q4
        omega
      · show Value.string (Append.append (cat (brkPre ts i ++ topPre (n, b, hs, gs) hs.length)) _) = Value.string (cat (brkPre ts i ++ topPre2 (n, b, hs, gs) 0))
        rw [app1]
        unfold topPre2
        simp only [List.take_zero, List.map_nil, List.append_nil, List.append_assoc]; rfl
      · rintro ⟨_, g6⟩ ⟨rfl, B⟩
        obtain ⟨_, _, _, le6, wf6⟩ := B
        dsimp only at *
        have htl := H.tl
        refine ⟨(i + 1, g6), ?_, by rw [wrap_i64 (by omega)]; rfl, rfl, ⟨by dsimp only; omega, le6, wf6⟩, by dsimp only; omega, fun _ h => h, fun _ _ h => h⟩
        dsimp only
        rw [brkPre_step hat]; rfl
    · rintro ⟨⟨i, ⟨n, (b : Int), (hs : List Sh.str.T), (gs : List groupSh.T)⟩, a3, c3, a4, c4⟩, j, g⟩ ⟨B, hj⟩
      obtain ⟨hat, s1, s2, le, wf⟩ := B
      dsimp only at *
      refine bs_d (fun hlt => ?_) (fun hge => ?_)
      · obtain ⟨m, hm⟩ : ∃ y : ByteArray, hs[j]? = some y := ⟨_, List.getElem?_eq_getElem (by omega)⟩
        obtain ⟨l, r, row, ha, _, hrd, hld⟩ := s1.elem hm
        obtain rfl : row = [.string m] := hrd
        have hz := H.ts _ (List.mem_of_getElem? hat)
        have q0 := H.pre i
        have q1 := hz.pre j
        have hml : m.size ≤ 40 := hz.hs m (List.mem_of_getElem? hm)
        have hhl : hs.length ≤ 20 := hz.hl
        have q2 := vt_size' (t := m) (by omega)
        have q3 := cat_size_app (brkPre ts i) (topPre (n, b, hs, gs) j)
        obtain ⟨_, g1, A1, le1, w1, rfl⟩ := putText_spec g wf m (by omega)
        refine ⟨l, r, ha, Int.natCast_nonneg _, hlt, m, hld, _, _, A1, ?_, ((i, (n, b, hs, gs), a3, c3, a4, c4), j + 1, g1), ?_, rfl, rfl, rfl, by rw [wrap_i64 (by omega)]; rfl, rfl, rfl, ⟨⟨hat, s1.mono le1, s2.mono le1, le.trans le1, w1⟩, by dsimp only; omega⟩, by dsimp only; omega, fun _ h => h, fun _ _ h => h⟩
        · show (cat (brkPre ts i ++ topPre (n, b, hs, gs) j)).size + _ ≤ _
          omega
        · show Value.string (Append.append (cat (brkPre ts i ++ topPre (n, b, hs, gs) j)) _) = Value.string (cat (brkPre ts i ++ topPre (n, b, hs, gs) (j + 1)))
          rw [app1, topPre_step (t := (n, b, hs, gs)) hm, ← List.append_assoc]
      · have hj2 : j = hs.length := by omega
        subst hj2
        exact ⟨((i, (n, b, hs, gs), a3, c3, a4, c4), g), rfl, rfl, rfl, rfl, rfl, ⟨hat, s1, s2, le, wf⟩⟩
    · rintro ⟨⟨i, ⟨n, (b : Int), (hs : List Sh.str.T), (gs : List groupSh.T)⟩, a3, c3, a4, c4⟩, j, g⟩ ⟨B, hj⟩
      obtain ⟨hat, s1, s2, le, wf⟩ := B
      dsimp only at *
      refine bs_d (fun hlt => ?_) (fun hge => ?_)
      · obtain ⟨⟨gn, gk⟩, hm⟩ : ∃ y : ByteArray × Int, gs[j]? = some y := ⟨_, List.getElem?_eq_getElem (by omega)⟩
        obtain ⟨l, r, row, ha, _, hrd, hld⟩ := s2.elem hm
        obtain rfl := rd_group.1 hrd
        dsimp only at hld
        have hz := H.ts _ (List.mem_of_getElem? hat)
        have q0 := H.pre i
        have q1 := hz.pre2 j
        obtain ⟨hgn, hgk⟩ := hz.gs _ (List.mem_of_getElem? hm)
        have hgn : gn.size ≤ 20 := hgn
        have hgk : 0 ≤ gk ∧ gk ≤ 2000000000 := hgk
        have hgl : gs.length ≤ 4 := hz.gl
        have q2 := vt_size' (t := gn) (by omega)
        have q4 := nb_size (n := gk) (by omega)
        have q3 := cat_size_app (brkPre ts i) (topPre2 (n, b, hs, gs) j)
        obtain ⟨_, g1, A1, le1, w1, rfl⟩ := putText_spec g wf gn (by omega)
        obtain ⟨_, g2, A2, le2, w2, rfl⟩ := putNum_spec g1 w1 gk (by omega)
        have lg := le1.trans le2
        unfold nb at q4
        refine ⟨l, r, ha, Int.natCast_nonneg _, hlt, _, _, hld, _, _, A1, _, _, A2, by omega, ?_, ((i, (n, b, hs, gs), a3, c3, a4, c4), j + 1, g2), ?_, rfl, rfl, rfl, by rw [wrap_i64 (by omega)]; rfl, rfl, ⟨⟨hat, s1.mono lg, s2.mono lg, le.trans lg, w2⟩, by dsimp only; omega⟩, by dsimp only; omega, fun _ h => h, fun _ _ h => h⟩
        · show (cat (brkPre ts i ++ topPre2 (n, b, hs, gs) j)).size + _ ≤ _
          simp only [sz]; omega
        · show Value.string (Append.append (cat (brkPre ts i ++ topPre2 (n, b, hs, gs) j)) _) = Value.string (cat (brkPre ts i ++ topPre2 (n, b, hs, gs) (j + 1)))
          rw [app2, topPre2_step (t := (n, b, hs, gs)) hm, ← List.append_assoc]
          exact congrArg _ (cat_sub _ _ _ rfl)
      · have hj2 : j = gs.length := by omega
        subst hj2
        exact ⟨((i, (n, b, hs, gs), a3, c3, a4, c4), g), rfl, rfl, rfl, rfl, ⟨hat, s1, s2, le, wf⟩⟩
    · rintro ⟨i, g⟩ ⟨hi, le, wf⟩
      dsimp only at *
      refine bs_d (fun hlt => ?_) (fun hge => ⟨g, by rw [show i = rs.length by omega], rfl, le, wf⟩)
      obtain ⟨⟨c, n, t⟩, hat⟩ : ∃ y : Int × Int × ByteArray, rs[i]? = some y := ⟨_, List.getElem?_eq_getElem (by omega)⟩
      obtain ⟨l, r, row, ha, _, hrd, hld⟩ := (h2.mono le).elem hat
      obtain rfl := rd_reply.1 hrd
      dsimp only at hld
      obtain ⟨hc, hn, ht⟩ := H.rs _ (List.mem_of_getElem? hat)
      have hc : 1 ≤ c ∧ c ≤ 9 := hc
      have hn : 1 ≤ n ∧ n ≤ 1000000000 := hn
      have ht : t.size ≤ 900 := ht
      have q0 := H.pre2 i
      have hrl := H.rl
      have i1 : InR (-9223372036854775808) 9223372036854775807 c := by unfold InR; omega
      have i2 : InR (-9223372036854775808) 9223372036854775807 n := by unfold InR; omega
      have q1 := vns2_size i1 i2
      have q2 := vt_size' (t := t) (by omega)
      have lp := AHeap.Le.push wf ⟨[[.int .i64 c], [.int .i64 n]], 1, true⟩
      obtain ⟨_, g1, A1, le1, w1, rfl⟩ := putNums_spec _ (wf.push ⟨[[.int .i64 c], [.int .i64 n]], 1, true⟩) _ 2 3 [c, n] (sl_ints [c, n] _ rfl) (ok_ints2 i1 i2) (by omega)
      obtain ⟨_, g2, A2, le2, w2, rfl⟩ := putText_spec g1 w1 t (by omega)
      refine ⟨l, r, ha, Int.natCast_nonneg _, hlt, _, _, _, hld, _, _, A1, _, _, A2, by omega, by simp only [sz]; omega, (i + 1, g2), ?_, by rw [wrap_i64 (by omega)]; rfl, rfl, ⟨by dsimp only; omega, le.trans (lp.trans (le1.trans le2)), w2⟩, by dsimp only; omega, fun _ h => h, fun _ _ h => h⟩
      dsimp only
      rw [app4, brkPre2_step hat]
      exact congrArg _ (cat_sub _ _ _ rfl)
  · refine vc_mp (by kernel_rfl : (∃ (x : Int), ∃ (h' : AHeap), ACall Try.prog (129 : Nat) [Value.slice a1 (List.length ts) c1] h (Value.int IntKind.i64 x) h' ∧ ∃ (x_1 : ByteArray), ∃ (h'_1 : AHeap), ACall Try.prog (78 : Nat) [Value.int IntKind.i64 x] h' (Value.string x_1) h'_1 ∧ ∃ (i : Nat × AHeap), Value.complex FloatKind.f32 (0 : Nat) (0 : Nat) = Value.complex FloatKind.f32 (0 : Nat) (0 : Nat) ∧ Value.string x_1 = Value.string (cat (brkPre ts (Prod.fst i))) ∧ Value.slice a1 (List.length ts) c1 = Value.slice a1 (List.length ts) c1 ∧ Value.int IntKind.i64 (↑(List.length ts) : Int) = Value.int IntKind.i64 (↑(List.length ts) : Int) ∧ Value.int IntKind.i64 (0 : Int) = Value.int IntKind.i64 (↑(Prod.fst i) : Int) ∧ [Value.slice a1 (List.length ts) c1, Value.slice a2 (List.length rs) c2] = [Value.slice a1 (List.length ts) c1, Value.slice a2 (List.length rs) c2] ∧ Prod.snd i = h'_1 ∧ (Prod.fst i ≤ List.length ts ∧ AHeap.Le h (Prod.snd i) ∧ AHeap.wf (Prod.snd i)) ∧ (∀ (j : AHeap), AHeap.Le h j ∧ AHeap.wf j → ∃ (x : Int), ∃ (h' : AHeap), ACall Try.prog (133 : Nat) [Value.slice a2 (List.length rs) c2] j (Value.int IntKind.i64 x) h' ∧ ∃ (x_2 : ByteArray), ∃ (h'_2 : AHeap), ACall Try.prog (78 : Nat) [Value.int IntKind.i64 x] h' (Value.string x_2) h'_2 ∧ ByteArray.size (cat (brkPre ts (List.length ts))) + ByteArray.size x_2 ≤ (9223372036854775807 : Nat) ∧ ∃ (i : Nat × AHeap), Value.string (Append.append (cat (brkPre ts (List.length ts))) x_2) = Value.string (cat (brkPre2 ts rs (Prod.fst i))) ∧ Value.slice a2 (List.length rs) c2 = Value.slice a2 (List.length rs) c2 ∧ Value.int IntKind.i64 (↑(List.length rs) : Int) = Value.int IntKind.i64 (↑(List.length rs) : Int) ∧ Value.int IntKind.i64 (0 : Int) = Value.int IntKind.i64 (↑(Prod.fst i) : Int) ∧ Prod.snd i = h'_2 ∧ (Prod.fst i ≤ List.length rs ∧ AHeap.Le h (Prod.snd i) ∧ AHeap.wf (Prod.snd i)) ∧ (∀ (j : AHeap), AHeap.Le h j ∧ AHeap.wf j → Q (Value.string (cat (brkPre2 ts rs (List.length rs)))) j) ∧ ∀ (v : Value) (h : AHeap), False → Q v h) ∧ ∀ (v : Value) (h : AHeap), False → Q v h) = _) ?_
    have A1 := sizeTopic_spec h a1 ts.length c1
    have htl := H.tl
    have hrl := H.rl
    obtain ⟨_, g2, A2, le2, w2, rfl⟩ := putNum_spec h hw ts.length (by omega)
    refine ⟨_, _, A1, _, _, A2, (0, g2), rfl, (congrArg _ (cat_one _).symm), rfl, rfl, rfl, rfl, rfl, ⟨Nat.zero_le _, le2, w2⟩, fun g3 hg3 => ?_, fun _ _ h => h.elim⟩
    have A3 := sizeReply_spec g3 a2 rs.length c2
    obtain ⟨_, g4, A4, le4, w4, rfl⟩ := putNum_spec g3 hg3.2 rs.length (by omega)
    have q0 := H.pre ts.length
    have q1 := nb_size (n := rs.length) (by omega)
    unfold nb at q1
    refine ⟨_, _, A3, _, _, A4, by omega, (0, g4), congrArg _ ?_, rfl, rfl, rfl, rfl, ⟨Nat.zero_le _, hg3.1.trans le4, w4⟩, fun g5 hg5 => HQ _ _ ⟨hg5.1, hg5.2, rfl⟩, fun _ _ h => h.elim⟩
    show _ = cat (brkPre2 ts rs 0)
    rw [app1]
    unfold brkPre2
    simp only [List.take_zero, List.map_nil, List.append_nil]; rfl
end Go.Proofs.Ytdcijleeoihlfaa
