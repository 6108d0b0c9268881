/- P1, P2. -/
import Derived.Test.YtpgfjadjhliohaaGreatV17W4
import Derived.Test.YtpgfjadjhliohaaGreatV17W13
import Derived.Test.YtpgfjadjhliohaaGreatV17P4
section
namespace Go.Dat
open Go.Abs
theorem Dj.nil : Dj [] := fun i j a b _ ha => by cases ha
theorem Dj.cons {A : List (List Nat)} {x : List Nat} (h : Dj A) (d : ∀ a ∈ A, ∀ z ∈ x, z ∉ a) : Dj (x :: A) := by
  intro i j a b hij ha hb z hza hzb
  cases i with
  | zero =>
    cases j with
    | zero => exact hij rfl
    | succ j =>
      simp only [List.getElem?_cons_zero, List.getElem?_cons_succ] at ha hb
      cases ha
      exact d b (List.mem_of_getElem? hb) z hza hzb
  | succ i =>
    cases j with
    | zero =>
      simp only [List.getElem?_cons_zero, List.getElem?_cons_succ] at ha hb
      cases hb
      exact d a (List.mem_of_getElem? ha) z hzb hza
    | succ j =>
      simp only [List.getElem?_cons_succ] at ha hb
      exact h i j a b (by omega) ha hb z hza hzb
theorem dj_seg {n0 n1 n2 n3 n4 l : Nat} {V C N L : List Nat} (h1 : Fresh n0 n1 V) (h2 : Fresh n1 n2 C) (h3 : Fresh n2 n3 N) (h4 : Fresh n3 n4 L) (m1 : n0 ≤ n1) (m2 : n1 ≤ n2) (m3 : n2 ≤ n3) (m4 : n3 ≤ n4) (hl : l < n0 ∨ n4 ≤ l) : Dj [[l], V, C, N, L, []] := by
  have b1 := fun z hz => h1.bd z hz
  have b2 := fun z hz => h2.bd z hz
  have b3 := fun z hz => h3.bd z hz
  have b4 := fun z hz => h4.bd z hz
  refine Dj.cons (Dj.cons (Dj.cons (Dj.cons (Dj.cons (Dj.cons .nil ?_) ?_) ?_) ?_) ?_) ?_
  all_goals
    intro a ha z hz hza
    simp only [List.mem_cons, List.not_mem_nil, or_false] at ha
  · subst ha; cases hza
  · rcases ha with rfl | rfl
    · have := b3 z hz; have := b4 z hza; omega
    · cases hza
  · rcases ha with rfl | rfl | rfl
    · have := b2 z hz; have := b3 z hza; omega
    · have := b2 z hz; have := b4 z hza; omega
    · cases hza
  · rcases ha with rfl | rfl | rfl | rfl
    · have := b1 z hz; have := b2 z hza; omega
    · have := b1 z hz; have := b3 z hza; omega
    · have := b1 z hz; have := b4 z hza; omega
    · cases hza
  · simp only [List.mem_cons, List.not_mem_nil, or_false] at hz
    subst hz
    rcases ha with rfl | rfl | rfl | rfl | rfl
    · have := b1 z hza; omega
    · have := b2 z hza; omega
    · have := b3 z hza; omega
    · have := b4 z hza; omega
    · cases hza
theorem Cpy.sob {s : Sh} (hf : s.flat = true) {h0 h : AHeap} {xs : List s.T} {l c : Nat} {rows : List (List Value)} (C : Cpy s h0 h xs l c rows) : SoB s (E0 h0.n) h (some ⟨l, 0, some s.cells⟩) xs.length c xs [l] :=
  SoB.flat hf (g := h0) (E0.le C.le.n) C.wf E0.wf C.new rfl C.get C.len C.cap C.rd
end Go.Dat
namespace Go.Proofs.YtpgfjadjhliohaaGreat
open Go.Abs Go.Dat
set_option maxRecDepth 100000
set_option maxHeartbeats 8000000
def CopyOk (h h' : AHeap) (vs : List voteSh.T) (cg cs : List changeSh.T) (log : List Sh.str.T) (V : LX voteSh.T) (C N : LX changeSh.T) (L : LX Sh.str.T) : Prop :=
  h.Le h' ∧ h'.wf ∧ V.xs = vs ∧ C.xs = cg ∧ N.xs = cs ∧ L.xs = log ∧ LXB voteSh h.n h' V ∧ LXB changeSh h.n h' C ∧ LXN changeSh h.n h' N ∧ LXB Sh.str h.n h' L ∧ ∀ l, l < h.n ∨ h'.n ≤ l → Dj [[l], V.ids, C.ids, N.ids, L.ids, []]
theorem copyOk_mk {h g1 g2 g3 g4 : AHeap} {vs : List voteSh.T} {cg cs : List changeSh.T} {log : List Sh.str.T} {V : LX voteSh.T} {C N : LX changeSh.T} {L : LX Sh.str.T}
    (l1 : h.Le g1) (l2 : g1.Le g2) (l3 : g2.Le g3) (l4 : g3.Le g4) (w4 : g4.wf) (eV : V.xs = vs) (eC : C.xs = cg) (eN : N.xs = cs) (eL : L.xs = log) (bV : LXB voteSh h.n g1 V) (bC : LXB changeSh g1.n g2 C) (bN : LXN changeSh g2.n g3 N) (bL : LXB Sh.str g3.n g4 L) : CopyOk h g4 vs cg cs log V C N L := by
  have l24 := l2.trans (l3.trans l4)
  refine ⟨l1.trans l24, w4, eV, eC, eN, eL, SoB.kp bV (J := []) (.of_le l24) w4 (by simp), ?_, ?_, ?_, fun l hl => dj_seg bV.fr bC.fr bN.2 bL.fr l1.n l2.n l3.n l4.n hl⟩
  · exact SoB.base (bC.kp (J := []) (.of_le (l3.trans l4)) w4 (by simp)) l1.n
  · have := bN.kp (J := []) (.of_le l4) (by simp)
    exact ⟨this.1, this.2.widen (Nat.le_trans l1.n l2.n) (Nat.le_refl _)⟩
  · exact ⟨E0.le (Nat.le_trans l1.n l24.n), bL.wf, E0.wf, bL.len, bL.fr.widen (Nat.le_trans l1.n (Nat.le_trans l2.n l3.n)) (Nat.le_refl _), bL.at_⟩
def Qmg (a : Prop) := True ∧ True ∧ a
def Qmh (a : List Value) := Value.agg (Array.mk a)
def Qmi (a : Int) := Value.int IntKind.i64 a
def Qmj (a : Option Addr) (b c : Nat) (d : AHeap) := some (Prod.mk (Value.slice a b c) d)
def Qmk := (0 : Nat)
def Qml (a : AHeap) (b : Nat) := some (Addr.mk (AHeap.n a) Qmk (some b))
def Qmm (a : AHeap) (b : Nat) := AHeap.push a (AObj.mk List.nil b true)
def Qmn (a : Nat) := a ≤ 140737488355328
def Qmo (a : Option Addr) (b : List (Sh.T Sh.str)) (c : Nat) := Value.slice a (List.length b) c
def Qmp (a : FuncId) (b : List Value) (c : AHeap) (d : Value) (e : AHeap) := ACall Tryz.prog a b c d e
def Qmq (a b c d : Int) (e : ByteArray) (f : Option Addr) (g h : Nat) := [Qmi a, Qmi b, Qmi c, Qmi d, Value.string e, Value.slice f g h]
def Qmr (a b c d : Int) (e : ByteArray) (f : Option Addr) (g : List (Sh.T changeSh)) (h : Nat) := Qmh (Qmq a b c d e f (List.length g) h)
def Qms (a : Option Addr) (b c : Nat) := [Value.slice a b c]
theorem l13Copy_spec (h : AHeap) (hw : h.wf) (id view top k f v q : Int) (chg : Bool) (vs : List voteSh.T) (cg : List changeSh.T) (op : ByteArray) (cs : List changeSh.T) (log : List Sh.str.T) (a1 : Option Addr) (c1 : Nat) (a2 : Option Addr) (c2 : Nat) (a3 : Option Addr) (c3 : Nat) (a4 : Option Addr) (c4 : Nat)
    (h1 : Sl h voteSh vs (.slice a1 vs.length c1)) (h2 : Sl h changeSh cg (.slice a2 cg.length c2)) (h3 : Sl h changeSh cs (.slice a3 cs.length c3)) (h4 : Sl h Sh.str log (.slice a4 log.length c4)) (n1 : vs.length ≤ 1048576) (s2 : (Sh.sl changeSh).small cg) (s3 : (Sh.sl changeSh).small cs) (n4 : log.length ≤ 1048576) :
    ∃ r h', ACall Tryz.prog 52 [.agg #[.int .i64 id, .int .i64 view, .bool chg, .int .i64 top, .slice a1 vs.length c1, .slice a2 cg.length c2, .int .i64 k, .int .i64 f, .int .i64 v, .int .i64 q, .string op, .slice a3 cs.length c3, .slice a4 log.length c4]] h r h' ∧
      ∃ (V : LX voteSh.T) (C N : LX changeSh.T) (L : LX Sh.str.T), CopyOk h h' vs cg cs log V C N L ∧ r = .agg #[.int .i64 id, .int .i64 view, .bool chg, .int .i64 top, .slice V.a V.xs.length V.c, .slice C.a C.xs.length C.c, .int .i64 k, .int .i64 f, .int .i64 v, .int .i64 q, .string op, .slice N.a N.xs.length N.c, .slice L.a L.xs.length L.c] := by
  obtain ⟨rows1, e1, e2, e3, lo1, p1, g1, e4, K1⟩ := app_shallow (s := voteSh) hw h1
  obtain ⟨_, g2, A2, a2', c2', j2, rfl, B2⟩ := l13CopyChanges_sob g1 K1.wf cg a2 c2 (h2.mono K1.le) s2
  have le2 := B2.le
  have w2 := B2.wf
  obtain ⟨_, g3, A3, le3, w3, a3', c3', j3, rfl, S3, F3⟩ := l13CopySay_spec g2 w2 k f v q op cs a3 c3 (h3.mono (K1.le.trans le2)) s3
  obtain ⟨rows4, f1, f2, f3, lo4, p4, g4, f4, K4⟩ := app_shallow (s := Sh.str) w3 (h4.mono (K1.le.trans (le2.trans le3)))
  refine acall_q fun Q HQ => ?_
  refine acall_vc (fun _ => false) (fun _ => []) (fun _ => .none) mixed Tryz.func52 rfl rfl rfl (Nat.le_of_ble_eq_true rfl) (by (refine vc_mp (by kernel_rfl : (Qmg (Qmg (Qmg True))) = _) ?_; delta Qmg); simp only [and_self]) ?_
  (refine vc_mp (by kernel_rfl : (∃ (xs : List (List Value)), rowsV (Qmm h 5) (Value.slice a1 (List.length vs) c1) = some xs ∧ List.all xs (fun (row : List Value) =>
  decide (List.length row = (5 : Nat)) &&
    List.all row fun (v : Value) =>
      match v with
      | Value.agg cells => false
      | Value.tuple cells => false
      | Value.complex k re im => false
      | Value.chan r => false
      | x => true) = true ∧ Qmn ((Qmk + List.length xs) * 48) ∧ (∃ (a : Option Addr) (n c : Nat) (h' : AHeap), AHeap.app (Qmm h 5) (Value.slice (Qml h 5) Qmk 1) xs 5 = Qmj a n c h' ∧ (∃ (a_1 : Option Addr) (n_1 c_1 : Nat) (h'_1 : AHeap), Qmp 71 (Qms a2 (List.length cg) c2) h' (Value.slice a_1 n_1 c_1) h'_1 ∧ (∃ (x x_1 x_2 x_3 : Int) (x_4 : ByteArray) (a_2 : Option Addr) (n_2 c_2 : Nat) (h' : AHeap), Qmp 34 [Qmr k f v q op a3 cs c3] h'_1 (Qmh (Qmq x x_1 x_2 x_3 x_4 a_2 n_2 c_2)) h' ∧ (∃ (xs : List (List Value)), rowsV (Qmm h' 1) (Qmo a4 log c4) = some xs ∧ List.all xs (fun (row : List Value) =>
  decide (List.length row = (1 : Nat)) &&
    List.all row fun (v : Value) =>
      match v with
      | Value.agg cells => false
      | Value.tuple cells => false
      | Value.complex k re im => false
      | Value.chan r => false
      | x => true) = true ∧ Qmn ((Qmk + List.length xs) * 16) ∧ (∃ (a_3 : Option Addr) (n_3 c_3 : Nat) (h'_2 : AHeap), AHeap.app (Qmm h' 1) (Value.slice (Qml h' 1) Qmk 1) xs 1 = Qmj a_3 n_3 c_3 h'_2 ∧ Q (Qmh [Qmi id, Qmi view, Value.bool chg, Qmi top, Value.slice a n c, Value.slice a_1 n_1 c_1, Qmi x, Qmi x_1, Qmi x_2, Qmi x_3, Value.string x_4, Value.slice a_2 n_2 c_2, Value.slice a_3 n_3 c_3]) h'_2)))))) = _) ?_; delta Qmh Qmi Qmj Qmk Qml Qmm Qmn Qmo Qmp Qmq Qmr Qms)
  exact ⟨rows1, e1, e2, by rw [e3]; omega, _, _, _, g1, e4, _, _, _, _, A2, _, _, _, _, _, _, _, _, _, A3, rows4, f1, f2, by rw [f3]; omega, _, _, _, g4, f4, HQ _ _ ⟨⟨_, _, vs, [lo1]⟩, ⟨a2', c2', cg, j2⟩, ⟨a3', c3', cs, j3⟩, ⟨_, _, log, [lo4]⟩, copyOk_mk K1.le le2 le3 K4.le K4.wf rfl rfl rfl rfl (K1.sob rfl) (B2.base (Nat.le_refl _)) ⟨S3, F3⟩ (K4.sob rfl), rfl⟩⟩
theorem cloneV_lx (h : AHeap) (hw : h.wf) (a : Option Addr) (c : Nat) (xs : List voteSh.T) (hx : Sl h voteSh xs (.slice a xs.length c)) (hn : xs.length ≤ 1048576) :
    ∃ (X : LX voteSh.T) (g : AHeap), ACall Tryz.prog 145 [.slice a xs.length c] h (.slice X.a X.xs.length X.c) g ∧ h.Le g ∧ g.wf ∧ X.xs = xs ∧ LXB voteSh h.n g X := by
  obtain ⟨_, g, A, ⟨rfl, rfl, eg⟩ | ⟨l, c', rows, rfl, C⟩⟩ := cloneVote_spec h hw a c xs hx hn
  · rw [eg] at A
    exact ⟨⟨none, 0, [], []⟩, h, A, .refl _, hw, rfl, SoB.new hw (Nat.le_refl _)⟩
  · exact ⟨⟨_, _, xs, [l]⟩, g, A, C.le, C.wf, rfl, C.sob rfl⟩
theorem cloneS_lx (h : AHeap) (hw : h.wf) (a : Option Addr) (c : Nat) (xs : List Sh.str.T) (hx : Sl h Sh.str xs (.slice a xs.length c)) (hn : xs.length ≤ 1048576) :
    ∃ (X : LX Sh.str.T) (g : AHeap), ACall Tryz.prog 146 [.slice a xs.length c] h (.slice X.a X.xs.length X.c) g ∧ h.Le g ∧ g.wf ∧ X.xs = xs ∧ LXB Sh.str h.n g X := by
  obtain ⟨_, g, A, ⟨rfl, rfl, eg⟩ | ⟨l, c', rows, rfl, C⟩⟩ := cloneStr_spec h hw a c xs hx hn
  · rw [eg] at A
    exact ⟨⟨none, 0, [], []⟩, h, A, .refl _, hw, rfl, SoB.new hw (Nat.le_refl _)⟩
  · exact ⟨⟨_, _, xs, [l]⟩, g, A, C.le, C.wf, rfl, C.sob rfl⟩
theorem cloneReplica_spec (h : AHeap) (hw : h.wf) (id view top k f v q : Int) (chg : Bool) (vs : List voteSh.T) (cg : List changeSh.T) (op : ByteArray) (cs : List changeSh.T) (log : List Sh.str.T) (a1 : Option Addr) (c1 : Nat) (a2 : Option Addr) (c2 : Nat) (a3 : Option Addr) (c3 : Nat) (a4 : Option Addr) (c4 : Nat)
    (h1 : Sl h voteSh vs (.slice a1 vs.length c1)) (h2 : Sl h changeSh cg (.slice a2 cg.length c2)) (h3 : Sl h changeSh cs (.slice a3 cs.length c3)) (h4 : Sl h Sh.str log (.slice a4 log.length c4)) (n1 : vs.length ≤ 1048576) (s2 : (Sh.sl changeSh).small cg) (s3 : (Sh.sl changeSh).small cs) (n4 : log.length ≤ 1048576) :
    ∃ r h', ACall Tryz.prog 107 [.agg #[.int .i64 id, .int .i64 view, .bool chg, .int .i64 top, .slice a1 vs.length c1, .slice a2 cg.length c2, .int .i64 k, .int .i64 f, .int .i64 v, .int .i64 q, .string op, .slice a3 cs.length c3, .slice a4 log.length c4]] h r h' ∧
      ∃ (V : LX voteSh.T) (C N : LX changeSh.T) (L : LX Sh.str.T), CopyOk h h' vs cg cs log V C N L ∧ r = .agg #[.int .i64 id, .int .i64 view, .bool chg, .int .i64 top, .slice V.a V.xs.length V.c, .slice C.a C.xs.length C.c, .int .i64 k, .int .i64 f, .int .i64 v, .int .i64 q, .string op, .slice N.a N.xs.length N.c, .slice L.a L.xs.length L.c] := by
  obtain ⟨V, g1, A1, le1, w1, eV, bV⟩ := cloneV_lx h hw a1 c1 vs h1 n1
  obtain ⟨_, g2, A2, a2', c2', j2, rfl, B2⟩ := cloneChgs_sob g1 w1 cg a2 c2 (h2.mono le1) s2
  have le2 := B2.le
  have w2 := B2.wf
  obtain ⟨_, g3, A3, le3, w3, a3', c3', j3, rfl, S3, F3⟩ := cloneSay_spec g2 w2 k f v q op cs a3 c3 (h3.mono (le1.trans le2)) s3
  obtain ⟨L, g4, A4, le4, w4, eL, bL⟩ := cloneS_lx g3 w3 a4 c4 log (h4.mono (le1.trans (le2.trans le3))) n4
  refine acall_q fun Q HQ => ?_
  refine acall_vc (fun _ => false) (fun r => match r with | 1 => [(0, 0, []), (3, 0, []), (6, 0, []), (9, 0, []), (1, 1, []), (4, 1, []), (7, 1, []), (10, 1, []), (2, 3, [4, 7, 10]), (12, 0, []), (5, 3, [7, 10]), (8, 3, [10]), (11, 3, []), (13, 3, []), (14, 0, []), (15, 3, []), (16, 0, []), (17, 3, []), (18, 0, []), (19, 3, [])] | _ => []) (fun _ => .none) mixed Tryz.func107 rfl rfl rfl (Nat.le_of_ble_eq_true rfl) (by (refine vc_mp (by kernel_rfl : (Qmg (True ∧ True)) = _) ?_; delta Qmg); simp only [and_self]) ?_
  (refine vc_mp (by kernel_rfl : (∃ (a : Option Addr) (n c : Nat) (h' : AHeap), Qmp 145 (Qms a1 (List.length vs) c1) h (Value.slice a n c) h' ∧ Qmo a4 log c4 = Qmo a4 log c4 ∧ Qmr k f v q op a3 cs c3 = Qmr k f v q op a3 cs c3 ∧ Value.slice a2 (List.length cg) c2 = Value.slice a2 (List.length cg) c2 ∧ (∃ (a_1 : Option Addr) (n_1 c_1 : Nat) (h'_1 : AHeap), Qmp 138 (Qms a2 (List.length cg) c2) h' (Value.slice a_1 n_1 c_1) h'_1 ∧ Qmo a4 log c4 = Qmo a4 log c4 ∧ Qmr k f v q op a3 cs c3 = Qmr k f v q op a3 cs c3 ∧ (∃ (x x_1 x_2 x_3 : Int) (x_4 : ByteArray) (a_2 : Option Addr) (n_2 c_2 : Nat) (h' : AHeap), Qmp 97 [Qmr k f v q op a3 cs c3] h'_1 (Qmh (Qmq x x_1 x_2 x_3 x_4 a_2 n_2 c_2)) h' ∧ Qmo a4 log c4 = Qmo a4 log c4 ∧ (∃ (a_3 : Option Addr) (n_3 c_3 : Nat) (h'_2 : AHeap), Qmp 146 [Qmo a4 log c4] h' (Value.slice a_3 n_3 c_3) h'_2 ∧ Q (Qmh [Qmi id, Qmi view, Value.bool chg, Qmi top, Value.slice a n c, Value.slice a_1 n_1 c_1, Qmi x, Qmi x_1, Qmi x_2, Qmi x_3, Value.string x_4, Value.slice a_2 n_2 c_2, Value.slice a_3 n_3 c_3]) h'_2)))) = _) ?_; delta Qmh Qmi Qmo Qmp Qmq Qmr Qms)
  exact ⟨_, _, _, _, A1, rfl, rfl, rfl, _, _, _, _, A2, rfl, rfl, _, _, _, _, _, _, _, _, _, A3, rfl, _, _, _, _, A4, HQ _ _ ⟨V, ⟨a2', c2', cg, j2⟩, ⟨a3', c3', cs, j3⟩, L, copyOk_mk le1 le2 le3 le4 w4 eV rfl rfl eL bV (B2.base (Nat.le_refl _)) ⟨S3, F3⟩ bL, rfl⟩⟩
end Go.Proofs.YtpgfjadjhliohaaGreat
end
section
namespace Go.Dat
open Go.Abs
noncomputable def voteM (id : Int) (st : List voteSh.T × List saySh.T) (k v q : Int) (op : ByteArray) : List voteSh.T × List saySh.T :=
  ((addM st.1 (k, v, q, op, id)).1, bif (addM st.1 (k, v, q, op, id)).2 then st.2 ++ [(k, id, v, q, op, [])] else st.2)
theorem WkOk.n {n0 l : Nat} {g : AHeap} {w : Wk} (W : WkOk n0 l g w) : n0 ≤ g.n := W.V.le.n
def Wk.all (w : Wk) (l : Nat) : List Nat := (w.lists l).flatten
structure Mv (l : Nat) (w w' : Wk) (g g' : AHeap) : Prop where
  kp : Kp (w.all l) g g'
  ids : ∀ z ∈ w'.all l, z ∈ w.all l ∨ g.n ≤ z
theorem Mv.of_le {l : Nat} {w : Wk} {g g' : AHeap} (le : g.Le g') : Mv l w w g g' := ⟨.of_le le, fun z h => .inl h⟩
theorem Mv.trans {l : Nat} {w w' w2 : Wk} {g g' g2 : AHeap} (wf : g.wf) (x : Mv l w w' g g') (y : Mv l w' w2 g' g2) : Mv l w w2 g g2 :=
  ⟨x.kp.drop wf y.kp x.ids, fun z hz => (y.ids z hz).elim (x.ids z) fun h => .inr (Nat.le_trans x.kp.n h)⟩
theorem Mv.set {l : Nat} {w w' : Wk} {g g' : AHeap} {k : Nat} {old new : List Nat} (hk : (w.lists l)[k]? = some old) (e : w'.lists l = (w.lists l).set k new) (kp : Kp old g g') (hi : ∀ z ∈ new, g.n ≤ z ∨ z ∈ old) (o' : Option AObj) : Mv l w w' g (g'.put l o') := by
  have sub : ∀ z ∈ old, z ∈ w.all l := fun z hz => List.mem_flatten.2 ⟨old, List.mem_of_getElem? hk, hz⟩
  refine ⟨(kp.widen sub).trans ((kp_put o').widen fun z hz => ?_), fun z hz => ?_⟩
  · rw [List.mem_singleton.1 hz]
    exact List.mem_flatten.2 ⟨[l], List.mem_cons_self, List.mem_singleton.2 rfl⟩
  · unfold Wk.all at hz
    rw [e] at hz
    obtain ⟨a, ha, hza⟩ := List.mem_flatten.1 hz
    rcases List.mem_or_eq_of_mem_set ha with h | rfl
    · exact .inl (List.mem_flatten.2 ⟨a, h, hza⟩)
    · exact (hi z hza).symm.imp (sub z) (fun h => h)
theorem Mv.setV {l : Nat} {w : Wk} {g g' : AHeap} (V' : LX voteSh.T) (kp : Kp w.votes.ids g g') (hi : ∀ z ∈ V'.ids, g.n ≤ z ∨ z ∈ w.votes.ids) (o' : Option AObj) : Mv l w { w with votes := V' } g (g'.put l o') :=
  Mv.set (k := 1) (old := w.votes.ids) (new := V'.ids) rfl rfl kp hi o'
theorem Mv.setL {l : Nat} {w : Wk} {g g' : AHeap} (L' : LX Sh.str.T) (kp : Kp w.log.ids g g') (hi : ∀ z ∈ L'.ids, g.n ≤ z ∨ z ∈ w.log.ids) (o' : Option AObj) : Mv l w { w with log := L' } g (g'.put l o') :=
  Mv.set (k := 4) (old := w.log.ids) (new := L'.ids) rfl rfl kp hi o'
theorem Mv.setS {l : Nat} {w : Wk} {g g' : AHeap} (S' : LX saySh.T) (kp : Kp w.says.ids g g') (hi : ∀ z ∈ S'.ids, g.n ≤ z ∨ z ∈ w.says.ids) (o' : Option AObj) : Mv l w { w with says := S' } g (g'.put l o') :=
  Mv.set (k := 5) (old := w.says.ids) (new := S'.ids) rfl rfl kp hi o'
theorem Mv.num {l : Nat} {w w' : Wk} {g : AHeap} (e : w'.lists l = w.lists l) (o' : Option AObj) : Mv l w w' g (g.put l o') := by
  refine ⟨(kp_put o').widen fun z hz => ?_, fun z hz => .inl (by unfold Wk.all at *; rw [e] at hz; exact hz)⟩
  rw [List.mem_singleton.1 hz]
  exact List.mem_flatten.2 ⟨[l], List.mem_cons_self, List.mem_singleton.2 rfl⟩
theorem WkOk.say {n0 l : Nat} {g0 g : AHeap} {w : Wk} (W : WkOk n0 l g0 w) (le : g0.Le g) (wg : g.wf) {k f v q : Int} {op : ByteArray} {cs : List changeSh.T} {a : Option Addr} {c : Nat} {js : List Nat} (sn : Sn g changeSh cs (.slice a cs.length c) js) (fj : Fresh g0.n g.n js) :
    ∃ (S' : LX saySh.T) (g2 : AHeap), S'.xs = w.says.xs ++ [(k, f, v, q, op, cs)] ∧
      (g.push ⟨[[.int .i64 k, .int .i64 f, .int .i64 v, .int .i64 q, .string op, .slice a cs.length c]], 6, true⟩).app (.slice w.says.a w.says.xs.length w.says.c) [[.int .i64 k, .int .i64 f, .int .i64 v, .int .i64 q, .string op, .slice a cs.length c]] 6 = some (.slice S'.a S'.xs.length S'.c, g2) ∧
      g2.wr l 0 13 [.slice S'.a S'.xs.length S'.c] = some (g2.put l (some ⟨[({ w with says := S' } : Wk).row], 14, true⟩)) ∧ WkOk n0 l (g2.put l (some ⟨[({ w with says := S' } : Wk).row], 14, true⟩)) { w with says := S' } ∧ Mv l w { w with says := S' } g0 (g2.put l (some ⟨[({ w with says := S' } : Wk).row], 14, true⟩)) := by
  have lp := AHeap.Le.push wg ⟨[[.int .i64 k, .int .i64 f, .int .i64 v, .int .i64 q, .string op, .slice a cs.length c]], 6, true⟩
  have wp := wg.push ⟨[[.int .i64 k, .int .i64 f, .int .i64 v, .int .i64 q, .string op, .slice a cs.length c]], 6, true⟩
  have W3 := W.grow (le.trans lp) wp
  obtain ⟨l2, g2, ids2, e6, B2, k2, w2, hi⟩ := SoB.app' (x := (k, f, v, q, op, cs)) W3.S (rnSay (sn.kp (J := []) (.of_le lp) (by simp))) (fj.widen W.n lp.n) (fun z hz hj => by have h1 := (W.S.fr.bd z hz).2; have h2 := (fj.bd z hj).1; omega)
  have el : ((show List saySh.T from w.says.xs) ++ [(k, f, v, q, op, cs)]).length = w.says.xs.length + 1 := by simp
  rw [← el] at e6 B2
  have kp : Kp w.says.ids g0 g2 := (Kp.of_le (le.trans lp)).trans k2
  have hi' : ∀ z ∈ ids2, g0.n ≤ z ∨ z ∈ w.says.ids := fun z hz => by
    rcases hi z hz with h | h | h
    · left; rw [h]; exact (le.trans lp).n
    · exact .inr h
    · exact .inl (fj.bd z h).1
  have WS := W.setS ⟨some ⟨l2, 0, some 6⟩, 0, (show List saySh.T from w.says.xs) ++ [(k, f, v, q, op, cs)], ids2⟩ B2 kp hi'
  exact ⟨⟨some ⟨l2, 0, some 6⟩, 0, (show List saySh.T from w.says.xs) ++ [(k, f, v, q, op, cs)], ids2⟩, g2, rfl, e6, wk_wr (W.get (k := 5) rfl (by decide) kp) rfl (by simp), WS, Mv.setS ⟨some ⟨l2, 0, some 6⟩, 0, (show List saySh.T from w.says.xs) ++ [(k, f, v, q, op, cs)], ids2⟩ kp hi' _⟩
end Go.Dat
namespace Go.Proofs.YtpgfjadjhliohaaGreat
open Go.Abs Go.Dat
set_option maxRecDepth 100000
set_option maxHeartbeats 8000000
def Qmt (a : AHeap) (b c : Nat) (d : List Value) (e : Prop) := AHeap.ld a b Qmk c 1 = some d ∧ e
def Qmu (a : AHeap) (b : List (List Value)) := AHeap.push a (AObj.mk b 3 true)
def Qmv := [Value.slice none Qmk Qmk, Value.bool false, Qmi (Int.ofNat Qmk)]
def Qmw (a b c : Int) (d : ByteArray) (e : Int) := Qmh [Qmi a, Qmi b, Qmi c, Value.string d, Qmi e]
theorem sAdd_spec {n0 l : Nat} {g : AHeap} {w : Wk} (W : WkOk n0 l g w) (hv : w.votes.xs.length ≤ 400) (k v q f : Int) (op : ByteArray) :
    ∃ r g', ACall Tryz.prog 53 [.pointer (some ⟨l, 0, some 0⟩), .agg #[.int .i64 k, .int .i64 v, .int .i64 q, .string op, .int .i64 f]] g r g' ∧ ∃ V' : LX voteSh.T, r = .bool (addM w.votes.xs (k, v, q, op, f)).2 ∧ V'.xs = (addM w.votes.xs (k, v, q, op, f)).1 ∧ WkOk n0 l g' { w with votes := V' } ∧ Mv l w { w with votes := V' } g g' := by
  refine acall_q fun Q HQ => ?_
  refine acall_vc (fun t => t == 5) (fun r => match r with | 1 => [(7, 2, []), (0, 0, []), (1, 0, []), (2, 0, []), (3, 0, []), (4, 1, []), (5, 1, []), (6, 3, [7]), (8, 3, [])] | _ => []) (fun _ => .none) mixed Tryz.func53 rfl rfl rfl (Nat.le_of_ble_eq_true rfl) (by (refine vc_mp (by kernel_rfl : (Qmg (Qmg True ∧ True ∧ True)) = _) ?_; delta Qmg); simp only [and_self]) ?_
  (refine vc_mp (by kernel_rfl : (∃ (a : Option Addr) (n c : Nat), Qmt (Qmu g [Qmv]) l 4 (Qms a n c) (∃ (a_1 : Option Addr) (n_1 c_1 : Nat) (x : Bool) (x_1 : Int) (h' : AHeap), Qmp 104 [Value.slice a n c, Qmw k v q op f] (Qmu g [Qmv]) (Qmh [Value.slice a_1 n_1 c_1, Value.bool x, Qmi x_1]) h' ∧ (AHeap.get h' (AHeap.n g) = AHeap.get (Qmu g [Qmv]) (AHeap.n g) ∧ AHeap.n (Qmu g [Qmv]) ≤ AHeap.n h') ∧ (∃ (h'_1 : AHeap), AHeap.wr h' (AHeap.n g) Qmk Qmk [Value.slice a_1 n_1 c_1, Value.bool x, Qmi x_1] = some h'_1 ∧ (∃ (x : Int), Qmt h'_1 (AHeap.n g) 2 [Qmi x] (bs (decide (x = 0)) (∃ (a : Option Addr) (n c : Nat), Qmt h'_1 (AHeap.n g) Qmk (Qms a n c) (∃ (h' : AHeap), AHeap.wr h'_1 l Qmk 4 (Qms a n c) = some h' ∧ (∃ (x : Bool), Qmt h' (AHeap.n g) 1 [Value.bool x] (Q (Value.bool x) h')))) (∃ (x : Bool), Qmt h'_1 (AHeap.n g) 1 [Value.bool x] (Q (Value.bool x) h'_1))))))) = _) ?_; delta Qmh Qmi Qmk Qmp Qms Qmt Qmu Qmv Qmw)
  have lp := AHeap.Le.push W.wf ⟨[[.slice none 0 0, .bool false, .int .i64 (Int.ofNat 0)]], 3, true⟩
  have wp := W.wf.push ⟨[[.slice none 0 0, .bool false, .int .i64 (Int.ofNat 0)]], 3, true⟩
  have W1 := W.grow lp wp
  have ll := W.wf.lt W.obj
  obtain ⟨_, g1, A, le, w1, hc⟩ := l11Add_spec _ wp w.votes.xs w.votes.a w.votes.c W1.V.sn.so.sl k v q f op hv
  have hg := le.get _ _ (AHeap.get_push_eq (h := g) (o := ⟨[[.slice none 0 0, .bool false, .int .i64 (Int.ofNat 0)]], 3, true⟩))
  have hlt : g.n < g1.n := w1.lt hg
  have fin : ∀ row : List Value, g.Le (g1.put g.n (some ⟨[row], 3, true⟩)) ∧ (g1.put g.n (some ⟨[row], 3, true⟩)).wf := fun row => ⟨(lp.trans le).put (W.wf g.n (Nat.le_refl _)) _, w1.put hlt _⟩
  rcases hc with ⟨o, rfl, rfl, B, hx⟩ | ⟨rfl, hx⟩
  · obtain ⟨leA, wA⟩ := fin [.slice o.a o.xs.length o.c, .bool (addM w.votes.xs (k, v, q, op, f)).2, .int .i64 0]
    have B' : LXB voteSh n0 _ ⟨o.a, o.c, o.xs, o.ids⟩ := SoB.kp (B.base (Nat.le_trans W.n lp.n)) (kp_put (y := g.n) _) wA (fun z hz h => by
      have h1 := (B.fr.bd z hz).1
      have h2 : z = g.n := by simpa using h
      have h3 : g.n + 1 ≤ z := h1
      omega)
    have hi' : ∀ z ∈ o.ids, g.n ≤ z ∨ z ∈ w.votes.ids := fun z hz => .inl (by have h1 : g.n + 1 ≤ z := (B.fr.bd z hz).1; omega)
    have WS := W.setV ⟨o.a, o.c, o.xs, o.ids⟩ B' (.of_le leA) hi'
    refine ⟨_, _, _, W1.ld rfl (by decide), _, _, _, _, _, _, A, ⟨hg.trans AHeap.get_push_eq.symm, le.n⟩, _, wr_field hg rfl (by simp), _, by rw [AHeap.ld, AHeap.get_put_eq]; rfl, bs_d (fun _ => ?_) (fun e => absurd rfl e)⟩
    refine ⟨_, _, _, by rw [AHeap.ld, AHeap.get_put_eq]; rfl, _, wk_wr (leA.get _ _ W.obj) rfl (by simp), _, ?_, HQ _ _ ⟨⟨o.a, o.c, o.xs, o.ids⟩, rfl, hx, WS, Mv.setV ⟨o.a, o.c, o.xs, o.ids⟩ (.of_le leA) hi' _⟩⟩
    rw [AHeap.ld, AHeap.get_put_ne (by omega), AHeap.get_put_eq]; rfl
  · obtain ⟨leA, wA⟩ := fin [.slice none 0 0, .bool false, .int .i64 9]
    refine ⟨_, _, _, W1.ld rfl (by decide), _, _, _, _, _, _, A, ⟨hg.trans AHeap.get_push_eq.symm, le.n⟩, _, wr_field hg rfl (by simp), _, by rw [AHeap.ld, AHeap.get_put_eq]; rfl, bs_d (fun e => absurd e (by decide)) (fun _ => ?_)⟩
    refine ⟨_, by rw [AHeap.ld, AHeap.get_put_eq]; rfl, HQ _ _ ⟨w.votes, by rw [hx], by rw [hx], W.grow leA wA, .of_le leA⟩⟩
theorem iAdd_spec {n0 l : Nat} {g : AHeap} {w : Wk} (W : WkOk n0 l g w) (hv : w.votes.xs.length ≤ 400) (k v q f : Int) (op : ByteArray) :
    ∃ r g', ACall Tryz.prog 112 [.pointer (some ⟨l, 0, some 0⟩), .agg #[.int .i64 k, .int .i64 v, .int .i64 q, .string op, .int .i64 f]] g r g' ∧ ∃ V' : LX voteSh.T, r = .bool (addM w.votes.xs (k, v, q, op, f)).2 ∧ V'.xs = (addM w.votes.xs (k, v, q, op, f)).1 ∧ WkOk n0 l g' { w with votes := V' } ∧ Mv l w { w with votes := V' } g g' := by
  refine acall_q fun Q HQ => ?_
  refine acall_vc (fun _ => false) (fun r => match r with | 1 => [(0, 0, []), (1, 0, []), (2, 0, []), (3, 0, []), (4, 1, []), (5, 1, []), (6, 3, []), (7, 0, []), (8, 0, []), (9, 0, []), (10, 0, []), (11, 0, []), (12, 0, []), (13, 0, [])] | _ => []) (fun _ => .none) mixed Tryz.func112 rfl rfl rfl (Nat.le_of_ble_eq_true rfl) (by (refine vc_mp (by kernel_rfl : (Qmg (Qmg True)) = _) ?_; delta Qmg); simp only [and_self]) ?_
  (refine vc_mp (by kernel_rfl : (∃ (a : Option Addr) (n c : Nat), Qmt g l 4 (Qms a n c) (∃ (a_1 : Option Addr) (n_1 c_1 : Nat) (x : Bool) (x_1 : Int) (h' : AHeap), Qmp 152 [Value.slice a n c, Qmw k v q op f] g (Value.tuple (Array.mk [Value.slice a_1 n_1 c_1, Value.bool x, Qmi x_1])) h' ∧ (∃ (h'_1 : AHeap), AHeap.wr h' l Qmk 4 (Qms a_1 n_1 c_1) = some h'_1 ∧ Q (Value.bool x) h'_1))) = _) ?_; delta Qmh Qmi Qmk Qmp Qms Qmt Qmw)
  obtain ⟨_, _, A, o, cd, rfl, B, hx, rfl, hn, hk, hid⟩ := voteAdd_spec (E0 n0) ⟨w.votes.a, w.votes.c, w.votes.xs, w.votes.ids, g⟩ W.V k v q f op hv
  have kp : Kp w.votes.ids g o.g := ⟨hn, hk⟩
  exact ⟨_, _, _, W.ld rfl (by decide), _, _, _, _, _, _, A, _, wk_wr (W.get (k := 1) rfl (by decide) kp) rfl (by simp), HQ _ _ ⟨⟨o.a, o.c, o.xs, o.ids⟩, rfl, hx, W.setV ⟨o.a, o.c, o.xs, o.ids⟩ B kp hid, Mv.setV ⟨o.a, o.c, o.xs, o.ids⟩ kp hid _⟩⟩
def Qmx := Value.tuple (Array.mk List.nil)
def Qmy (a : AHeap) (b : List (List Value)) := AHeap.push a (AObj.mk b 6 true)
def Qmz (a : List (List Value)) := List.all a (fun (row : List Value) =>
  decide (List.length row = (6 : Nat)) &&
    List.all row fun (v : Value) =>
      match v with
      | Value.agg cells => false
      | Value.tuple cells => false
      | Value.complex k re im => false
      | Value.chan r => false
      | x => true)
def Qn0 (a : AHeap) := Value.slice (Qml a 6) 1 2
theorem iSend_spec {n0 l : Nat} {g : AHeap} {w : Wk} (W : WkOk n0 l g w) (hs : w.says.xs.length ≤ 1000) (k f v q : Int) (op : ByteArray) (cs : List changeSh.T) (a : Option Addr) (c : Nat) (hx : Sl g changeSh cs (.slice a cs.length c)) (sm : (Sh.sl changeSh).small cs) :
    ∃ r g', ACall Tryz.prog 113 [.pointer (some ⟨l, 0, some 0⟩), .agg #[.int .i64 k, .int .i64 f, .int .i64 v, .int .i64 q, .string op, .slice a cs.length c]] g r g' ∧ ∃ S' : LX saySh.T, r = .tuple #[] ∧ S'.xs = w.says.xs ++ [(k, f, v, q, op, cs)] ∧ WkOk n0 l g' { w with says := S' } ∧ Mv l w { w with says := S' } g g' := by
  refine acall_q fun Q HQ => ?_
  refine acall_vc (fun _ => false) (fun r => match r with | 1 => [(0, 0, []), (1, 0, []), (2, 0, []), (3, 0, []), (4, 1, []), (5, 1, []), (6, 3, [4]), (7, 3, [4]), (8, 3, []), (9, 0, []), (10, 0, []), (11, 3, [])] | _ => []) (fun _ => .none) mixed Tryz.func113 rfl rfl rfl (Nat.le_of_ble_eq_true rfl) (by refine vc_mp (by kernel_rfl : (True ∧ True) = _) ?_; simp only [and_self]) ?_
  (refine vc_mp (by kernel_rfl : (∃ (a_1 : Option Addr) (n c_1 : Nat), Qmt g l 13 (Qms a_1 n c_1) (∃ (x x_1 x_2 x_3 : Int) (x_4 : ByteArray) (a_2 : Option Addr) (n_1 c_2 : Nat) (h' : AHeap), Qmp 97 [Qmr k f v q op a cs c] g (Qmh (Qmq x x_1 x_2 x_3 x_4 a_2 n_1 c_2)) h' ∧ (∃ (a : Option Addr) (n_2 c : Nat), Qmt h' l 13 (Qms a n_2 c) (Value.slice a n_2 c = Value.slice a_1 n c_1)) ∧ (∃ (a : Option Addr) (n_2 c : Nat), Qmt (Qmy h' [Qmq x x_1 x_2 x_3 x_4 a_2 n_1 c_2]) l 13 (Qms a n_2 c) (Value.slice a n_2 c = Value.slice a_1 n c_1)) ∧ (∃ (xs : List (List Value)), rowsV (Qmy h' [Qmq x x_1 x_2 x_3 x_4 a_2 n_1 c_2]) (Qn0 h') = some xs ∧ Qmz xs = true ∧ Qmn ((n + List.length xs) * 72) ∧ (∃ (a : Option Addr) (n_2 c : Nat) (h'_1 : AHeap), AHeap.app (Qmy h' [Qmq x x_1 x_2 x_3 x_4 a_2 n_1 c_2]) (Value.slice a_1 n c_1) xs 6 = Qmj a n_2 c h'_1 ∧ (∃ (h' : AHeap), AHeap.wr h'_1 l Qmk 13 (Qms a n_2 c) = some h' ∧ Q Qmx h'))))) = _) ?_; delta Qmh Qmi Qmj Qmk Qml Qmn Qmp Qmq Qmr Qms Qmt Qmx Qmy Qmz Qn0)
  obtain ⟨_, g1, A, le, w1, a', c', js, rfl, sn, fr⟩ := cloneSay_spec g W.wf k f v q op cs a c hx sm
  have lp := AHeap.Le.push w1 ⟨[[.int .i64 k, .int .i64 f, .int .i64 v, .int .i64 q, .string op, .slice a' cs.length c']], 6, true⟩
  have wp := w1.push ⟨[[.int .i64 k, .int .i64 f, .int .i64 v, .int .i64 q, .string op, .slice a' cs.length c']], 6, true⟩
  obtain ⟨S', g2, eS, e6, e7, WS, M⟩ := W.say le w1 (k := k) (f := f) (v := v) (q := q) (op := op) sn fr
  exact ⟨_, _, _, W.ld rfl (by decide), _, _, _, _, _, _, _, _, _, A, ⟨_, _, _, (W.grow le w1).ld rfl (by decide), rfl⟩, ⟨_, _, _, (W.grow (le.trans lp) wp).ld rfl (by decide), rfl⟩, _, rowsV_push, rfl, by simp only [List.length_cons, List.length_nil]; omega, _, _, _, g2, e6, _, e7, HQ _ _ ⟨S', rfl, eS, WS, M⟩⟩
def Qn1 (a : Nat) := Value.pointer (some (Addr.mk a Qmk (some Qmk)))
theorem sVote_spec {n0 l : Nat} {g : AHeap} {w : Wk} (W : WkOk n0 l g w) (hv : w.votes.xs.length ≤ 400) (hs : w.says.xs.length ≤ 1000) (k v q : Int) (op : ByteArray) :
    ∃ r g', ACall Tryz.prog 63 [.pointer (some ⟨l, 0, some 0⟩), .int .i64 k, .int .i64 v, .int .i64 q, .string op] g r g' ∧ ∃ (V' : LX voteSh.T) (S' : LX saySh.T), r = .tuple #[] ∧ (V'.xs, S'.xs) = voteM w.id (w.votes.xs, w.says.xs) k v q op ∧ WkOk n0 l g' { w with votes := V', says := S' } ∧ Mv l w { w with votes := V', says := S' } g g' := by
  refine acall_q fun Q HQ => ?_
  refine acall_vc (fun _ => false) (fun r => match r with | 1 => [(0, 0, []), (1, 0, []), (2, 0, []), (3, 0, []), (5, 0, []), (6, 0, []), (7, 0, []), (8, 0, []), (9, 0, []), (11, 0, []), (12, 0, []), (13, 0, []), (4, 1, []), (10, 1, []), (14, 0, []), (15, 3, [4]), (16, 3, []), (17, 0, []), (18, 0, []), (19, 3, [])] | _ => []) (fun _ => .none) mixed Tryz.func63 rfl rfl rfl (Nat.le_of_ble_eq_true rfl) (by (refine vc_mp (by kernel_rfl : (Qmg True) = _) ?_; delta Qmg); simp only [and_self]) ?_
  (refine vc_mp (by kernel_rfl : (∃ (x : Int), Qmt g l Qmk [Qmi x] (∃ (x_1 : Bool) (h' : AHeap), Qmp 53 [Qn1 l, Qmw k v q op x] g (Value.bool x_1) h' ∧ bs x_1 (∃ (a : Option Addr) (n c : Nat), Qmt h' l 13 (Qms a n c) (∃ (x : Int), Qmt h' l Qmk [Qmi x] ((∃ (a_1 : Option Addr) (n_1 c_1 : Nat), Qmt (Qmy h' [Qmq k x v q op none Qmk Qmk]) l 13 (Qms a_1 n_1 c_1) (Value.slice a_1 n_1 c_1 = Value.slice a n c)) ∧ (∃ (xs : List (List Value)), rowsV (Qmy h' [Qmq k x v q op none Qmk Qmk]) (Qn0 h') = some xs ∧ Qmz xs = true ∧ Qmn ((n + List.length xs) * 72) ∧ (∃ (a_1 : Option Addr) (n_1 c_1 : Nat) (h'_1 : AHeap), AHeap.app (Qmy h' [Qmq k x v q op none Qmk Qmk]) (Value.slice a n c) xs 6 = Qmj a_1 n_1 c_1 h'_1 ∧ (∃ (h' : AHeap), AHeap.wr h'_1 l Qmk 13 (Qms a_1 n_1 c_1) = some h' ∧ Q Qmx h')))))) (Q Qmx h'))) = _) ?_; delta Qmh Qmi Qmj Qmk Qml Qmn Qmp Qmq Qms Qmt Qmw Qmx Qmy Qmz Qn0 Qn1)
  obtain ⟨_, g1, A, V', rfl, eV, W1, M1⟩ := sAdd_spec W hv k v q w.id op
  have lp := AHeap.Le.push W1.wf ⟨[[.int .i64 k, .int .i64 w.id, .int .i64 v, .int .i64 q, .string op, .slice none 0 0]], 6, true⟩
  have wp := W1.wf.push ⟨[[.int .i64 k, .int .i64 w.id, .int .i64 v, .int .i64 q, .string op, .slice none 0 0]], 6, true⟩
  refine ⟨_, W.ld rfl (by decide), _, _, A, bs_b (fun e => ?_) (fun e => HQ _ _ ⟨V', w.says, rfl, by unfold voteM; rw [eV]; dsimp only; rw [e]; rfl, W1, M1⟩)⟩
  obtain ⟨S', g2, eS, e6, e7, WS, M2⟩ := W1.say (.refl _) W1.wf (k := k) (f := w.id) (v := v) (q := q) (op := op) (Sn.nil (s := changeSh)) .nil
  exact ⟨_, _, _, W1.ld rfl (by decide), _, W1.ld rfl (by decide), ⟨_, _, _, (W1.grow lp wp).ld rfl (by decide), rfl⟩, _, rowsV_push, rfl, by simp only [List.length_cons, List.length_nil]; omega, _, _, _, g2, e6, _, e7, HQ _ _ ⟨V', S', rfl, by unfold voteM; rw [eV, eS]; dsimp only; rw [e]; rfl, WS, M1.trans W.wf M2⟩⟩
theorem iVote_spec {n0 l : Nat} {g : AHeap} {w : Wk} (W : WkOk n0 l g w) (hv : w.votes.xs.length ≤ 400) (hs : w.says.xs.length ≤ 1000) (k v q : Int) (op : ByteArray) :
    ∃ r g', ACall Tryz.prog 126 [.pointer (some ⟨l, 0, some 0⟩), .int .i64 k, .int .i64 v, .int .i64 q, .string op] g r g' ∧ ∃ (V' : LX voteSh.T) (S' : LX saySh.T), r = .tuple #[] ∧ (V'.xs, S'.xs) = voteM w.id (w.votes.xs, w.says.xs) k v q op ∧ WkOk n0 l g' { w with votes := V', says := S' } ∧ Mv l w { w with votes := V', says := S' } g g' := by
  refine acall_q fun Q HQ => ?_
  refine acall_vc (fun _ => false) (fun _ => []) (fun _ => .none) mixed Tryz.func126 rfl rfl rfl (Nat.le_of_ble_eq_true rfl) (by (refine vc_mp (by kernel_rfl : (Qmg True) = _) ?_; delta Qmg); simp only [and_self]) ?_
  (refine vc_mp (by kernel_rfl : (∃ (x : Int), Qmt g l Qmk [Qmi x] (∃ (x_1 : Bool) (h' : AHeap), Qmp 112 [Qn1 l, Qmw k v q op x] g (Value.bool x_1) h' ∧ bs x_1 (∃ (x : Int), Qmt h' l Qmk [Qmi x] (∃ (h'_1 : AHeap), Qmp 113 [Qn1 l, Qmh (Qmq k x v q op none Qmk Qmk)] h' Qmx h'_1 ∧ Q Qmx h'_1)) (Q Qmx h'))) = _) ?_; delta Qmh Qmi Qmk Qmp Qmq Qmt Qmw Qmx Qn1)
  obtain ⟨_, g1, A, V', rfl, eV, W1, M1⟩ := iAdd_spec W hv k v q w.id op
  refine ⟨_, W.ld rfl (by decide), _, _, A, bs_b (fun e => ?_) (fun e => HQ _ _ ⟨V', w.says, rfl, by unfold voteM; rw [eV]; dsimp only; rw [e]; rfl, W1, M1⟩)⟩
  obtain ⟨_, g2, A2, S', rfl, eS, W2, M2⟩ := iSend_spec W1 hs k w.id v q op [] none 0 (Sn.nil (s := changeSh)).so.sl ⟨Nat.zero_le _, fun _ h => by cases h⟩
  exact ⟨_, W1.ld rfl (by decide), _, A2, HQ _ _ ⟨V', S', rfl, by unfold voteM; rw [eV, eS]; dsimp only; rw [e]; rfl, W2, M1.trans W.wf M2⟩⟩
end Go.Proofs.YtpgfjadjhliohaaGreat
end
