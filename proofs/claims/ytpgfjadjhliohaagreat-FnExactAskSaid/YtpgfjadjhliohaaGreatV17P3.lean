/- P3. -/
import Derived.Test.YtpgfjadjhliohaaGreatV17P2
import Derived.Test.YtpgfjadjhliohaaGreatV17W10
namespace Go.Dat
open Go.Abs
abbrev VS := List voteSh.T × List saySh.T
noncomputable def stepM (id view : Int) (st : VS) (seq : Int) : VS := match provedM st.1 2 view seq with
  | none => st
  | some op => voteM id st 3 view seq op
noncomputable def followM (id view : Int) (st : VS) : Nat → VS
  | 0 => st
  | n + 1 => stepM id view (followM id view st n) ((n : Int) + 1)
noncomputable def logM (vs : List voteSh.T) : Nat → List ByteArray → List ByteArray
  | 0, log => log
  | n + 1, log => match decM vs ((log.length : Int) + 1) 8 with
    | none => log
    | some op => logM vs n (log ++ [op])
theorem provedM_size {l : List voteSh.T} (H : VotsOk l) {k v q : Int} {op : ByteArray} (h : provedM l k v q = some op) : op.size ≤ 120 := by
  have h3 := provedM_out h
  cases hc : votersM l k v q op with
  | nil => rw [hc] at h3; simp at h3
  | cons x xs =>
    have hm : x ∈ votersM l k v q op := by rw [hc]; exact List.mem_cons_self
    unfold votersM at hm
    exact (vots_mem H (mem_upP.1 hm).2.2).2.2.2.1
theorem decM_size {l : List voteSh.T} (H : VotsOk l) {q : Int} {op : ByteArray} : ∀ {n : Nat}, decM l q n = some op → op.size ≤ 120
  | 0, h => by cases h
  | n + 1, h => by
    rw [decM] at h
    cases hd : decM l q n with
    | some o => rw [hd] at h; cases h; exact decM_size H hd
    | none => rw [hd] at h; exact provedM_size H h
theorem voteM_ok {id : Int} {st : VS} {k v q : Int} {op : ByteArray} (H : VotsOk st.1) (hy : VotOk k v q op id) : VotsOk (voteM id st k v q op).1 := addM_ok H hy
theorem voteM_len {id : Int} {st : VS} {k v q : Int} {op : ByteArray} : (voteM id st k v q op).2.length ≤ st.2.length + 1 := by
  unfold voteM
  dsimp only
  cases (addM st.1 (k, v, q, op, id)).2 with
  | true => rw [cond_true, List.length_append]; exact Nat.le_refl _
  | false => rw [cond_false]; omega
theorem stepM_ok {id view seq : Int} {st : VS} (H : VotsOk st.1) (h1 : InR 0 3 id) (h2 : InR 0 7 view) (h3 : InR 1 6 seq) : VotsOk (stepM id view st seq).1 ∧ (stepM id view st seq).2.length ≤ st.2.length + 1 := by
  unfold stepM
  cases hp : provedM st.1 2 view seq with
  | none => exact ⟨H, by dsimp only; omega⟩
  | some op => exact ⟨voteM_ok H ⟨.inr rfl, h2, h3, provedM_size H hp, h1⟩, voteM_len⟩
theorem followM_ok {id view : Int} {st : VS} (H : VotsOk st.1) (h1 : InR 0 3 id) (h2 : InR 0 7 view) : ∀ n, n ≤ 6 → VotsOk (followM id view st n).1 ∧ (followM id view st n).2.length ≤ st.2.length + n
  | 0, _ => ⟨H, Nat.le_refl _⟩
  | n + 1, hn => by
    obtain ⟨a, b⟩ := followM_ok H h1 h2 n (by omega)
    have := stepM_ok (seq := (n : Int) + 1) a h1 h2 ⟨by omega, by omega⟩
    exact ⟨this.1, by rw [followM]; omega⟩
theorem logM_len (vs : List voteSh.T) : ∀ (n : Nat) (log : List ByteArray), (logM vs n log).length ≤ log.length + n
  | 0, log => Nat.le_refl _
  | n + 1, log => by
    rw [logM]
    cases decM vs ((log.length : Int) + 1) 8 with
    | none => dsimp only; omega
    | some op =>
      have := logM_len vs n (log ++ [op])
      rw [List.length_append] at this
      dsimp only [List.length_cons, List.length_nil] at *
      omega
theorem logM_size {vs : List voteSh.T} (H : VotsOk vs) : ∀ (n : Nat) (log : List ByteArray), (∀ t ∈ log, t.size ≤ 120) → ∀ t ∈ logM vs n log, t.size ≤ 120
  | 0, log, h => h
  | n + 1, log, h => by
    rw [logM]
    cases hd : decM vs ((log.length : Int) + 1) 8 with
    | none => exact h
    | some op =>
      refine logM_size H n (log ++ [op]) fun t ht => ?_
      rcases List.mem_append.1 ht with ht | ht
      · exact h t ht
      · simp only [List.mem_cons, List.not_mem_nil, or_false] at ht
        subst ht; exact decM_size H hd
theorem logM_none {vs : List voteSh.T} {n : Nat} {log : List ByteArray} (h : decM vs ((log.length : Int) + 1) 8 = none) : logM vs n log = log := by
  cases n with
  | zero => rfl
  | succ n => rw [logM, h]
theorem logM_some {vs : List voteSh.T} {log : List ByteArray} {op : ByteArray} (h : decM vs ((log.length : Int) + 1) 8 = some op) (hn : log.length < 6) : logM vs (6 - log.length) log = logM vs (6 - (log ++ [op]).length) (log ++ [op]) := by
  obtain ⟨k, hk⟩ : ∃ k, 6 - log.length = k + 1 := ⟨6 - log.length - 1, by omega⟩
  rw [hk, logM, h, List.length_append]
  dsimp only [List.length_cons, List.length_nil]
  rw [show 6 - (log.length + (0 + 1)) = k by omega]
theorem stepM_none {id view seq : Int} {st : VS} (h : provedM st.1 2 view seq = none) : stepM id view st seq = st := by unfold stepM; rw [h]
theorem stepM_some {id view seq : Int} {st : VS} {op : ByteArray} (h : provedM st.1 2 view seq = some op) : stepM id view st seq = voteM id st 3 view seq op := by unfold stepM; rw [h]
theorem WkOk.logApp {n0 l : Nat} {g0 g : AHeap} {w : Wk} (W : WkOk n0 l g0 w) (le : g0.Le g) (wg : g.wf) (op : ByteArray) :
    ∃ (L' : LX Sh.str.T) (g2 : AHeap), L'.xs = w.log.xs ++ [op] ∧ (g.push ⟨[[.string op]], 1, true⟩).app (.slice w.log.a w.log.xs.length w.log.c) [[.string op]] 1 = some (.slice L'.a L'.xs.length L'.c, g2) ∧
      g2.wr l 0 12 [.slice L'.a L'.xs.length L'.c] = some (g2.put l (some ⟨[({ w with log := L' } : Wk).row], 14, true⟩)) ∧ WkOk n0 l (g2.put l (some ⟨[({ w with log := L' } : Wk).row], 14, true⟩)) { w with log := L' } ∧ Mv l w { w with log := L' } g0 (g2.put l (some ⟨[({ w with log := L' } : Wk).row], 14, true⟩)) := by
  have lp := AHeap.Le.push wg ⟨[[.string op]], 1, true⟩
  have wp := wg.push ⟨[[.string op]], 1, true⟩
  have W3 := W.grow (le.trans lp) wp
  obtain ⟨l2, g2, ids2, e6, B2, k2, w2, hi⟩ := SoB.app' (s := Sh.str) (x := op) (cs := [.string op]) (js := []) W3.L ⟨rfl, rfl⟩ .nil (fun _ _ h => by cases h)
  have el : ((show List ByteArray from w.log.xs) ++ [op]).length = w.log.xs.length + 1 := by simp
  rw [← el] at e6 B2
  have kp : Kp w.log.ids g0 g2 := (Kp.of_le (le.trans lp)).trans k2
  have hi' : ∀ z ∈ ids2, g0.n ≤ z ∨ z ∈ w.log.ids := fun z hz => by
    rcases hi z hz with h | h | h
    · left; rw [h]; exact (le.trans lp).n
    · exact .inr h
    · cases h
  have WS := W.setL ⟨some ⟨l2, 0, some 1⟩, 0, (show List ByteArray from w.log.xs) ++ [op], ids2⟩ B2 kp hi'
  exact ⟨⟨some ⟨l2, 0, some 1⟩, 0, (show List ByteArray from w.log.xs) ++ [op], ids2⟩, g2, rfl, e6, wk_wr (W.get (k := 4) rfl (by decide) kp) rfl (by simp), WS, Mv.setL ⟨some ⟨l2, 0, some 1⟩, 0, (show List ByteArray from w.log.xs) ++ [op], ids2⟩ kp hi' _⟩
end Go.Dat
namespace Go.Proofs.YtpgfjadjhliohaaGreat
open Go.Abs Go.Dat
set_option maxRecDepth 100000
set_option maxHeartbeats 8000000
def foL (n0 l : Nat) (g : AHeap) (b : Bool) (w : Wk) : Nat → LSpec
  | 0 => {
    ι := Nat × LX voteSh.T × LX saySh.T × AHeap
    κ := LX voteSh.T × LX saySh.T × AHeap
    I := fun i => i.1 ≤ 6 ∧ WkOk n0 l i.2.2.2 { w with votes := i.2.1, says := i.2.2.1 } ∧ (i.2.1.xs, i.2.2.1.xs) = followM w.id w.view (w.votes.xs, w.says.xs) i.1 ∧ (w.chg = true → i.1 = 0) ∧ (b = true → w.chg = false) ∧ Mv l w { w with votes := i.2.1, says := i.2.2.1 } g i.2.2.2
    μ := fun i => 6 - i.1
    head := fun i => ⟨[(0, .pointer (some ⟨l, 0, some 0⟩)), (2, .int .i64 ((i.1 : Int) + 1))], [], i.2.2.2⟩
    post := fun j => ⟨[(0, .pointer (some ⟨l, 0, some 0⟩))], [], j.2.2⟩
    R := fun _ j => WkOk n0 l j.2.2 { w with votes := j.1, says := j.2.1 } ∧ Mv l w { w with votes := j.1, says := j.2.1 } g j.2.2 ∧ (j.1.xs, j.2.1.xs) = bif w.chg then (w.votes.xs, w.says.xs) else followM w.id w.view (w.votes.xs, w.says.xs) 6
    ret := fun _ _ _ => False }
  | _ => {
    ι := LX voteSh.T × LX saySh.T × LX Sh.str.T × AHeap
    κ := LX Sh.str.T × AHeap
    I := fun i => WkOk n0 l i.2.2.2 { w with votes := i.1, says := i.2.1, log := i.2.2.1 } ∧ VotsOk i.1.xs ∧ i.2.2.1.xs.length ≤ 6 ∧ Mv l w { w with votes := i.1, says := i.2.1, log := i.2.2.1 } g i.2.2.2
    μ := fun i => 6 - i.2.2.1.xs.length
    head := fun i => ⟨[(0, .pointer (some ⟨l, 0, some 0⟩))], [], i.2.2.2⟩
    post := fun j => ⟨[], [], j.2⟩
    R := fun i j => WkOk n0 l j.2 { w with votes := i.1, says := i.2.1, log := j.1 } ∧ Mv l w { w with votes := i.1, says := i.2.1, log := j.1 } g j.2 ∧ j.1.xs = logM i.1.xs (6 - i.2.2.1.xs.length) i.2.2.1.xs
    ret := fun i v h' => v = .tuple #[] ∧ ∃ L', WkOk n0 l h' { w with votes := i.1, says := i.2.1, log := L' } ∧ Mv l w { w with votes := i.1, says := i.2.1, log := L' } g h' ∧ L'.xs = logM i.1.xs (6 - i.2.2.1.xs.length) i.2.2.1.xs }
noncomputable def stM (w : Wk) : VS := bif w.chg then (w.votes.xs, w.says.xs) else followM w.id w.view (w.votes.xs, w.says.xs) 6
theorem stM_ok {w : Wk} (H : VotsOk w.votes.xs) (h1 : InR 0 3 w.id) (h2 : InR 0 7 w.view) : VotsOk (stM w).1 := by
  unfold stM
  cases w.chg with
  | true => exact H
  | false => exact (followM_ok (st := (w.votes.xs, w.says.xs)) H h1 h2 6 (Nat.le_refl _)).1
def Qn2 (a b c d e : Prop) := a ∧ b ∧ c ∧ d ∧ e
def Qn3 := True ∧ True ∧ True
def Qn4 := (1 : Nat)
def Qn5 := (0 : Nat)
def Qn6 (a : AHeap) (b c : Nat) (d : List Value) (e : Prop) := AHeap.ld a b Qn5 c Qn4 = some d ∧ e
def Qn7 (a : AHeap) (b : Nat) (c : Option Addr) (d e : Nat) (f : Prop) := Qn6 a b 12 [Value.slice c d e] f
def Qn8 (a : LX (Sh.T voteSh) × LX (Sh.T saySh) × LX (Sh.T Sh.str) × AHeap) := Prod.fst (Prod.snd (Prod.snd a))
def Qn9 (a : LX (Sh.T voteSh) × LX (Sh.T saySh) × LX (Sh.T Sh.str) × AHeap) := 6 - List.length (LX.xs (Qn8 a))
def Qna (a : List (Sh.T Sh.str)) (b c : LX (Sh.T voteSh) × LX (Sh.T saySh) × LX (Sh.T Sh.str) × AHeap) (d : LX (Sh.T voteSh) × LX (Sh.T saySh) × LX ByteArray × AHeap) := a = logM (LX.xs (Prod.fst b)) (Qn9 c) (LX.xs (Prod.fst (Prod.snd (Prod.snd d))))
def Qnb (a : LX (Sh.T Sh.str) × AHeap) (b c : LX (Sh.T voteSh) × LX (Sh.T saySh) × LX (Sh.T Sh.str) × AHeap) (d : LX (Sh.T voteSh) × LX (Sh.T saySh) × LX ByteArray × AHeap) := Qna (LX.xs (Prod.fst a)) b c d
def Qnc (a b c d : Wk) (e : LX (Sh.T voteSh)) (f g h i j k l : Wk) (m : LX (Sh.T Sh.str)) (n : LX (Sh.T saySh)) := Wk.mk (Wk.id a) (Wk.view b) (Wk.chg c) (Wk.top d) e (Wk.changes f) (Wk.nk g) (Wk.nf h) (Wk.nv i) (Wk.nq j) (Wk.nop k) (Wk.nch l) m n
def Qnd (a b c d : Wk) (e : LX (Sh.T voteSh) × LX (Sh.T saySh) × LX (Sh.T Sh.str) × AHeap) (f g h i j k l : Wk) (m : LX (Sh.T Sh.str)) (n : LX (Sh.T voteSh) × LX (Sh.T saySh) × LX (Sh.T Sh.str) × AHeap) := Qnc a b c d (Prod.fst e) f g h i j k l m (Prod.fst (Prod.snd n))
def Qne (a b c d : Wk) (e : LX (Sh.T voteSh) × LX (Sh.T saySh) × LX (Sh.T Sh.str) × AHeap) (f g h i j k l : Wk) (m : LX (Sh.T Sh.str) × AHeap) (n : LX (Sh.T voteSh) × LX (Sh.T saySh) × LX (Sh.T Sh.str) × AHeap) := Qnd a b c d e f g h i j k l (Prod.fst m) n
def Qnf (a : LX (Sh.T voteSh) × LX (Sh.T saySh) × LX (Sh.T Sh.str) × AHeap) := Prod.snd (Prod.snd (Prod.snd a))
def Qng (a : AHeap) (b : Nat) (c : Option Addr) (d e : Nat) (f : Prop) := Qn6 a b 4 [Value.slice c d e] f
def Qnh (a : List Value) := Value.tuple (Array.mk a)
def Qni := Qnh List.nil
def Qnj (a : Value) (b : Prop) := a = Qni ∧ b
def Qnk (a b : Nat) (c : AHeap) (d : Wk) (e : Nat) (f g : Wk) (h i : AHeap) (j : Prop) := WkOk a b c d ∧ Mv e f g h i ∧ j
def Qnl (a : LX (Sh.T Sh.str)) (b c : LX (Sh.T voteSh) × LX (Sh.T saySh) × LX (Sh.T Sh.str) × AHeap) (d : LX (Sh.T voteSh) × LX (Sh.T saySh) × LX ByteArray × AHeap) := Qna (LX.xs a) b c d
def Qnm (a b : Nat) (c : LX (Sh.T voteSh) × LX (Sh.T saySh) × LX (Sh.T Sh.str) × AHeap) (d e f g : Wk) (h : LX (Sh.T voteSh) × LX (Sh.T saySh) × LX (Sh.T Sh.str) × AHeap) (i j k l m n o : Wk) (p q r s : LX (Sh.T voteSh) × LX (Sh.T saySh) × LX (Sh.T Sh.str) × AHeap) (t : Prop) := WkOk a b (Qnf c) (Qnd d e f g h i j k l m n o (Qn8 p) q) ∧ VotsOk (LX.xs (Prod.fst r)) ∧ List.length (LX.xs (Qn8 s)) ≤ 6 ∧ t
def Qnn (a : Nat) := Value.pointer (some (Addr.mk a Qn5 (some Qn5)))
def Qno (a b : Nat) := Qnn a = Qnn b
def Qnp (a : AHeap) (b : List (List Value)) (c : Bool) := AHeap.push a (AObj.mk b Qn4 c)
def Qnq (a : ByteArray) := [Value.string a]
def Qnr (a : List (List Value)) := List.all a (fun (row : List Value) =>
  decide (List.length row = (1 : Nat)) &&
    List.all row fun (v : Value) =>
      match v with
      | Value.agg cells => false
      | Value.tuple cells => false
      | Value.complex k re im => false
      | Value.chan r => false
      | x => true)
def Qns (a : FuncId) (b : List Value) (c : AHeap) (d : Value) (e : AHeap) := ACall Tryz.prog a b c d e
def Qnt (a : Int) := Value.int IntKind.i64 a
def Qnu (a : Int) := Qnt (IntKind.wrap IntKind.i64 (a + 1))
def Qnv (a : LX (Sh.T voteSh) × LX (Sh.T saySh) × AHeap) := Prod.snd (Prod.snd a)
def Qnw (a : LX (Sh.T voteSh) × LX (Sh.T saySh) × AHeap) := Prod.fst (Prod.snd a)
def Qnx (a b c d : Wk) (e : LX (Sh.T voteSh) × LX (Sh.T saySh) × AHeap) (f g h i j k l m : Wk) (n : LX (Sh.T voteSh) × LX (Sh.T saySh) × AHeap) := Qnc a b c d (Prod.fst e) f g h i j k l (Wk.log m) (Qnw n)
def Qny (a b : Nat) (c : LX (Sh.T voteSh) × LX (Sh.T saySh) × AHeap) (d e f g : Wk) (h : LX (Sh.T voteSh) × LX (Sh.T saySh) × AHeap) (i j k l m n o p : Wk) (q : LX (Sh.T voteSh) × LX (Sh.T saySh) × AHeap) (r : Nat) (s t : Wk) (u : AHeap) (v : LX (Sh.T voteSh) × LX (Sh.T saySh) × AHeap) (w x : List (Sh.T voteSh) × List (Sh.T saySh)) := Qnk a b (Qnv c) (Qnx d e f g h i j k l m n o p q) r s t u (Qnv v) (w = x)
def Qnz (a b : Wk) := Prod.mk (LX.xs (Wk.votes a)) (LX.xs (Wk.says b))
noncomputable def Qo0 (a b c d e f g : Wk) := cond (Wk.chg a) (Qnz b c) (followM (Wk.id d) (Wk.view e) (Qnz f g) 6)
def Qo1 (a b : LX (Sh.T voteSh) × LX (Sh.T saySh) × AHeap) := Prod.mk (LX.xs (Prod.fst a)) (LX.xs (Qnw b))
def Qo2 (a : Nat × LX (Sh.T voteSh) × LX (Sh.T saySh) × AHeap) := Qnv (Prod.snd a)
def Qo3 (a : Nat × LX (Sh.T voteSh) × LX (Sh.T saySh) × AHeap) := (↑(Prod.fst a) : Int) + 1
def Qo4 (a b : Nat) (c d e : Nat × LX (Sh.T voteSh) × LX (Sh.T saySh) × AHeap) (f : AHeap) (g h i j : Prop) := Qn2 (Qno a b) (Qnu (Qo3 c) = Qnt (Qo3 d)) (Qo2 e = f) g (h ∧ i ∧ j)
def Qo5 (a : Nat × LX (Sh.T voteSh) × LX (Sh.T saySh) × AHeap) := 6 - Prod.fst a
def Qo6 (a : Nat × LX (Sh.T voteSh) × LX (Sh.T saySh) × AHeap) (b c : Nat) (d : Nat × LX (Sh.T voteSh) × LX (Sh.T saySh) × AHeap) (e f g h : Wk) (i : Nat × LX (Sh.T voteSh) × LX (Sh.T saySh) × AHeap) (j k l m n o p q : Wk) (r s t : Nat × LX (Sh.T voteSh) × LX (Sh.T saySh) × AHeap) (u : List (Sh.T voteSh) × List (Sh.T saySh)) (v w x : Prop) := Qn2 (Prod.fst a ≤ 6) (WkOk b c (Qo2 d) (Qnc e f g h (Prod.fst (Prod.snd i)) j k l m n o p (Wk.log q) (Qnw (Prod.snd r)))) (Prod.mk (LX.xs (Prod.fst (Prod.snd s))) (LX.xs (Qnw (Prod.snd t))) = u) v (w ∧ x)
def Qo7 (a : Nat) (b c d e f : Wk) (g : Nat × LX (Sh.T voteSh) × LX (Sh.T saySh) × AHeap) (h i j k l m n o : Wk) (p : Nat × LX (Sh.T voteSh) × LX (Sh.T saySh) × AHeap) (q : AHeap) (r : Nat × LX (Sh.T voteSh) × LX (Sh.T saySh) × AHeap) := Mv a b (Qnc c d e f (Prod.fst (Prod.snd g)) h i j k l m n (Wk.log o) (Qnw (Prod.snd p))) q (Qo2 r)
def Qo8 (a : Bool) (b : Wk) := a = true → Wk.chg b = false
def Qo9 (a : Wk) (b : Nat × LX (Sh.T voteSh) × LX (Sh.T saySh) × AHeap) := Wk.chg a = true → Prod.fst b = Qn5
noncomputable def Qoa (a b c d : Wk) (e : Nat × LX (Sh.T voteSh) × LX (Sh.T saySh) × AHeap) := followM (Wk.id a) (Wk.view b) (Qnz c d) (Prod.fst e)
def Qob (a : Nat × LX (Sh.T voteSh) × LX (Sh.T saySh) × AHeap) := AHeap.n (Qo2 a)
def Qoc (a b : Int) (c : ByteArray) (d : Option Addr) (e f : Nat) := [Qnt a, Qnt b, Value.string c, Value.slice d e f]
def Qod (a : Nat × LX (Sh.T voteSh) × LX (Sh.T saySh) × AHeap) (b : List (List Value)) := AHeap.push (Qo2 a) (AObj.mk b 4 true)
def Qoe := [[Qnt (Int.ofNat Qn5), Qnt (Int.ofNat Qn5), Value.string (ByteArray.mk (Array.mk List.nil)), Value.slice none Qn5 Qn5]]
def Qof (a : Nat × LX (Sh.T voteSh) × LX (Sh.T saySh) × AHeap) := Qod a Qoe
theorem follow_spec {n0 l : Nat} {g : AHeap} {w : Wk} (W : WkOk n0 l g w) (H : VotsOk w.votes.xs) (h1 : InR 0 3 w.id) (h2 : InR 0 7 w.view) (hs : w.says.xs.length ≤ 500) (hl : w.log.xs.length ≤ 6) :
    ∃ r g', ACall Tryz.prog 54 [.pointer (some ⟨l, 0, some 0⟩)] g r g' ∧ ∃ (V' : LX voteSh.T) (S' : LX saySh.T) (L' : LX Sh.str.T), r = .tuple #[] ∧ (V'.xs, S'.xs) = stM w ∧ L'.xs = logM (stM w).1 (6 - w.log.xs.length) w.log.xs ∧ WkOk n0 l g' { w with votes := V', says := S', log := L' } ∧ Mv l w { w with votes := V', says := S', log := L' } g g' := by
  refine acall_q fun Q HQ => ?_
  refine acall_vc (fun t => t == 3) (fun r => match r with | 3 => [(15, 2, []), (0, 0, []), (1, 0, []), (2, 0, []), (3, 0, []), (5, 0, []), (6, 0, []), (7, 0, []), (8, 0, []), (10, 0, []), (4, 1, []), (9, 1, []), (11, 3, [15]), (12, 0, []), (13, 0, []), (14, 0, []), (16, 3, []), (17, 0, [])] | 5 => [(0, 0, []), (1, 0, []), (2, 0, []), (3, 0, []), (4, 0, []), (6, 0, []), (7, 0, []), (5, 1, []), (8, 1, []), (9, 3, [])] | 7 => [(0, 0, []), (1, 0, []), (2, 0, []), (3, 0, []), (5, 0, []), (6, 0, []), (7, 0, []), (8, 0, []), (4, 1, []), (9, 1, []), (10, 0, []), (11, 0, []), (12, 3, []), (13, 0, []), (14, 0, []), (15, 0, []), (16, 0, []), (17, 0, [])] | _ => []) (foL n0 l g false w) mixed Tryz.func54 rfl rfl rfl (Nat.le_of_ble_eq_true rfl) ?_ ?_
  · (refine vc_mp (by kernel_rfl : (Qn2 (Qn2 True (∀ (i : Nat × LX (Sh.T voteSh) × LX (Sh.T saySh) × AHeap), Qo6 i n0 l i w w w w i w w w w w w w w i i i (Qoa w w w w i) (Qo9 w i) (Qo8 false w) (Qo7 l w w w w w i w w w w w w w w i g i) → bs (decide (Qo3 i ≤ 6)) (∃ (x : Bool), Qn6 (Qo2 i) l 2 [Value.bool x] (bs (not x) (∃ (a : Option Addr) (n c : Nat), Qng (Qof i) l a n c (∃ (x : Int), Qn6 (Qof i) l Qn4 [Qnt x] (∃ (x_1 x_2 : Int) (x_3 : ByteArray) (a_1 : Option Addr) (n_1 c_1 : Nat) (x_4 : Bool) (h' : AHeap), Qns 105 [Value.slice a n c, Qnt x, Qnt (Qo3 i)] (Qof i) (Qnh [Value.agg (Array.mk (Qoc x_1 x_2 x_3 a_1 n_1 c_1)), Value.bool x_4]) h' ∧ (AHeap.get h' (Qob i) = AHeap.get (Qof i) (Qob i) ∧ AHeap.n (Qod i Qoe) ≤ AHeap.n h') ∧ (∃ (h'_1 : AHeap), AHeap.wr h' (Qob i) Qn5 Qn5 (Qoc x_1 x_2 x_3 a_1 n_1 c_1) = some h'_1 ∧ bs x_4 (∃ (x : Int), Qn6 h'_1 l Qn4 [Qnt x] (∃ (x_5 : ByteArray), Qn6 h'_1 (Qob i) 2 (Qnq x_5) (∃ (h' : AHeap), Qns 63 [Qnn l, Qnt 3, Qnt x, Qnt (Qo3 i), Value.string x_5] h'_1 Qni h' ∧ (∃ (j : Nat × LX (Sh.T voteSh) × LX (Sh.T saySh) × AHeap), Qo4 l l i j j h' (Qo6 j n0 l j w w w w j w w w w w w w w j j j (Qoa w w w w j) (Qo9 w j) (Qo8 false w) (Qo7 l w w w w w j w w w w w w w w j g j)) (Qo5 j < Qo5 i) (∀ (k : LX (Sh.T voteSh) × LX (Sh.T saySh) × AHeap), Qny n0 l k w w w w k w w w w w w w w k l w (Qnx w w w w k w w w w w w w w k) g k (Qo1 k k) (Qo0 w w w w w w w) → Qny n0 l k w w w w k w w w w w w w w k l w (Qnx w w w w k w w w w w w w w k) g k (Qo1 k k) (Qo0 w w w w w w w)) (∀ (v : Value) (h : AHeap), False → False))))) (∃ (j : Nat × LX (Sh.T voteSh) × LX (Sh.T saySh) × AHeap), Qo4 l l i j j h'_1 (Qo6 j n0 l j w w w w j w w w w w w w w j j j (Qoa w w w w j) (Qo9 w j) (Qo8 false w) (Qo7 l w w w w w j w w w w w w w w j g j)) (Qo5 j < Qo5 i) (∀ (k : LX (Sh.T voteSh) × LX (Sh.T saySh) × AHeap), Qny n0 l k w w w w k w w w w w w w w k l w (Qnx w w w w k w w w w w w w w k) g k (Qo1 k k) (Qo0 w w w w w w w) → Qny n0 l k w w w w k w w w w w w w w k l w (Qnx w w w w k w w w w w w w w k) g k (Qo1 k k) (Qo0 w w w w w w w)) (∀ (v : Value) (h : AHeap), False → False)))))) (∃ (j : LX (Sh.T voteSh) × LX (Sh.T saySh) × AHeap), Qno l l ∧ Qnv j = Qo2 i ∧ Qny n0 l j w w w w j w w w w w w w w j l w (Qnx w w w w j w w w w w w w w j) g j (Qo1 j j) (Qo0 w w w w w w w)))) (∃ (j : LX (Sh.T voteSh) × LX (Sh.T saySh) × AHeap), Qno l l ∧ Qnv j = Qo2 i ∧ Qny n0 l j w w w w j w w w w w w w w j l w (Qnx w w w w j w w w w w w w w j) g j (Qo1 j j) (Qo0 w w w w w w w))) Qn3 (True ∧ True ∧ True ∧ True) True) (∀ (i : LX (Sh.T voteSh) × LX (Sh.T saySh) × LX (Sh.T Sh.str) × AHeap), Qnm n0 l i w w w w i w w w w w w w i i i i (Mv l w (Qnd w w w w i w w w w w w w (Qn8 i) i) g (Qnf i)) → (∃ (a : Option Addr) (n c : Nat), Qn7 (Qnf i) l a n c (bs (decide ((↑n : Int) < 6)) (∃ (a : Option Addr) (n c : Nat), Qng (Qnf i) l a n c (∃ (a_1 : Option Addr) (n_1 c_1 : Nat), Qn7 (Qnf i) l a_1 n_1 c_1 (∃ (x : ByteArray) (x_1 : Bool) (h' : AHeap), Qns 106 [Value.slice a n c, Qnu (↑n_1 : Int)] (Qnf i) (Qnh [Value.string x, Value.bool x_1]) h' ∧ bs (not x_1) (Qnj Qni (∃ (L' : LX (Sh.T Sh.str)), Qnk n0 l h' (Qnd w w w w i w w w w w w w L' i) l w (Qnd w w w w i w w w w w w w L' i) g h' (Qnl L' i i i))) (∃ (a : Option Addr) (n c : Nat), Qn7 h' l a n c (∃ (xs : List (List Value)), rowsV (Qnp h' [Qnq x] true) (Value.slice (some (Addr.mk (AHeap.n h') Qn5 (some Qn4))) Qn4 2) = some xs ∧ Qnr xs = true ∧ (n + List.length xs) * 16 ≤ 140737488355328 ∧ (∃ (a_2 : Option Addr) (n_2 c_2 : Nat) (h'_1 : AHeap), AHeap.app (Qnp h' [Qnq x] true) (Value.slice a n c) xs Qn4 = some (Prod.mk (Value.slice a_2 n_2 c_2) h'_1) ∧ (∃ (h' : AHeap), AHeap.wr h'_1 l Qn5 12 [Value.slice a_2 n_2 c_2] = some h' ∧ (∃ (j : LX (Sh.T voteSh) × LX (Sh.T saySh) × LX (Sh.T Sh.str) × AHeap), Qn2 (Qno l l) (Qnf j = h') (Qnm n0 l j w w w w j w w w w w w w j j j j (Mv l w (Qnd w w w w j w w w w w w w (Qn8 j) j) g (Qnf j))) (Qn9 j < Qn9 i) ((∀ (k : LX (Sh.T Sh.str) × AHeap), Qnk n0 l (Prod.snd k) (Qne w w w w j w w w w w w w k j) l w (Qne w w w w j w w w w w w w k j) g (Prod.snd k) (Qnb k j j j) → Qnk n0 l (Prod.snd k) (Qne w w w w i w w w w w w w k i) l w (Qne w w w w i w w w w w w w k i) g (Prod.snd k) (Qnb k i i i)) ∧ (∀ (v : Value) (h : AHeap), Qnj v (∃ (L' : LX (Sh.T Sh.str)), Qnk n0 l h (Qnd w w w w j w w w w w w w L' j) l w (Qnd w w w w j w w w w w w w L' j) g h (Qnl L' j j j)) → Qnj v (∃ (L' : LX (Sh.T Sh.str)), Qnk n0 l h (Qnd w w w w i w w w w w w w L' i) l w (Qnd w w w w i w w w w w w w L' i) g h (Qnl L' i i i)))))))))))) (∃ (j : LX (Sh.T Sh.str) × AHeap), Prod.snd j = Qnf i ∧ WkOk n0 l (Prod.snd j) (Qne w w w w i w w w w w w w j i) ∧ Mv l w (Qne w w w w i w w w w w w w j i) g (Prod.snd j) ∧ Qnb j i i i)))) Qn3 True (Qn3 ∧ True)) = _) ?_; delta Qn2 Qn3 Qn4 Qn5 Qn6 Qn7 Qn8 Qn9 Qna Qnb Qnc Qnd Qne Qnf Qng Qnh Qni Qnj Qnk Qnl Qnm Qnn Qno Qnp Qnq Qnr Qns Qnt Qnu Qnv Qnw Qnx Qny Qnz Qo0 Qo1 Qo2 Qo3 Qo4 Qo5 Qo6 Qo7 Qo8 Qo9 Qoa Qob Qoc Qod Qoe Qof)
    simp only [true_and, and_true]
    refine ⟨fun ⟨i, V, S, g1⟩ ⟨hi, W1, e1, hc, hb, M1⟩ => ?_, fun ⟨V, S, L, g1⟩ ⟨W1, H1, hn, M1⟩ => ?_⟩
    · dsimp only at *
      have HF := followM_ok (st := (w.votes.xs, w.says.xs)) H h1 h2 i hi
      rw [← e1] at HF
      dsimp only at HF
      obtain ⟨HV, HS⟩ := HF
      refine bs_d (fun hlt => ?_) (fun hge => ⟨(V, S, g1), rfl, W1, M1, ?_⟩)
      · refine ⟨_, W1.ld (i := 2) (n := 1) rfl (by decide), bs_nb (fun ec => ?_) (fun ec => ⟨(V, S, g1), rfl, W1, M1, ?_⟩)⟩
        · have wp := W1.wf.push ⟨[[.int .i64 (Int.ofNat 0), .int .i64 (Int.ofNat 0), .string ⟨#[]⟩, .slice none 0 0]], 4, true⟩
          have lp := AHeap.Le.push W1.wf ⟨[[.int .i64 (Int.ofNat 0), .int .i64 (Int.ofNat 0), .string ⟨#[]⟩, .slice none 0 0]], 4, true⟩
          have W2 := W1.grow lp wp
          obtain ⟨_, g2, A, le2, w2, hr⟩ := l11Proof_spec _ wp V.a V.c V.xs w.view ((i : Int) + 1) W2.V.sn.so.sl HV
          have hg := le2.get _ _ (AHeap.get_push_eq (h := g1) (o := ⟨[[.int .i64 (Int.ofNat 0), .int .i64 (Int.ofNat 0), .string ⟨#[]⟩, .slice none 0 0]], 4, true⟩))
          have leA : ∀ row : List Value, g1.Le (g2.put g1.n (some ⟨[row], 4, true⟩)) := fun row => (lp.trans le2).put (W1.wf g1.n (Nat.le_refl _)) _
          have wA : ∀ row : List Value, (g2.put g1.n (some ⟨[row], 4, true⟩)).wf := fun row => w2.put (w2.lt hg) _
          rcases hr with ⟨e, rfl⟩ | ⟨v, op, a, c, js, e, rfl, sn, fr⟩
          · have e' : provedM V.xs 2 w.view ((i : Int) + 1) = none := Option.map_eq_none_iff.1 e
            refine ⟨_, _, _, W2.ld rfl (by decide), _, W2.ld rfl (by decide), _, _, _, _, _, _, _, _, A, ⟨hg.trans AHeap.get_push_eq.symm, le2.n⟩, _, wr_field hg rfl (by simp), bs_b (fun e => by cases e) (fun _ => ⟨(i + 1, V, S, _), by rw [wrap_i64 (by omega)]; rfl, rfl, ⟨by dsimp only; omega, W1.grow (leA _) (wA _), ?_, fun h => absurd (Eq.trans (Eq.symm ec) h) (by decide), hb, M1.trans W.wf (.of_le (leA _))⟩, by dsimp only; omega, fun _ h => h, fun _ _ h => h⟩)⟩
            rw [followM, ← e1, stepM_none e']
          · obtain ⟨op', e', e2⟩ := Option.map_eq_some_iff.1 e
            cases e2
            have W3 := W1.grow (leA [.int .i64 w.view, .int .i64 ((i : Int) + 1), .string op, .slice a (votersM V.xs 2 w.view ((i : Int) + 1) op).length c]) (wA _)
            obtain ⟨_, g4, A4, V', S', rfl, e4, W4, M4⟩ := sVote_spec W3 HV.1 (Nat.le_trans HS (by omega)) 3 w.view ((i : Int) + 1) op
            refine ⟨_, _, _, W2.ld rfl (by decide), _, W2.ld rfl (by decide), _, _, _, _, _, _, _, _, A, ⟨hg.trans AHeap.get_push_eq.symm, le2.n⟩, _, wr_field hg rfl (by simp), bs_b (fun _ => ⟨_, W3.ld rfl (by decide), _, by rw [AHeap.ld, AHeap.get_put_eq]; rfl, _, A4, (i + 1, V', S', g4), by rw [wrap_i64 (by omega)]; rfl, rfl, ⟨by dsimp only; omega, W4, ?_, fun h => absurd (Eq.trans (Eq.symm ec) h) (by decide), hb, (M1.trans W.wf (.of_le (leA _))).trans W.wf M4⟩, by dsimp only; omega, fun _ h => h, fun _ _ h => h⟩) (fun e => by cases e)⟩
            rw [followM, ← e1, stepM_some e']; exact e4
        · rw [ec, cond_true]; rw [hc ec] at e1; exact e1
      · obtain rfl : i = 6 := by omega
        have hx : w.chg = false := by
          cases hx : w.chg with
          | true => exact absurd (hc hx) (by decide)
          | false => rfl
        rw [hx, cond_false]; exact e1
    · dsimp only at *
      refine ⟨_, _, _, W1.ld (i := 12) (n := 1) rfl (by decide), bs_d (fun hlt => ?_) (fun hge => ⟨(L, g1), rfl, W1, M1, ?_⟩)⟩
      · obtain ⟨_, g2, A, le2, w2, hr⟩ := l11Decided_spec g1 W1.wf V.a V.c V.xs (IntKind.i64.wrap ((L.xs.length : Int) + 1)) W1.V.sn.so.sl H1
        have ew : IntKind.i64.wrap ((L.xs.length : Int) + 1) = (L.xs.length : Int) + 1 := wrap_i64 (by omega)
        rcases hr with ⟨e, rfl⟩ | ⟨op, e, rfl⟩
        · rw [ew] at e
          exact ⟨_, _, _, W1.ld rfl (by decide), _, _, _, W1.ld rfl (by decide), _, _, _, A, bs_nb (fun _ => ⟨L, W1.grow le2 w2, M1.trans W.wf (.of_le le2), (logM_none e).symm⟩) (fun h => by cases h)⟩
        · rw [ew] at e
          have lt6 : L.xs.length < 6 := by have h6 : (L.xs.length : Int) < 6 := hlt; omega
          obtain ⟨L', g3, eL, e5, e6, W3, M3⟩ := W1.logApp le2 w2 op
          dsimp only at eL e5 e6 W3
          refine ⟨_, _, _, W1.ld rfl (by decide), _, _, _, W1.ld rfl (by decide), _, _, _, A, bs_nb (fun h => by cases h) (fun _ => ⟨_, _, _, (W1.grow le2 w2).ld rfl (by decide), _, rowsV_push, rfl, by simp only [List.length_cons, List.length_nil]; omega, _, _, _, g3, e5, _, e6, (V, S, L', _), rfl, ⟨W3, H1, ?_, M1.trans W.wf M3⟩, ?_, fun k h => ⟨h.1, h.2.1, h.2.2.trans ?_⟩, fun v h hr => ⟨hr.1, hr.2.elim fun L2 h2 => ⟨L2, h2.1, h2.2.1, h2.2.2.trans ?_⟩⟩⟩)⟩
          · show L'.xs.length ≤ 6
            rw [eL, List.length_append]; exact lt6
          · show 6 - L'.xs.length < 6 - L.xs.length
            have l6 : L.xs.length < 6 := lt6
            rw [eL, List.length_append]; simp only [List.length_cons, List.length_nil]; omega
          · show logM V.xs (6 - L'.xs.length) L'.xs = _
            rw [eL]; exact (logM_some e lt6).symm
          · show logM V.xs (6 - L'.xs.length) L'.xs = _
            rw [eL]; exact (logM_some e lt6).symm
      · have hge' : ¬ ((L.xs.length : Int) < 6) := hge
        rw [show 6 - L.xs.length = 0 by omega]; rfl
  (refine vc_mp (by kernel_rfl : (∃ (i : Nat × LX (Sh.T voteSh) × LX (Sh.T saySh) × AHeap), Qn2 (Qno l l) (Qnt 1 = Qnt (Qo3 i)) (Qo2 i = g) (Qo6 i n0 l i w w w w i w w w w w w w w i i i (Qoa w w w w i) (Qo9 w i) (Qo8 false w) (Qo7 l w w w w w i w w w w w w w w i g i)) ((∀ (j : LX (Sh.T voteSh) × LX (Sh.T saySh) × AHeap), Qny n0 l j w w w w j w w w w w w w w j l w (Qnx w w w w j w w w w w w w w j) g j (Qo1 j j) (Qo0 w w w w w w w) → (∃ (i : LX (Sh.T voteSh) × LX (Sh.T saySh) × LX (Sh.T Sh.str) × AHeap), Qn2 (Qno l l) (Qnf i = Qnv j) (Qnm n0 l i w w w w i w w w w w w w i i i i (Mv l w (Qnd w w w w i w w w w w w w (Qn8 i) i) g (Qnf i))) (∀ (j : LX (Sh.T Sh.str) × AHeap), Qnk n0 l (Prod.snd j) (Qne w w w w i w w w w w w w j i) l w (Qne w w w w i w w w w w w w j i) g (Prod.snd j) (Qnb j i i i) → Q Qni (Prod.snd j)) (∀ (v : Value) (h : AHeap), Qnj v (∃ (L' : LX (Sh.T Sh.str)), Qnk n0 l h (Qnd w w w w i w w w w w w w L' i) l w (Qnd w w w w i w w w w w w w L' i) g h (Qnl L' i i i)) → Q v h))) ∧ (∀ (v : Value) (h : AHeap), False → Q v h))) = _) ?_; delta Qn2 Qn5 Qn8 Qn9 Qna Qnb Qnc Qnd Qne Qnf Qnh Qni Qnj Qnk Qnl Qnm Qnn Qno Qnt Qnv Qnw Qnx Qny Qnz Qo0 Qo1 Qo2 Qo3 Qo6 Qo7 Qo8 Qo9 Qoa)
  have tl : ∀ (V : LX voteSh.T) (S : LX saySh.T), (V.xs, S.xs) = stM w → VotsOk V.xs ∧ ∀ (L : LX Sh.str.T) (g2 : AHeap), WkOk n0 l g2 { w with votes := V, says := S, log := L } → Mv l w { w with votes := V, says := S, log := L } g g2 → L.xs = logM V.xs (6 - w.log.xs.length) w.log.xs → Q (.tuple #[]) g2 := fun V S e => by
    have hv := stM_ok H h1 h2
    rw [← e] at hv
    exact ⟨hv, fun L g2 W2 M2 eL => HQ _ _ ⟨V, S, L, rfl, e, by rw [← e]; exact eL, W2, M2⟩⟩
  exact ⟨(0, w.votes, w.says, g), rfl, rfl, rfl, ⟨Nat.zero_le _, W, rfl, fun _ => rfl, fun h => (by cases h), .of_le (.refl _)⟩, fun ⟨V, S, g1⟩ ⟨W1, M1, e1⟩ => ⟨(V, S, w.log, g1), rfl, rfl, ⟨W1, (tl V S e1).1, hl, M1⟩, fun ⟨L, g2⟩ ⟨W2, M2, eL⟩ => (tl V S e1).2 L g2 W2 M2 eL, fun v h ⟨ev, L, W2, M2, eL⟩ => by rw [ev]; exact (tl V S e1).2 L h W2 M2 eL⟩, fun _ _ h => h.elim⟩
theorem goOn_spec {n0 l : Nat} {g : AHeap} {w : Wk} (W : WkOk n0 l g w) (H : VotsOk w.votes.xs) (h1 : InR 0 3 w.id) (h2 : InR 0 7 w.view) (hs : w.says.xs.length ≤ 500) (hl : w.log.xs.length ≤ 6) :
    ∃ r g', ACall Tryz.prog 108 [.pointer (some ⟨l, 0, some 0⟩)] g r g' ∧ ∃ (V' : LX voteSh.T) (S' : LX saySh.T) (L' : LX Sh.str.T), r = .tuple #[] ∧ (V'.xs, S'.xs) = stM w ∧ L'.xs = logM (stM w).1 (6 - w.log.xs.length) w.log.xs ∧ WkOk n0 l g' { w with votes := V', says := S', log := L' } ∧ Mv l w { w with votes := V', says := S', log := L' } g g' := by
  refine acall_q fun Q HQ => ?_
  refine acall_vc (fun t => t == 3) (fun r => match r with | 4 => [(12, 2, []), (0, 0, []), (1, 0, []), (2, 0, []), (3, 0, []), (5, 0, []), (6, 0, []), (7, 0, []), (8, 0, []), (10, 0, []), (4, 1, []), (9, 1, []), (11, 3, [12]), (13, 3, [])] | 6 => [(0, 0, []), (1, 0, []), (2, 0, []), (3, 0, []), (4, 0, []), (6, 0, []), (7, 0, []), (5, 1, []), (8, 1, []), (9, 3, [])] | 8 => [(0, 0, []), (1, 0, []), (2, 0, []), (3, 0, []), (5, 0, []), (6, 0, []), (7, 0, []), (8, 0, []), (4, 1, []), (9, 1, []), (10, 3, [4]), (11, 0, []), (12, 3, []), (13, 0, []), (14, 0, []), (15, 0, []), (16, 0, []), (17, 0, [])] | _ => []) (foL n0 l g true w) mixed Tryz.func108 rfl rfl rfl (Nat.le_of_ble_eq_true rfl) ?_ ?_
  · (refine vc_mp (by kernel_rfl : (Qn2 (True ∧ Qn2 True (∀ (i : Nat × LX (Sh.T voteSh) × LX (Sh.T saySh) × AHeap), Qo6 i n0 l i w w w w i w w w w w w w w i i i (Qoa w w w w i) (Qo9 w i) (Qo8 true w) (Qo7 l w w w w w i w w w w w w w w i g i) → bs (decide (Qo3 i ≤ 6)) (∃ (a : Option Addr) (n c : Nat), Qng (Qof i) l a n c (∃ (x : Int), Qn6 (Qof i) l Qn4 [Qnt x] (∃ (x_1 x_2 : Int) (x_3 : ByteArray) (a_1 : Option Addr) (n_1 c_1 : Nat) (h' : AHeap), Qns 147 [Value.slice a n c, Qnt x, Qnt (Qo3 i)] (Qof i) (Value.agg (Array.mk (Qoc x_1 x_2 x_3 a_1 n_1 c_1))) h' ∧ (AHeap.get h' (Qob i) = AHeap.get (Qof i) (Qob i) ∧ AHeap.n (Qod i Qoe) ≤ AHeap.n h') ∧ (∃ (h'_1 : AHeap), AHeap.wr h' (Qob i) Qn5 Qn5 (Qoc x_1 x_2 x_3 a_1 n_1 c_1) = some h'_1 ∧ (∃ (x : Int), Qn6 h'_1 (Qob i) Qn4 [Qnt x] (bs (not (decide (x = 0))) (∃ (x : Int), Qn6 h'_1 l Qn4 [Qnt x] (∃ (x_4 : ByteArray), Qn6 h'_1 (Qob i) 2 (Qnq x_4) (∃ (h' : AHeap), Qns 126 [Qnn l, Qnt 3, Qnt x, Qnt (Qo3 i), Value.string x_4] h'_1 Qni h' ∧ (∃ (j : Nat × LX (Sh.T voteSh) × LX (Sh.T saySh) × AHeap), Qo4 l l i j j h' (Qo6 j n0 l j w w w w j w w w w w w w w j j j (Qoa w w w w j) (Qo9 w j) (Qo8 true w) (Qo7 l w w w w w j w w w w w w w w j g j)) (Qo5 j < Qo5 i) (∀ (k : LX (Sh.T voteSh) × LX (Sh.T saySh) × AHeap), Qny n0 l k w w w w k w w w w w w w w k l w (Qnx w w w w k w w w w w w w w k) g k (Qo1 k k) (Qo0 w w w w w w w) → Qny n0 l k w w w w k w w w w w w w w k l w (Qnx w w w w k w w w w w w w w k) g k (Qo1 k k) (Qo0 w w w w w w w)) (∀ (v : Value) (h : AHeap), False → False))))) (∃ (j : Nat × LX (Sh.T voteSh) × LX (Sh.T saySh) × AHeap), Qo4 l l i j j h'_1 (Qo6 j n0 l j w w w w j w w w w w w w w j j j (Qoa w w w w j) (Qo9 w j) (Qo8 true w) (Qo7 l w w w w w j w w w w w w w w j g j)) (Qo5 j < Qo5 i) (∀ (k : LX (Sh.T voteSh) × LX (Sh.T saySh) × AHeap), Qny n0 l k w w w w k w w w w w w w w k l w (Qnx w w w w k w w w w w w w w k) g k (Qo1 k k) (Qo0 w w w w w w w) → Qny n0 l k w w w w k w w w w w w w w k l w (Qnx w w w w k w w w w w w w w k) g k (Qo1 k k) (Qo0 w w w w w w w)) (∀ (v : Value) (h : AHeap), False → False)))))))) (∃ (j : LX (Sh.T voteSh) × LX (Sh.T saySh) × AHeap), Qno l l ∧ Qnv j = Qo2 i ∧ Qny n0 l j w w w w j w w w w w w w w j l w (Qnx w w w w j w w w w w w w w j) g j (Qo1 j j) (Qo0 w w w w w w w))) Qn3 (True ∧ True ∧ True ∧ True) True ∧ True) (∀ (i : LX (Sh.T voteSh) × LX (Sh.T saySh) × LX (Sh.T Sh.str) × AHeap), Qnm n0 l i w w w w i w w w w w w w i i i i (Mv l w (Qnd w w w w i w w w w w w w (Qn8 i) i) g (Qnf i)) → (∃ (a : Option Addr) (n c : Nat), Qn7 (Qnf i) l a n c (bs (decide ((↑n : Int) < 6)) (∃ (a : Option Addr) (n c : Nat), Qng (Qnf i) l a n c (∃ (a_1 : Option Addr) (n_1 c_1 : Nat), Qn7 (Qnf i) l a_1 n_1 c_1 (∃ (x : Int) (h' : AHeap), Qns 149 [Value.slice a_1 n_1 c_1] (Qnf i) (Qnt x) h' ∧ (∃ (a_2 : Option Addr) (n_2 c_2 : Nat), Qng h' l a_2 n_2 c_2 (Value.slice a_2 n_2 c_2 = Value.slice a n c)) ∧ (∃ (x_1 : ByteArray) (x_2 : Bool) (h'_1 : AHeap), Qns 148 [Value.slice a n c, Qnu x] h' (Qnh [Value.string x_1, Value.bool x_2]) h'_1 ∧ bs (not x_2) (Qnj Qni (∃ (L' : LX (Sh.T Sh.str)), Qnk n0 l h'_1 (Qnd w w w w i w w w w w w w L' i) l w (Qnd w w w w i w w w w w w w L' i) g h'_1 (Qnl L' i i i))) (∃ (a : Option Addr) (n c : Nat), Qn7 h'_1 l a n c (∃ (xs : List (List Value)), rowsV (Qnp h'_1 [Qnq x_1] true) (Value.slice (some (Addr.mk (AHeap.n h'_1) Qn5 (some Qn4))) Qn4 2) = some xs ∧ Qnr xs = true ∧ (n + List.length xs) * 16 ≤ 140737488355328 ∧ (∃ (a_2 : Option Addr) (n_2 c_2 : Nat) (h' : AHeap), AHeap.app (Qnp h'_1 [Qnq x_1] true) (Value.slice a n c) xs Qn4 = some (Prod.mk (Value.slice a_2 n_2 c_2) h') ∧ (∃ (h'_2 : AHeap), AHeap.wr h' l Qn5 12 [Value.slice a_2 n_2 c_2] = some h'_2 ∧ (∃ (j : LX (Sh.T voteSh) × LX (Sh.T saySh) × LX (Sh.T Sh.str) × AHeap), Qn2 (Qno l l) (Qnf j = h'_2) (Qnm n0 l j w w w w j w w w w w w w j j j j (Mv l w (Qnd w w w w j w w w w w w w (Qn8 j) j) g (Qnf j))) (Qn9 j < Qn9 i) ((∀ (k : LX (Sh.T Sh.str) × AHeap), Qnk n0 l (Prod.snd k) (Qne w w w w j w w w w w w w k j) l w (Qne w w w w j w w w w w w w k j) g (Prod.snd k) (Qnb k j j j) → Qnk n0 l (Prod.snd k) (Qne w w w w i w w w w w w w k i) l w (Qne w w w w i w w w w w w w k i) g (Prod.snd k) (Qnb k i i i)) ∧ (∀ (v : Value) (h : AHeap), Qnj v (∃ (L' : LX (Sh.T Sh.str)), Qnk n0 l h (Qnd w w w w j w w w w w w w L' j) l w (Qnd w w w w j w w w w w w w L' j) g h (Qnl L' j j j)) → Qnj v (∃ (L' : LX (Sh.T Sh.str)), Qnk n0 l h (Qnd w w w w i w w w w w w w L' i) l w (Qnd w w w w i w w w w w w w L' i) g h (Qnl L' i i i))))))))))))) (∃ (j : LX (Sh.T Sh.str) × AHeap), Prod.snd j = Qnf i ∧ WkOk n0 l (Prod.snd j) (Qne w w w w i w w w w w w w j i) ∧ Mv l w (Qne w w w w i w w w w w w w j i) g (Prod.snd j) ∧ Qnb j i i i)))) Qn3 True (Qn3 ∧ True)) = _) ?_; delta Qn2 Qn3 Qn4 Qn5 Qn6 Qn7 Qn8 Qn9 Qna Qnb Qnc Qnd Qne Qnf Qng Qnh Qni Qnj Qnk Qnl Qnm Qnn Qno Qnp Qnq Qnr Qns Qnt Qnu Qnv Qnw Qnx Qny Qnz Qo0 Qo1 Qo2 Qo3 Qo4 Qo5 Qo6 Qo7 Qo8 Qo9 Qoa Qob Qoc Qod Qoe Qof)
    simp only [true_and, and_true]
    refine ⟨fun ⟨i, V, S, g1⟩ ⟨hi, W1, e1, hc, hb, M1⟩ => ?_, fun ⟨V, S, L, g1⟩ ⟨W1, H1, hn, M1⟩ => ?_⟩
    · dsimp only at *
      have HF := followM_ok (st := (w.votes.xs, w.says.xs)) H h1 h2 i hi
      rw [← e1] at HF
      dsimp only at HF
      obtain ⟨HV, HS⟩ := HF
      refine bs_d (fun hlt => ?_) (fun hge => ⟨(V, S, g1), rfl, W1, M1, ?_⟩)
      · have wp := W1.wf.push ⟨[[.int .i64 (Int.ofNat 0), .int .i64 (Int.ofNat 0), .string ⟨#[]⟩, .slice none 0 0]], 4, true⟩
        have lp := AHeap.Le.push W1.wf ⟨[[.int .i64 (Int.ofNat 0), .int .i64 (Int.ofNat 0), .string ⟨#[]⟩, .slice none 0 0]], 4, true⟩
        have W2 := W1.grow lp wp
        obtain ⟨_, g2, A, le2, w2, hr⟩ := provedIn_spec _ wp V.a V.c V.xs w.view ((i : Int) + 1) (by omega) W2.V.sn.so.sl HV
        have hg := le2.get _ _ (AHeap.get_push_eq (h := g1) (o := ⟨[[.int .i64 (Int.ofNat 0), .int .i64 (Int.ofNat 0), .string ⟨#[]⟩, .slice none 0 0]], 4, true⟩))
        have leA : ∀ row : List Value, g1.Le (g2.put g1.n (some ⟨[row], 4, true⟩)) := fun row => (lp.trans le2).put (W1.wf g1.n (Nat.le_refl _)) _
        have wA : ∀ row : List Value, (g2.put g1.n (some ⟨[row], 4, true⟩)).wf := fun row => w2.put (w2.lt hg) _
        rcases hr with ⟨e, rfl⟩ | ⟨v, op, a, c, js, e, rfl, sn, fr⟩
        · have e' : provedM V.xs 2 w.view ((i : Int) + 1) = none := Option.map_eq_none_iff.1 e
          refine ⟨_, _, _, W2.ld rfl (by decide), _, W2.ld rfl (by decide), _, _, _, _, _, _, _, A, ⟨hg.trans AHeap.get_push_eq.symm, le2.n⟩, _, wr_field hg rfl (by simp), _, by rw [AHeap.ld, AHeap.get_put_eq]; rfl, bs_dn (fun h => absurd rfl h) (fun _ => ⟨(i + 1, V, S, _), by rw [wrap_i64 (by omega)]; rfl, rfl, ⟨by dsimp only; omega, W1.grow (leA _) (wA _), ?_, fun h => absurd (Eq.trans (Eq.symm (hb trivial)) h) (by decide), fun _ => hb trivial, M1.trans W.wf (.of_le (leA _))⟩, by dsimp only; omega, fun _ h => h, fun _ _ h => h⟩)⟩
          rw [followM, ← e1, stepM_none e']
        · obtain ⟨op', e', e2⟩ := Option.map_eq_some_iff.1 e
          cases e2
          have W3 := W1.grow (leA [.int .i64 w.view, .int .i64 ((i : Int) + 1), .string op, .slice a (votersM V.xs 2 w.view ((i : Int) + 1) op).length c]) (wA _)
          obtain ⟨_, g4, A4, V', S', rfl, e4, W4, M4⟩ := iVote_spec W3 HV.1 (Nat.le_trans HS (by omega)) 3 w.view ((i : Int) + 1) op
          refine ⟨_, _, _, W2.ld rfl (by decide), _, W2.ld rfl (by decide), _, _, _, _, _, _, _, A, ⟨hg.trans AHeap.get_push_eq.symm, le2.n⟩, _, wr_field hg rfl (by simp), _, by rw [AHeap.ld, AHeap.get_put_eq]; rfl, bs_dn (fun _ => ⟨_, W3.ld rfl (by decide), _, by rw [AHeap.ld, AHeap.get_put_eq]; rfl, _, A4, (i + 1, V', S', g4), by rw [wrap_i64 (by omega)]; rfl, rfl, ⟨by dsimp only; omega, W4, ?_, fun h => absurd (Eq.trans (Eq.symm (hb trivial)) h) (by decide), fun _ => hb trivial, (M1.trans W.wf (.of_le (leA _))).trans W.wf M4⟩, by dsimp only; omega, fun _ h => h, fun _ _ h => h⟩) (fun h => absurd h (by omega))⟩
          rw [followM, ← e1, stepM_some e']; exact e4
      · obtain rfl : i = 6 := by omega
        have hx : w.chg = false := by
          cases hx : w.chg with
          | true => exact absurd (hc hx) (by decide)
          | false => rfl
        rw [hx, cond_false]; exact e1
    · dsimp only at *
      refine ⟨_, _, _, W1.ld (i := 12) (n := 1) rfl (by decide), bs_d (fun hlt => ?_) (fun hge => ⟨(L, g1), rfl, W1, M1, ?_⟩)⟩
      · obtain ⟨_, g2, A, le2, w2, hr⟩ := decided_spec g1 W1.wf V.a V.c V.xs (IntKind.i64.wrap ((L.xs.length : Int) + 1)) W1.V.sn.so.sl H1
        have ew : IntKind.i64.wrap ((L.xs.length : Int) + 1) = (L.xs.length : Int) + 1 := wrap_i64 (by omega)
        rcases hr with ⟨e, rfl⟩ | ⟨op, e, rfl⟩
        · rw [ew] at e
          exact ⟨_, _, _, W1.ld rfl (by decide), _, _, _, W1.ld rfl (by decide), _, _, sizeString_spec _ _ _ _, ⟨_, _, _, W1.ld rfl (by decide), rfl⟩, _, _, _, A, bs_nb (fun _ => ⟨L, W1.grow le2 w2, M1.trans W.wf (.of_le le2), (logM_none e).symm⟩) (fun h => by cases h)⟩
        · rw [ew] at e
          have lt6 : L.xs.length < 6 := by have h6 : (L.xs.length : Int) < 6 := hlt; omega
          obtain ⟨L', g3, eL, e5, e6, W3, M3⟩ := W1.logApp le2 w2 op
          dsimp only at eL e5 e6 W3
          refine ⟨_, _, _, W1.ld rfl (by decide), _, _, _, W1.ld rfl (by decide), _, _, sizeString_spec _ _ _ _, ⟨_, _, _, W1.ld rfl (by decide), rfl⟩, _, _, _, A, bs_nb (fun h => by cases h) (fun _ => ⟨_, _, _, (W1.grow le2 w2).ld rfl (by decide), _, rowsV_push, rfl, by simp only [List.length_cons, List.length_nil]; omega, _, _, _, g3, e5, _, e6, (V, S, L', _), rfl, ⟨W3, H1, ?_, M1.trans W.wf M3⟩, ?_, fun k h => ⟨h.1, h.2.1, h.2.2.trans ?_⟩, fun v h hr => ⟨hr.1, hr.2.elim fun L2 h2 => ⟨L2, h2.1, h2.2.1, h2.2.2.trans ?_⟩⟩⟩)⟩
          · show L'.xs.length ≤ 6
            rw [eL, List.length_append]; exact lt6
          · show 6 - L'.xs.length < 6 - L.xs.length
            have l6 : L.xs.length < 6 := lt6
            rw [eL, List.length_append]; simp only [List.length_cons, List.length_nil]; omega
          · show logM V.xs (6 - L'.xs.length) L'.xs = _
            rw [eL]; exact (logM_some e lt6).symm
          · show logM V.xs (6 - L'.xs.length) L'.xs = _
            rw [eL]; exact (logM_some e lt6).symm
      · have hge' : ¬ ((L.xs.length : Int) < 6) := hge
        rw [show 6 - L.xs.length = 0 by omega]; rfl
  (refine vc_mp (by kernel_rfl : (∃ (x : Bool), Qn6 g l 2 [Value.bool x] (bs (not x) (∃ (i : Nat × LX (Sh.T voteSh) × LX (Sh.T saySh) × AHeap), Qn2 (Qno l l) (Qnt 1 = Qnt (Qo3 i)) (Qo2 i = g) (Qo6 i n0 l i w w w w i w w w w w w w w i i i (Qoa w w w w i) (Qo9 w i) (Qo8 true w) (Qo7 l w w w w w i w w w w w w w w i g i)) ((∀ (j : LX (Sh.T voteSh) × LX (Sh.T saySh) × AHeap), Qny n0 l j w w w w j w w w w w w w w j l w (Qnx w w w w j w w w w w w w w j) g j (Qo1 j j) (Qo0 w w w w w w w) → (∃ (i : LX (Sh.T voteSh) × LX (Sh.T saySh) × LX (Sh.T Sh.str) × AHeap), Qn2 (Qno l l) (Qnf i = Qnv j) (Qnm n0 l i w w w w i w w w w w w w i i i i (Mv l w (Qnd w w w w i w w w w w w w (Qn8 i) i) g (Qnf i))) (∀ (j : LX (Sh.T Sh.str) × AHeap), Qnk n0 l (Prod.snd j) (Qne w w w w i w w w w w w w j i) l w (Qne w w w w i w w w w w w w j i) g (Prod.snd j) (Qnb j i i i) → Q Qni (Prod.snd j)) (∀ (v : Value) (h : AHeap), Qnj v (∃ (L' : LX (Sh.T Sh.str)), Qnk n0 l h (Qnd w w w w i w w w w w w w L' i) l w (Qnd w w w w i w w w w w w w L' i) g h (Qnl L' i i i)) → Q v h))) ∧ (∀ (v : Value) (h : AHeap), False → Q v h))) (∃ (i : LX (Sh.T voteSh) × LX (Sh.T saySh) × LX (Sh.T Sh.str) × AHeap), Qn2 (Qno l l) (Qnf i = g) (Qnm n0 l i w w w w i w w w w w w w i i i i (Mv l w (Qnd w w w w i w w w w w w w (Qn8 i) i) g (Qnf i))) (∀ (j : LX (Sh.T Sh.str) × AHeap), Qnk n0 l (Prod.snd j) (Qne w w w w i w w w w w w w j i) l w (Qne w w w w i w w w w w w w j i) g (Prod.snd j) (Qnb j i i i) → Q Qni (Prod.snd j)) (∀ (v : Value) (h : AHeap), Qnj v (∃ (L' : LX (Sh.T Sh.str)), Qnk n0 l h (Qnd w w w w i w w w w w w w L' i) l w (Qnd w w w w i w w w w w w w L' i) g h (Qnl L' i i i)) → Q v h)))) = _) ?_; delta Qn2 Qn4 Qn5 Qn6 Qn8 Qn9 Qna Qnb Qnc Qnd Qne Qnf Qnh Qni Qnj Qnk Qnl Qnm Qnn Qno Qnt Qnv Qnw Qnx Qny Qnz Qo0 Qo1 Qo2 Qo3 Qo6 Qo7 Qo8 Qo9 Qoa)
  have tl : ∀ (V : LX voteSh.T) (S : LX saySh.T), (V.xs, S.xs) = stM w → VotsOk V.xs ∧ ∀ (L : LX Sh.str.T) (g2 : AHeap), WkOk n0 l g2 { w with votes := V, says := S, log := L } → Mv l w { w with votes := V, says := S, log := L } g g2 → L.xs = logM V.xs (6 - w.log.xs.length) w.log.xs → Q (.tuple #[]) g2 := fun V S e => by
    have hv := stM_ok H h1 h2
    rw [← e] at hv
    exact ⟨hv, fun L g2 W2 M2 eL => HQ _ _ ⟨V, S, L, rfl, e, by rw [← e]; exact eL, W2, M2⟩⟩
  refine ⟨_, W.ld rfl (by decide), bs_nb (fun ec => ⟨(0, w.votes, w.says, g), rfl, rfl, rfl, ⟨Nat.zero_le _, W, rfl, fun _ => rfl, fun _ => ec, .of_le (.refl _)⟩, fun ⟨V, S, g1⟩ ⟨W1, M1, e1⟩ => ⟨(V, S, w.log, g1), rfl, rfl, ⟨W1, (tl V S e1).1, hl, M1⟩, fun ⟨L, g2⟩ ⟨W2, M2, eL⟩ => (tl V S e1).2 L g2 W2 M2 eL, fun v h ⟨ev, L, W2, M2, eL⟩ => by rw [ev]; exact (tl V S e1).2 L h W2 M2 eL⟩, fun _ _ h => h.elim⟩) (fun ec => ?_)⟩
  have es : (w.votes.xs, w.says.xs) = stM w := by unfold stM; rw [ec]; rfl
  exact ⟨(w.votes, w.says, w.log, g), rfl, rfl, ⟨W, (tl _ _ es).1, hl, .of_le (.refl _)⟩, fun ⟨L, g2⟩ ⟨W2, M2, eL⟩ => (tl _ _ es).2 L g2 W2 M2 eL, fun v h ⟨ev, L, W2, M2, eL⟩ => by rw [ev]; exact (tl _ _ es).2 L h W2 M2 eL⟩
end Go.Proofs.YtpgfjadjhliohaaGreat
