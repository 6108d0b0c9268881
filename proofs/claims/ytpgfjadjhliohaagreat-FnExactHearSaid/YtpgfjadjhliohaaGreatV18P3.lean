/- P3. -/
import Derived.Test.YtpgfjadjhliohaaGreatV18P2
import Derived.Test.YtpgfjadjhliohaaGreatV18W10
namespace Go.Dat
open Go.Abs
abbrev VS := List voteSh.T × List saySh.T
noncomputable def stepM (id view : Int) (st : VS) (seq : Int) : VS := match provedM st.1 2 view seq with
  | none => st
  | some op => voteM id st 3 view seq op
noncomputable def followM (id view : Int) (st : VS) : Nat → VS
  | 0 => st
  | n + 1 => stepM id view (followM id view st n) ((n : Int) + 1)
noncomputable def logM (vs : List voteSh.T) : Nat → List ByteArray → List ByteArray
  | 0, log => log
  | n + 1, log => match decM vs ((log.length : Int) + 1) 8 with
    | none => log
    | some op => logM vs n (log ++ [op])
theorem provedM_size {l : List voteSh.T} (H : VotsOk l) {k v q : Int} {op : ByteArray} (h : provedM l k v q = some op) : op.size ≤ 120 := by
  have h3 := provedM_out h
  cases hc : votersM l k v q op with
  | nil => rw [hc] at h3; simp at h3
  | cons x xs =>
    have hm : x ∈ votersM l k v q op := by rw [hc]; exact List.mem_cons_self
    unfold votersM at hm
    exact (vots_mem H (mem_upP.1 hm).2.2).2.2.2.1
theorem decM_size {l : List voteSh.T} (H : VotsOk l) {q : Int} {op : ByteArray} : ∀ {n : Nat}, decM l q n = some op → op.size ≤ 120
  | 0, h => by cases h
  | n + 1, h => by
    rw [decM] at h
    cases hd : decM l q n with
    | some o => rw [hd] at h; cases h; exact decM_size H hd
    | none => rw [hd] at h; exact provedM_size H h
theorem voteM_ok {id : Int} {st : VS} {k v q : Int} {op : ByteArray} (H : VotsOk st.1) (hy : VotOk k v q op id) : VotsOk (voteM id st k v q op).1 := addM_ok H hy
theorem voteM_len {id : Int} {st : VS} {k v q : Int} {op : ByteArray} : (voteM id st k v q op).2.length ≤ st.2.length + 1 := by
  unfold voteM
  dsimp only
  cases (addM st.1 (k, v, q, op, id)).2 with
  | true => rw [cond_true, List.length_append]; exact Nat.le_refl _
  | false => rw [cond_false]; omega
theorem stepM_ok {id view seq : Int} {st : VS} (H : VotsOk st.1) (h1 : InR 0 3 id) (h2 : InR 0 7 view) (h3 : InR 1 6 seq) : VotsOk (stepM id view st seq).1 ∧ (stepM id view st seq).2.length ≤ st.2.length + 1 := by
  unfold stepM
  cases hp : provedM st.1 2 view seq with
  | none => exact ⟨H, by dsimp only; omega⟩
  | some op => exact ⟨voteM_ok H ⟨.inr rfl, h2, h3, provedM_size H hp, h1⟩, voteM_len⟩
theorem followM_ok {id view : Int} {st : VS} (H : VotsOk st.1) (h1 : InR 0 3 id) (h2 : InR 0 7 view) : ∀ n, n ≤ 6 → VotsOk (followM id view st n).1 ∧ (followM id view st n).2.length ≤ st.2.length + n
  | 0, _ => ⟨H, Nat.le_refl _⟩
  | n + 1, hn => by
    obtain ⟨a, b⟩ := followM_ok H h1 h2 n (by omega)
    have := stepM_ok (seq := (n : Int) + 1) a h1 h2 ⟨by omega, by omega⟩
    exact ⟨this.1, by rw [followM]; omega⟩
theorem logM_len (vs : List voteSh.T) : ∀ (n : Nat) (log : List ByteArray), (logM vs n log).length ≤ log.length + n
  | 0, log => Nat.le_refl _
  | n + 1, log => by
    rw [logM]
    cases decM vs ((log.length : Int) + 1) 8 with
    | none => dsimp only; omega
    | some op =>
      have := logM_len vs n (log ++ [op])
      rw [List.length_append] at this
      dsimp only [List.length_cons, List.length_nil] at *
      omega
theorem logM_size {vs : List voteSh.T} (H : VotsOk vs) : ∀ (n : Nat) (log : List ByteArray), (∀ t ∈ log, t.size ≤ 120) → ∀ t ∈ logM vs n log, t.size ≤ 120
  | 0, log, h => h
  | n + 1, log, h => by
    rw [logM]
    cases hd : decM vs ((log.length : Int) + 1) 8 with
    | none => exact h
    | some op =>
      refine logM_size H n (log ++ [op]) fun t ht => ?_
      rcases List.mem_append.1 ht with ht | ht
      · exact h t ht
      · simp only [List.mem_cons, List.not_mem_nil, or_false] at ht
        subst ht; exact decM_size H hd
theorem logM_none {vs : List voteSh.T} {n : Nat} {log : List ByteArray} (h : decM vs ((log.length : Int) + 1) 8 = none) : logM vs n log = log := by
  cases n with
  | zero => rfl
  | succ n => rw [logM, h]
theorem logM_some {vs : List voteSh.T} {log : List ByteArray} {op : ByteArray} (h : decM vs ((log.length : Int) + 1) 8 = some op) (hn : log.length < 6) : logM vs (6 - log.length) log = logM vs (6 - (log ++ [op]).length) (log ++ [op]) := by
  obtain ⟨k, hk⟩ : ∃ k, 6 - log.length = k + 1 := ⟨6 - log.length - 1, by omega⟩
  rw [hk, logM, h, List.length_append]
  dsimp only [List.length_cons, List.length_nil]
  rw [show 6 - (log.length + (0 + 1)) = k by omega]
theorem stepM_none {id view seq : Int} {st : VS} (h : provedM st.1 2 view seq = none) : stepM id view st seq = st := by unfold stepM; rw [h]
theorem stepM_some {id view seq : Int} {st : VS} {op : ByteArray} (h : provedM st.1 2 view seq = some op) : stepM id view st seq = voteM id st 3 view seq op := by unfold stepM; rw [h]
theorem WkOk.logApp {n0 l : Nat} {g0 g : AHeap} {w : Wk} (W : WkOk n0 l g0 w) (le : g0.Le g) (wg : g.wf) (op : ByteArray) :
    ∃ (L' : LX Sh.str.T) (g2 : AHeap), L'.xs = w.log.xs ++ [op] ∧ (g.push ⟨[[.string op]], 1, true⟩).app (.slice w.log.a w.log.xs.length w.log.c) [[.string op]] 1 = some (.slice L'.a L'.xs.length L'.c, g2) ∧
      g2.wr l 0 12 [.slice L'.a L'.xs.length L'.c] = some (g2.put l (some ⟨[({ w with log := L' } : Wk).row], 14, true⟩)) ∧ WkOk n0 l (g2.put l (some ⟨[({ w with log := L' } : Wk).row], 14, true⟩)) { w with log := L' } ∧ Mv l w { w with log := L' } g0 (g2.put l (some ⟨[({ w with log := L' } : Wk).row], 14, true⟩)) := by
  have lp := AHeap.Le.push wg ⟨[[.string op]], 1, true⟩
  have wp := wg.push ⟨[[.string op]], 1, true⟩
  have W3 := W.grow (le.trans lp) wp
  obtain ⟨l2, g2, ids2, e6, B2, k2, w2, hi⟩ := SoB.app' (s := Sh.str) (x := op) (cs := [.string op]) (js := []) W3.L ⟨rfl, rfl⟩ .nil (fun _ _ h => by cases h)
  have el : ((show List ByteArray from w.log.xs) ++ [op]).length = w.log.xs.length + 1 := by simp
  rw [← el] at e6 B2
  have kp : Kp w.log.ids g0 g2 := (Kp.of_le (le.trans lp)).trans k2
  have hi' : ∀ z ∈ ids2, g0.n ≤ z ∨ z ∈ w.log.ids := fun z hz => by
    rcases hi z hz with h | h | h
    · left; rw [h]; exact (le.trans lp).n
    · exact .inr h
    · cases h
  have WS := W.setL ⟨some ⟨l2, 0, some 1⟩, 0, (show List ByteArray from w.log.xs) ++ [op], ids2⟩ B2 kp hi'
  exact ⟨⟨some ⟨l2, 0, some 1⟩, 0, (show List ByteArray from w.log.xs) ++ [op], ids2⟩, g2, rfl, e6, wk_wr (W.get (k := 4) rfl (by decide) kp) rfl (by simp), WS, Mv.setL ⟨some ⟨l2, 0, some 1⟩, 0, (show List ByteArray from w.log.xs) ++ [op], ids2⟩ kp hi' _⟩
end Go.Dat
namespace Go.Proofs.YtpgfjadjhliohaaGreat
open Go.Abs Go.Dat
set_option maxRecDepth 100000
set_option maxHeartbeats 8000000
def foL (n0 l : Nat) (g : AHeap) (b : Bool) (w : Wk) : Nat → LSpec
  | 0 => {
    ι := Nat × LX voteSh.T × LX saySh.T × AHeap
    κ := LX voteSh.T × LX saySh.T × AHeap
    I := fun i => i.1 ≤ 6 ∧ WkOk n0 l i.2.2.2 { w with votes := i.2.1, says := i.2.2.1 } ∧ (i.2.1.xs, i.2.2.1.xs) = followM w.id w.view (w.votes.xs, w.says.xs) i.1 ∧ (w.chg = true → i.1 = 0) ∧ (b = true → w.chg = false) ∧ Mv l w { w with votes := i.2.1, says := i.2.2.1 } g i.2.2.2
    μ := fun i => 6 - i.1
    head := fun i => ⟨[(0, .pointer (some ⟨l, 0, some 0⟩)), (2, .int .i64 ((i.1 : Int) + 1))], [], i.2.2.2⟩
    post := fun j => ⟨[(0, .pointer (some ⟨l, 0, some 0⟩))], [], j.2.2⟩
    R := fun _ j => WkOk n0 l j.2.2 { w with votes := j.1, says := j.2.1 } ∧ Mv l w { w with votes := j.1, says := j.2.1 } g j.2.2 ∧ (j.1.xs, j.2.1.xs) = bif w.chg then (w.votes.xs, w.says.xs) else followM w.id w.view (w.votes.xs, w.says.xs) 6
    ret := fun _ _ _ => False }
  | _ => {
    ι := LX voteSh.T × LX saySh.T × LX Sh.str.T × AHeap
    κ := LX Sh.str.T × AHeap
    I := fun i => WkOk n0 l i.2.2.2 { w with votes := i.1, says := i.2.1, log := i.2.2.1 } ∧ VotsOk i.1.xs ∧ i.2.2.1.xs.length ≤ 6 ∧ Mv l w { w with votes := i.1, says := i.2.1, log := i.2.2.1 } g i.2.2.2
    μ := fun i => 6 - i.2.2.1.xs.length
    head := fun i => ⟨[(0, .pointer (some ⟨l, 0, some 0⟩))], [], i.2.2.2⟩
    post := fun j => ⟨[], [], j.2⟩
    R := fun i j => WkOk n0 l j.2 { w with votes := i.1, says := i.2.1, log := j.1 } ∧ Mv l w { w with votes := i.1, says := i.2.1, log := j.1 } g j.2 ∧ j.1.xs = logM i.1.xs (6 - i.2.2.1.xs.length) i.2.2.1.xs
    ret := fun i v h' => v = .tuple #[] ∧ ∃ L', WkOk n0 l h' { w with votes := i.1, says := i.2.1, log := L' } ∧ Mv l w { w with votes := i.1, says := i.2.1, log := L' } g h' ∧ L'.xs = logM i.1.xs (6 - i.2.2.1.xs.length) i.2.2.1.xs }
noncomputable def stM (w : Wk) : VS := bif w.chg then (w.votes.xs, w.says.xs) else followM w.id w.view (w.votes.xs, w.says.xs) 6
theorem stM_ok {w : Wk} (H : VotsOk w.votes.xs) (h1 : InR 0 3 w.id) (h2 : InR 0 7 w.view) : VotsOk (stM w).1 := by
  unfold stM
  cases w.chg with
  | true => exact H
  | false => exact (followM_ok (st := (w.votes.xs, w.says.xs)) H h1 h2 6 (Nat.le_refl _)).1
abbrev Qre := LX (Sh.T voteSh) × LX (Sh.T saySh) × LX (Sh.T Sh.str) × AHeap
abbrev Qrf := LX (Sh.T voteSh) × LX (Sh.T saySh) × LX ByteArray × AHeap
abbrev Qrg := LX (Sh.T Sh.str) × AHeap
abbrev Qrh := LX (Sh.T Sh.str)
abbrev Qri := LX (Sh.T voteSh) × LX (Sh.T saySh) × AHeap
abbrev Qrj := List (Sh.T voteSh) × List (Sh.T saySh)
abbrev Qrk := Nat × LX (Sh.T voteSh) × LX (Sh.T saySh) × AHeap
def Qpz (a b c d e : Prop) := a ∧ b ∧ c ∧ d ∧ e
def Qq0 := True ∧ True ∧ True
def Qq1 := (1 : Nat)
def Qq2 := (0 : Nat)
def Qq3 (a : AHeap) (b c : Nat) (d : List Value) (e : Prop) := AHeap.ld a b Qq2 c Qq1 = some d ∧ e
def Qq4 (a : AHeap) (b : Nat) (c : Option Addr) (d e : Nat) (f : Prop) := Qq3 a b 12 [Value.slice c d e] f
def Qq5 (a : Qre) := Prod.fst (Prod.snd (Prod.snd a))
def Qq6 (a : Qre) := 6 - List.length (LX.xs (Qq5 a))
def Qq7 (a : List (Sh.T Sh.str)) (b : Qre) (c : Qrf) := a = logM (LX.xs (Prod.fst b)) (Qq6 b) (LX.xs (Prod.fst (Prod.snd (Prod.snd c))))
def Qq8 (a : Qrg) (b : Qre) (c : Qrf) := Qq7 (LX.xs (Prod.fst a)) b c
def Qq9 (a : Wk) (b : LX (Sh.T voteSh)) (c : Qrh) (d : LX (Sh.T saySh)) := Wk.mk (Wk.id a) (Wk.view a) (Wk.chg a) (Wk.top a) b (Wk.changes a) (Wk.nk a) (Wk.nf a) (Wk.nv a) (Wk.nq a) (Wk.nop a) (Wk.nch a) c d
def Qqa (a : Wk) (b : Qre) (c : Qrh) := Qq9 a (Prod.fst b) c (Prod.fst (Prod.snd b))
def Qqb (a : Wk) (b : Qre) (c : Qrg) := Qqa a b (Prod.fst c)
def Qqc (a : Qre) := Prod.snd (Prod.snd (Prod.snd a))
def Qqd (a : AHeap) (b : Nat) (c : Option Addr) (d e : Nat) (f : Prop) := Qq3 a b 4 [Value.slice c d e] f
def Qqe (a : List Value) := Value.tuple (Array.mk a)
def Qqf := Qqe List.nil
def Qqg (a : Value) (b : Prop) := a = Qqf ∧ b
def Qqh (a b : Nat) (c : AHeap) (d : Wk) (e : Qre) (f : Qrh) (g : Wk) (h : AHeap) (i : Prop) := WkOk a b c (Qqa d e f) ∧ Mv b d g h c ∧ i
def Qqi (a : Qrh) (b : Qre) (c : Qrf) := Qq7 (LX.xs a) b c
def Qqj (a b : Nat) (c : Qrg) (d : Wk) (e : Qre) (f : Wk) (g : AHeap) (h : Prop) := WkOk a b (Prod.snd c) (Qqb d e c) ∧ Mv b d f g (Prod.snd c) ∧ h
def Qqk (a b : Nat) (c : Qre) (d : Wk) (e : Prop) := WkOk a b (Qqc c) (Qqa d c (Qq5 c)) ∧ VotsOk (LX.xs (Prod.fst c)) ∧ List.length (LX.xs (Qq5 c)) ≤ 6 ∧ e
def Qql (a : Nat) (b : Wk) (c : Qre) (d : AHeap) := Mv a b (Qqa b c (Qq5 c)) d (Qqc c)
def Qqm (a : Nat) := Value.pointer (some (Addr.mk a Qq2 (some Qq2)))
def Qqn (a : Nat) := Qqm a = Qqm a
def Qqo (a : AHeap) (b : List (List Value)) := AHeap.push a (AObj.mk b Qq1 true)
def Qqp (a : ByteArray) := [Value.string a]
def Qqq (a : List (List Value)) := List.all a (fun (row : List Value) =>
  decide (List.length row = (1 : Nat)) &&
    List.all row fun (v : Value) =>
      match v with
      | Value.agg cells => false
      | Value.tuple cells => false
      | Value.complex k re im => false
      | Value.chan r => false
      | x => true)
def Qqr (a : FuncId) (b : List Value) (c : AHeap) (d : Value) (e : AHeap) := ACall Tryz.prog a b c d e
def Qqs (a : Int) := Value.int IntKind.i64 a
def Qqt (a : Int) := Qqs (IntKind.wrap IntKind.i64 (a + 1))
def Qqu (a : Qri) := Prod.snd (Prod.snd a)
def Qqv (a : Qri) := Prod.fst (Prod.snd a)
def Qqw (a : Wk) (b : Qri) := Qq9 a (Prod.fst b) (Wk.log a) (Qqv b)
def Qqx (a b : Nat) (c : Qri) (d e : Wk) (f : AHeap) (g h : Qrj) := WkOk a b (Qqu c) (Qqw d c) ∧ Mv b d e f (Qqu c) ∧ g = h
def Qqy (a : Wk) := Prod.mk (LX.xs (Wk.votes a)) (LX.xs (Wk.says a))
noncomputable def Qqz (a : Wk) := cond (Wk.chg a) (Qqy a) (followM (Wk.id a) (Wk.view a) (Qqy a) 6)
def Qr0 (a : Qri) := Prod.mk (LX.xs (Prod.fst a)) (LX.xs (Qqv a))
def Qr1 (a : Qrk) := Qqu (Prod.snd a)
def Qr2 (a : Qrk) := (↑(Prod.fst a) : Int) + 1
def Qr3 (a : Nat) (b c : Qrk) (d : AHeap) (e f g h : Prop) := Qpz (Qqn a) (Qqt (Qr2 b) = Qqs (Qr2 c)) (Qr1 c = d) e (f ∧ g ∧ h)
def Qr4 (a : Qrk) := 6 - Prod.fst a
def Qr5 (a : Wk) (b : Qrk) := Qq9 a (Prod.fst (Prod.snd b)) (Wk.log a) (Qqv (Prod.snd b))
def Qr6 (a : Qrk) (b c : Nat) (d : Wk) (e : Qrj) (f g h : Prop) := Qpz (Prod.fst a ≤ 6) (WkOk b c (Qr1 a) (Qr5 d a)) (Prod.mk (LX.xs (Prod.fst (Prod.snd a))) (LX.xs (Qqv (Prod.snd a))) = e) f (g ∧ h)
def Qr7 (a : Nat) (b : Wk) (c : Qrk) (d : AHeap) := Mv a b (Qr5 b c) d (Qr1 c)
def Qr8 (a : Bool) (b : Wk) := a = true → Wk.chg b = false
def Qr9 (a : Wk) (b : Qrk) := Wk.chg a = true → Prod.fst b = Qq2
noncomputable def Qra (a : Wk) (b : Qrk) := followM (Wk.id a) (Wk.view a) (Qqy a) (Prod.fst b)
def Qrb (a : Qrk) := AHeap.n (Qr1 a)
def Qrc (a b : Int) (c : ByteArray) (d : Option Addr) (e f : Nat) := [Qqs a, Qqs b, Value.string c, Value.slice d e f]
def Qrd (a : Qrk) := AHeap.push (Qr1 a) (AObj.mk [[Qqs (Int.ofNat Qq2), Qqs (Int.ofNat Qq2), Value.string (ByteArray.mk (Array.mk List.nil)), Value.slice none Qq2 Qq2]] 4 true)
theorem follow_spec {n0 l : Nat} {g : AHeap} {w : Wk} (W : WkOk n0 l g w) (H : VotsOk w.votes.xs) (h1 : InR 0 3 w.id) (h2 : InR 0 7 w.view) (hs : w.says.xs.length ≤ 500) (hl : w.log.xs.length ≤ 6) :
    ∃ r g', ACall Tryz.prog 54 [.pointer (some ⟨l, 0, some 0⟩)] g r g' ∧ ∃ (V' : LX voteSh.T) (S' : LX saySh.T) (L' : LX Sh.str.T), r = .tuple #[] ∧ (V'.xs, S'.xs) = stM w ∧ L'.xs = logM (stM w).1 (6 - w.log.xs.length) w.log.xs ∧ WkOk n0 l g' { w with votes := V', says := S', log := L' } ∧ Mv l w { w with votes := V', says := S', log := L' } g g' := by
  refine acall_q fun Q HQ => ?_
  refine acall_vc (fun t => t == 3) (fun r => match r with | 3 => [(15, 2, []), (0, 0, []), (1, 0, []), (2, 0, []), (3, 0, []), (5, 0, []), (6, 0, []), (7, 0, []), (8, 0, []), (10, 0, []), (4, 1, []), (9, 1, []), (11, 3, [15]), (12, 0, []), (13, 0, []), (14, 0, []), (16, 3, []), (17, 0, [])] | 5 => [(0, 0, []), (1, 0, []), (2, 0, []), (3, 0, []), (4, 0, []), (6, 0, []), (7, 0, []), (5, 1, []), (8, 1, []), (9, 3, [])] | 7 => [(0, 0, []), (1, 0, []), (2, 0, []), (3, 0, []), (5, 0, []), (6, 0, []), (7, 0, []), (8, 0, []), (4, 1, []), (9, 1, []), (10, 0, []), (11, 0, []), (12, 3, []), (13, 0, []), (14, 0, []), (15, 0, []), (16, 0, []), (17, 0, [])] | _ => []) (foL n0 l g false w) mixed Tryz.func54 rfl rfl rfl (Nat.le_of_ble_eq_true rfl) ?_ ?_
  · (refine vc_mp (by kernel_rfl : (Qpz (Qpz True (∀ (i : Nat × LX (Sh.T voteSh) × LX (Sh.T saySh) × AHeap), Qr6 i n0 l w (Qra w i) (Qr9 w i) (Qr8 false w) (Qr7 l w i g) → bs (decide (Qr2 i ≤ 6)) (∃ (x : Bool), Qq3 (Qr1 i) l 2 [Value.bool x] (bs (not x) (∃ (a : Option Addr) (n c : Nat), Qqd (Qrd i) l a n c (∃ (x : Int), Qq3 (Qrd i) l Qq1 [Qqs x] (∃ (x_1 x_2 : Int) (x_3 : ByteArray) (a_1 : Option Addr) (n_1 c_1 : Nat) (x_4 : Bool) (h' : AHeap), Qqr 105 [Value.slice a n c, Qqs x, Qqs (Qr2 i)] (Qrd i) (Qqe [Value.agg (Array.mk (Qrc x_1 x_2 x_3 a_1 n_1 c_1)), Value.bool x_4]) h' ∧ (AHeap.get h' (Qrb i) = AHeap.get (Qrd i) (Qrb i) ∧ AHeap.n (Qrd i) ≤ AHeap.n h') ∧ (∃ (h'_1 : AHeap), AHeap.wr h' (Qrb i) Qq2 Qq2 (Qrc x_1 x_2 x_3 a_1 n_1 c_1) = some h'_1 ∧ bs x_4 (∃ (x : Int), Qq3 h'_1 l Qq1 [Qqs x] (∃ (x_5 : ByteArray), Qq3 h'_1 (Qrb i) 2 (Qqp x_5) (∃ (h' : AHeap), Qqr 63 [Qqm l, Qqs 3, Qqs x, Qqs (Qr2 i), Value.string x_5] h'_1 Qqf h' ∧ (∃ (j : Nat × LX (Sh.T voteSh) × LX (Sh.T saySh) × AHeap), Qr3 l i j h' (Qr6 j n0 l w (Qra w j) (Qr9 w j) (Qr8 false w) (Qr7 l w j g)) (Qr4 j < Qr4 i) (∀ (k : LX (Sh.T voteSh) × LX (Sh.T saySh) × AHeap), Qqx n0 l k w (Qqw w k) g (Qr0 k) (Qqz w) → Qqx n0 l k w (Qqw w k) g (Qr0 k) (Qqz w)) (∀ (v : Value) (h : AHeap), False → False))))) (∃ (j : Nat × LX (Sh.T voteSh) × LX (Sh.T saySh) × AHeap), Qr3 l i j h'_1 (Qr6 j n0 l w (Qra w j) (Qr9 w j) (Qr8 false w) (Qr7 l w j g)) (Qr4 j < Qr4 i) (∀ (k : LX (Sh.T voteSh) × LX (Sh.T saySh) × AHeap), Qqx n0 l k w (Qqw w k) g (Qr0 k) (Qqz w) → Qqx n0 l k w (Qqw w k) g (Qr0 k) (Qqz w)) (∀ (v : Value) (h : AHeap), False → False)))))) (∃ (j : LX (Sh.T voteSh) × LX (Sh.T saySh) × AHeap), Qqn l ∧ Qqu j = Qr1 i ∧ Qqx n0 l j w (Qqw w j) g (Qr0 j) (Qqz w)))) (∃ (j : LX (Sh.T voteSh) × LX (Sh.T saySh) × AHeap), Qqn l ∧ Qqu j = Qr1 i ∧ Qqx n0 l j w (Qqw w j) g (Qr0 j) (Qqz w))) Qq0 (True ∧ True ∧ True ∧ True) True) (∀ (i : LX (Sh.T voteSh) × LX (Sh.T saySh) × LX (Sh.T Sh.str) × AHeap), Qqk n0 l i w (Qql l w i g) → (∃ (a : Option Addr) (n c : Nat), Qq4 (Qqc i) l a n c (bs (decide ((↑n : Int) < 6)) (∃ (a : Option Addr) (n c : Nat), Qqd (Qqc i) l a n c (∃ (a_1 : Option Addr) (n_1 c_1 : Nat), Qq4 (Qqc i) l a_1 n_1 c_1 (∃ (x : ByteArray) (x_1 : Bool) (h' : AHeap), Qqr 106 [Value.slice a n c, Qqt (↑n_1 : Int)] (Qqc i) (Qqe [Value.string x, Value.bool x_1]) h' ∧ bs (not x_1) (Qqg Qqf (∃ (L' : LX (Sh.T Sh.str)), Qqh n0 l h' w i L' (Qqa w i L') g (Qqi L' i i))) (∃ (a : Option Addr) (n c : Nat), Qq4 h' l a n c (∃ (xs : List (List Value)), rowsV (Qqo h' [Qqp x]) (Value.slice (some (Addr.mk (AHeap.n h') Qq2 (some Qq1))) Qq1 2) = some xs ∧ Qqq xs = true ∧ (n + List.length xs) * 16 ≤ 140737488355328 ∧ (∃ (a_2 : Option Addr) (n_2 c_2 : Nat) (h'_1 : AHeap), AHeap.app (Qqo h' [Qqp x]) (Value.slice a n c) xs Qq1 = some (Prod.mk (Value.slice a_2 n_2 c_2) h'_1) ∧ (∃ (h' : AHeap), AHeap.wr h'_1 l Qq2 12 [Value.slice a_2 n_2 c_2] = some h' ∧ (∃ (j : LX (Sh.T voteSh) × LX (Sh.T saySh) × LX (Sh.T Sh.str) × AHeap), Qpz (Qqn l) (Qqc j = h') (Qqk n0 l j w (Qql l w j g)) (Qq6 j < Qq6 i) ((∀ (k : LX (Sh.T Sh.str) × AHeap), Qqj n0 l k w j (Qqb w j k) g (Qq8 k j j) → Qqj n0 l k w i (Qqb w i k) g (Qq8 k i i)) ∧ (∀ (v : Value) (h : AHeap), Qqg v (∃ (L' : LX (Sh.T Sh.str)), Qqh n0 l h w j L' (Qqa w j L') g (Qqi L' j j)) → Qqg v (∃ (L' : LX (Sh.T Sh.str)), Qqh n0 l h w i L' (Qqa w i L') g (Qqi L' i i)))))))))))) (∃ (j : LX (Sh.T Sh.str) × AHeap), Prod.snd j = Qqc i ∧ WkOk n0 l (Prod.snd j) (Qqb w i j) ∧ Mv l w (Qqb w i j) g (Prod.snd j) ∧ Qq8 j i i)))) Qq0 True (Qq0 ∧ True)) = _) ?_; delta Qpz Qq0 Qq1 Qq2 Qq3 Qq4 Qq5 Qq6 Qq7 Qq8 Qq9 Qqa Qqb Qqc Qqd Qqe Qqf Qqg Qqh Qqi Qqj Qqk Qql Qqm Qqn Qqo Qqp Qqq Qqr Qqs Qqt Qqu Qqv Qqw Qqx Qqy Qqz Qr0 Qr1 Qr2 Qr3 Qr4 Qr5 Qr6 Qr7 Qr8 Qr9 Qra Qrb Qrc Qrd)
    simp only [true_and, and_true]
    refine ⟨fun ⟨i, V, S, g1⟩ ⟨hi, W1, e1, hc, hb, M1⟩ => ?_, fun ⟨V, S, L, g1⟩ ⟨W1, H1, hn, M1⟩ => ?_⟩
    · dsimp only at *
      have HF := followM_ok (st := (w.votes.xs, w.says.xs)) H h1 h2 i hi
      rw [← e1] at HF
      dsimp only at HF
      obtain ⟨HV, HS⟩ := HF
      refine bs_d (fun hlt => ?_) (fun hge => ⟨(V, S, g1), rfl, W1, M1, ?_⟩)
      · refine ⟨_, W1.ld (i := 2) (n := 1) rfl (by decide), bs_nb (fun ec => ?_) (fun ec => ⟨(V, S, g1), rfl, W1, M1, ?_⟩)⟩
        · have wp := W1.wf.push ⟨[[.int .i64 (Int.ofNat 0), .int .i64 (Int.ofNat 0), .string ⟨#[]⟩, .slice none 0 0]], 4, true⟩
          have lp := AHeap.Le.push W1.wf ⟨[[.int .i64 (Int.ofNat 0), .int .i64 (Int.ofNat 0), .string ⟨#[]⟩, .slice none 0 0]], 4, true⟩
          have W2 := W1.grow lp wp
          obtain ⟨_, g2, A, le2, w2, hr⟩ := l11Proof_spec _ wp V.a V.c V.xs w.view ((i : Int) + 1) W2.V.sn.so.sl HV
          have hg := le2.get _ _ (AHeap.get_push_eq (h := g1) (o := ⟨[[.int .i64 (Int.ofNat 0), .int .i64 (Int.ofNat 0), .string ⟨#[]⟩, .slice none 0 0]], 4, true⟩))
          have leA : ∀ row : List Value, g1.Le (g2.put g1.n (some ⟨[row], 4, true⟩)) := fun row => (lp.trans le2).put (W1.wf g1.n (Nat.le_refl _)) _
          have wA : ∀ row : List Value, (g2.put g1.n (some ⟨[row], 4, true⟩)).wf := fun row => w2.put (w2.lt hg) _
          rcases hr with ⟨e, rfl⟩ | ⟨v, op, a, c, js, e, rfl, sn, fr⟩
          · have e' : provedM V.xs 2 w.view ((i : Int) + 1) = none := Option.map_eq_none_iff.1 e
            refine ⟨_, _, _, W2.ld rfl (by decide), _, W2.ld rfl (by decide), _, _, _, _, _, _, _, _, A, ⟨hg.trans AHeap.get_push_eq.symm, le2.n⟩, _, wr_field hg rfl (by simp), bs_b (fun e => by cases e) (fun _ => ⟨(i + 1, V, S, _), by rw [wrap_i64 (by omega)]; rfl, rfl, ⟨by dsimp only; omega, W1.grow (leA _) (wA _), ?_, fun h => absurd (Eq.trans (Eq.symm ec) h) (by decide), hb, M1.trans W.wf (.of_le (leA _))⟩, by dsimp only; omega, fun _ h => h, fun _ _ h => h⟩)⟩
            rw [followM, ← e1, stepM_none e']
          · obtain ⟨op', e', e2⟩ := Option.map_eq_some_iff.1 e
            cases e2
            have W3 := W1.grow (leA [.int .i64 w.view, .int .i64 ((i : Int) + 1), .string op, .slice a (votersM V.xs 2 w.view ((i : Int) + 1) op).length c]) (wA _)
            obtain ⟨_, g4, A4, V', S', rfl, e4, W4, M4⟩ := sVote_spec W3 HV.1 (Nat.le_trans HS (by omega)) 3 w.view ((i : Int) + 1) op
            refine ⟨_, _, _, W2.ld rfl (by decide), _, W2.ld rfl (by decide), _, _, _, _, _, _, _, _, A, ⟨hg.trans AHeap.get_push_eq.symm, le2.n⟩, _, wr_field hg rfl (by simp), bs_b (fun _ => ⟨_, W3.ld rfl (by decide), _, by rw [AHeap.ld, AHeap.get_put_eq]; rfl, _, A4, (i + 1, V', S', g4), by rw [wrap_i64 (by omega)]; rfl, rfl, ⟨by dsimp only; omega, W4, ?_, fun h => absurd (Eq.trans (Eq.symm ec) h) (by decide), hb, (M1.trans W.wf (.of_le (leA _))).trans W.wf M4⟩, by dsimp only; omega, fun _ h => h, fun _ _ h => h⟩) (fun e => by cases e)⟩
            rw [followM, ← e1, stepM_some e']; exact e4
        · rw [ec, cond_true]; rw [hc ec] at e1; exact e1
      · obtain rfl : i = 6 := by omega
        have hx : w.chg = false := by
          cases hx : w.chg with
          | true => exact absurd (hc hx) (by decide)
          | false => rfl
        rw [hx, cond_false]; exact e1
    · dsimp only at *
      refine ⟨_, _, _, W1.ld (i := 12) (n := 1) rfl (by decide), bs_d (fun hlt => ?_) (fun hge => ⟨(L, g1), rfl, W1, M1, ?_⟩)⟩
      · obtain ⟨_, g2, A, le2, w2, hr⟩ := l11Decided_spec g1 W1.wf V.a V.c V.xs (IntKind.i64.wrap ((L.xs.length : Int) + 1)) W1.V.sn.so.sl H1
        have ew : IntKind.i64.wrap ((L.xs.length : Int) + 1) = (L.xs.length : Int) + 1 := wrap_i64 (by omega)
        rcases hr with ⟨e, rfl⟩ | ⟨op, e, rfl⟩
        · rw [ew] at e
          exact ⟨_, _, _, W1.ld rfl (by decide), _, _, _, W1.ld rfl (by decide), _, _, _, A, bs_nb (fun _ => ⟨L, W1.grow le2 w2, M1.trans W.wf (.of_le le2), (logM_none e).symm⟩) (fun h => by cases h)⟩
        · rw [ew] at e
          have lt6 : L.xs.length < 6 := by have h6 : (L.xs.length : Int) < 6 := hlt; omega
          obtain ⟨L', g3, eL, e5, e6, W3, M3⟩ := W1.logApp le2 w2 op
          dsimp only at eL e5 e6 W3
          refine ⟨_, _, _, W1.ld rfl (by decide), _, _, _, W1.ld rfl (by decide), _, _, _, A, bs_nb (fun h => by cases h) (fun _ => ⟨_, _, _, (W1.grow le2 w2).ld rfl (by decide), _, rowsV_push, rfl, by simp only [List.length_cons, List.length_nil]; omega, _, _, _, g3, e5, _, e6, (V, S, L', _), rfl, ⟨W3, H1, ?_, M1.trans W.wf M3⟩, ?_, fun k h => ⟨h.1, h.2.1, h.2.2.trans ?_⟩, fun v h hr => ⟨hr.1, hr.2.elim fun L2 h2 => ⟨L2, h2.1, h2.2.1, h2.2.2.trans ?_⟩⟩⟩)⟩
          · show L'.xs.length ≤ 6
            rw [eL, List.length_append]; exact lt6
          · show 6 - L'.xs.length < 6 - L.xs.length
            have l6 : L.xs.length < 6 := lt6
            rw [eL, List.length_append]; simp only [List.length_cons, List.length_nil]; omega
          · show logM V.xs (6 - L'.xs.length) L'.xs = _
            rw [eL]; exact (logM_some e lt6).symm
          · show logM V.xs (6 - L'.xs.length) L'.xs = _
            rw [eL]; exact (logM_some e lt6).symm
      · have hge' : ¬ ((L.xs.length : Int) < 6) := hge
        rw [show 6 - L.xs.length = 0 by omega]; rfl
  (refine vc_mp (by kernel_rfl : (∃ (i : Nat × LX (Sh.T voteSh) × LX (Sh.T saySh) × AHeap), Qpz (Qqn l) (Qqs 1 = Qqs (Qr2 i)) (Qr1 i = g) (Qr6 i n0 l w (Qra w i) (Qr9 w i) (Qr8 false w) (Qr7 l w i g)) ((∀ (j : LX (Sh.T voteSh) × LX (Sh.T saySh) × AHeap), Qqx n0 l j w (Qqw w j) g (Qr0 j) (Qqz w) → (∃ (i : LX (Sh.T voteSh) × LX (Sh.T saySh) × LX (Sh.T Sh.str) × AHeap), Qpz (Qqn l) (Qqc i = Qqu j) (Qqk n0 l i w (Qql l w i g)) (∀ (j : LX (Sh.T Sh.str) × AHeap), Qqj n0 l j w i (Qqb w i j) g (Qq8 j i i) → Q Qqf (Prod.snd j)) (∀ (v : Value) (h : AHeap), Qqg v (∃ (L' : LX (Sh.T Sh.str)), Qqh n0 l h w i L' (Qqa w i L') g (Qqi L' i i)) → Q v h))) ∧ (∀ (v : Value) (h : AHeap), False → Q v h))) = _) ?_; delta Qpz Qq2 Qq5 Qq6 Qq7 Qq8 Qq9 Qqa Qqb Qqc Qqe Qqf Qqg Qqh Qqi Qqj Qqk Qql Qqm Qqn Qqs Qqu Qqv Qqw Qqx Qqy Qqz Qr0 Qr1 Qr2 Qr5 Qr6 Qr7 Qr8 Qr9 Qra)
  have tl : ∀ (V : LX voteSh.T) (S : LX saySh.T), (V.xs, S.xs) = stM w → VotsOk V.xs ∧ ∀ (L : LX Sh.str.T) (g2 : AHeap), WkOk n0 l g2 { w with votes := V, says := S, log := L } → Mv l w { w with votes := V, says := S, log := L } g g2 → L.xs = logM V.xs (6 - w.log.xs.length) w.log.xs → Q (.tuple #[]) g2 := fun V S e => by
    have hv := stM_ok H h1 h2
    rw [← e] at hv
    exact ⟨hv, fun L g2 W2 M2 eL => HQ _ _ ⟨V, S, L, rfl, e, by rw [← e]; exact eL, W2, M2⟩⟩
  exact ⟨(0, w.votes, w.says, g), rfl, rfl, rfl, ⟨Nat.zero_le _, W, rfl, fun _ => rfl, fun h => (by cases h), .of_le (.refl _)⟩, fun ⟨V, S, g1⟩ ⟨W1, M1, e1⟩ => ⟨(V, S, w.log, g1), rfl, rfl, ⟨W1, (tl V S e1).1, hl, M1⟩, fun ⟨L, g2⟩ ⟨W2, M2, eL⟩ => (tl V S e1).2 L g2 W2 M2 eL, fun v h ⟨ev, L, W2, M2, eL⟩ => by rw [ev]; exact (tl V S e1).2 L h W2 M2 eL⟩, fun _ _ h => h.elim⟩
theorem goOn_spec {n0 l : Nat} {g : AHeap} {w : Wk} (W : WkOk n0 l g w) (H : VotsOk w.votes.xs) (h1 : InR 0 3 w.id) (h2 : InR 0 7 w.view) (hs : w.says.xs.length ≤ 500) (hl : w.log.xs.length ≤ 6) :
    ∃ r g', ACall Tryz.prog 108 [.pointer (some ⟨l, 0, some 0⟩)] g r g' ∧ ∃ (V' : LX voteSh.T) (S' : LX saySh.T) (L' : LX Sh.str.T), r = .tuple #[] ∧ (V'.xs, S'.xs) = stM w ∧ L'.xs = logM (stM w).1 (6 - w.log.xs.length) w.log.xs ∧ WkOk n0 l g' { w with votes := V', says := S', log := L' } ∧ Mv l w { w with votes := V', says := S', log := L' } g g' := by
  refine acall_q fun Q HQ => ?_
  refine acall_vc (fun t => t == 3) (fun r => match r with | 4 => [(12, 2, []), (0, 0, []), (1, 0, []), (2, 0, []), (3, 0, []), (5, 0, []), (6, 0, []), (7, 0, []), (8, 0, []), (10, 0, []), (4, 1, []), (9, 1, []), (11, 3, [12]), (13, 3, [])] | 6 => [(0, 0, []), (1, 0, []), (2, 0, []), (3, 0, []), (4, 0, []), (6, 0, []), (7, 0, []), (5, 1, []), (8, 1, []), (9, 3, [])] | 8 => [(0, 0, []), (1, 0, []), (2, 0, []), (3, 0, []), (5, 0, []), (6, 0, []), (7, 0, []), (8, 0, []), (4, 1, []), (9, 1, []), (10, 3, [4]), (11, 0, []), (12, 3, []), (13, 0, []), (14, 0, []), (15, 0, []), (16, 0, []), (17, 0, [])] | _ => []) (foL n0 l g true w) mixed Tryz.func108 rfl rfl rfl (Nat.le_of_ble_eq_true rfl) ?_ ?_
  · (refine vc_mp (by kernel_rfl : (Qpz (True ∧ Qpz True (∀ (i : Nat × LX (Sh.T voteSh) × LX (Sh.T saySh) × AHeap), Qr6 i n0 l w (Qra w i) (Qr9 w i) (Qr8 true w) (Qr7 l w i g) → bs (decide (Qr2 i ≤ 6)) (∃ (a : Option Addr) (n c : Nat), Qqd (Qrd i) l a n c (∃ (x : Int), Qq3 (Qrd i) l Qq1 [Qqs x] (∃ (x_1 x_2 : Int) (x_3 : ByteArray) (a_1 : Option Addr) (n_1 c_1 : Nat) (h' : AHeap), Qqr 147 [Value.slice a n c, Qqs x, Qqs (Qr2 i)] (Qrd i) (Value.agg (Array.mk (Qrc x_1 x_2 x_3 a_1 n_1 c_1))) h' ∧ (AHeap.get h' (Qrb i) = AHeap.get (Qrd i) (Qrb i) ∧ AHeap.n (Qrd i) ≤ AHeap.n h') ∧ (∃ (h'_1 : AHeap), AHeap.wr h' (Qrb i) Qq2 Qq2 (Qrc x_1 x_2 x_3 a_1 n_1 c_1) = some h'_1 ∧ (∃ (x : Int), Qq3 h'_1 (Qrb i) Qq1 [Qqs x] (bs (not (decide (x = 0))) (∃ (x : Int), Qq3 h'_1 l Qq1 [Qqs x] (∃ (x_4 : ByteArray), Qq3 h'_1 (Qrb i) 2 (Qqp x_4) (∃ (h' : AHeap), Qqr 126 [Qqm l, Qqs 3, Qqs x, Qqs (Qr2 i), Value.string x_4] h'_1 Qqf h' ∧ (∃ (j : Nat × LX (Sh.T voteSh) × LX (Sh.T saySh) × AHeap), Qr3 l i j h' (Qr6 j n0 l w (Qra w j) (Qr9 w j) (Qr8 true w) (Qr7 l w j g)) (Qr4 j < Qr4 i) (∀ (k : LX (Sh.T voteSh) × LX (Sh.T saySh) × AHeap), Qqx n0 l k w (Qqw w k) g (Qr0 k) (Qqz w) → Qqx n0 l k w (Qqw w k) g (Qr0 k) (Qqz w)) (∀ (v : Value) (h : AHeap), False → False))))) (∃ (j : Nat × LX (Sh.T voteSh) × LX (Sh.T saySh) × AHeap), Qr3 l i j h'_1 (Qr6 j n0 l w (Qra w j) (Qr9 w j) (Qr8 true w) (Qr7 l w j g)) (Qr4 j < Qr4 i) (∀ (k : LX (Sh.T voteSh) × LX (Sh.T saySh) × AHeap), Qqx n0 l k w (Qqw w k) g (Qr0 k) (Qqz w) → Qqx n0 l k w (Qqw w k) g (Qr0 k) (Qqz w)) (∀ (v : Value) (h : AHeap), False → False)))))))) (∃ (j : LX (Sh.T voteSh) × LX (Sh.T saySh) × AHeap), Qqn l ∧ Qqu j = Qr1 i ∧ Qqx n0 l j w (Qqw w j) g (Qr0 j) (Qqz w))) Qq0 (True ∧ True ∧ True ∧ True) True ∧ True) (∀ (i : LX (Sh.T voteSh) × LX (Sh.T saySh) × LX (Sh.T Sh.str) × AHeap), Qqk n0 l i w (Qql l w i g) → (∃ (a : Option Addr) (n c : Nat), Qq4 (Qqc i) l a n c (bs (decide ((↑n : Int) < 6)) (∃ (a : Option Addr) (n c : Nat), Qqd (Qqc i) l a n c (∃ (a_1 : Option Addr) (n_1 c_1 : Nat), Qq4 (Qqc i) l a_1 n_1 c_1 (∃ (x : Int) (h' : AHeap), Qqr 149 [Value.slice a_1 n_1 c_1] (Qqc i) (Qqs x) h' ∧ (∃ (a_2 : Option Addr) (n_2 c_2 : Nat), Qqd h' l a_2 n_2 c_2 (Value.slice a_2 n_2 c_2 = Value.slice a n c)) ∧ (∃ (x_1 : ByteArray) (x_2 : Bool) (h'_1 : AHeap), Qqr 148 [Value.slice a n c, Qqt x] h' (Qqe [Value.string x_1, Value.bool x_2]) h'_1 ∧ bs (not x_2) (Qqg Qqf (∃ (L' : LX (Sh.T Sh.str)), Qqh n0 l h'_1 w i L' (Qqa w i L') g (Qqi L' i i))) (∃ (a : Option Addr) (n c : Nat), Qq4 h'_1 l a n c (∃ (xs : List (List Value)), rowsV (Qqo h'_1 [Qqp x_1]) (Value.slice (some (Addr.mk (AHeap.n h'_1) Qq2 (some Qq1))) Qq1 2) = some xs ∧ Qqq xs = true ∧ (n + List.length xs) * 16 ≤ 140737488355328 ∧ (∃ (a_2 : Option Addr) (n_2 c_2 : Nat) (h' : AHeap), AHeap.app (Qqo h'_1 [Qqp x_1]) (Value.slice a n c) xs Qq1 = some (Prod.mk (Value.slice a_2 n_2 c_2) h') ∧ (∃ (h'_2 : AHeap), AHeap.wr h' l Qq2 12 [Value.slice a_2 n_2 c_2] = some h'_2 ∧ (∃ (j : LX (Sh.T voteSh) × LX (Sh.T saySh) × LX (Sh.T Sh.str) × AHeap), Qpz (Qqn l) (Qqc j = h'_2) (Qqk n0 l j w (Qql l w j g)) (Qq6 j < Qq6 i) ((∀ (k : LX (Sh.T Sh.str) × AHeap), Qqj n0 l k w j (Qqb w j k) g (Qq8 k j j) → Qqj n0 l k w i (Qqb w i k) g (Qq8 k i i)) ∧ (∀ (v : Value) (h : AHeap), Qqg v (∃ (L' : LX (Sh.T Sh.str)), Qqh n0 l h w j L' (Qqa w j L') g (Qqi L' j j)) → Qqg v (∃ (L' : LX (Sh.T Sh.str)), Qqh n0 l h w i L' (Qqa w i L') g (Qqi L' i i))))))))))))) (∃ (j : LX (Sh.T Sh.str) × AHeap), Prod.snd j = Qqc i ∧ WkOk n0 l (Prod.snd j) (Qqb w i j) ∧ Mv l w (Qqb w i j) g (Prod.snd j) ∧ Qq8 j i i)))) Qq0 True (Qq0 ∧ True)) = _) ?_; delta Qpz Qq0 Qq1 Qq2 Qq3 Qq4 Qq5 Qq6 Qq7 Qq8 Qq9 Qqa Qqb Qqc Qqd Qqe Qqf Qqg Qqh Qqi Qqj Qqk Qql Qqm Qqn Qqo Qqp Qqq Qqr Qqs Qqt Qqu Qqv Qqw Qqx Qqy Qqz Qr0 Qr1 Qr2 Qr3 Qr4 Qr5 Qr6 Qr7 Qr8 Qr9 Qra Qrb Qrc Qrd)
    simp only [true_and, and_true]
    refine ⟨fun ⟨i, V, S, g1⟩ ⟨hi, W1, e1, hc, hb, M1⟩ => ?_, fun ⟨V, S, L, g1⟩ ⟨W1, H1, hn, M1⟩ => ?_⟩
    · dsimp only at *
      have HF := followM_ok (st := (w.votes.xs, w.says.xs)) H h1 h2 i hi
      rw [← e1] at HF
      dsimp only at HF
      obtain ⟨HV, HS⟩ := HF
      refine bs_d (fun hlt => ?_) (fun hge => ⟨(V, S, g1), rfl, W1, M1, ?_⟩)
      · have wp := W1.wf.push ⟨[[.int .i64 (Int.ofNat 0), .int .i64 (Int.ofNat 0), .string ⟨#[]⟩, .slice none 0 0]], 4, true⟩
        have lp := AHeap.Le.push W1.wf ⟨[[.int .i64 (Int.ofNat 0), .int .i64 (Int.ofNat 0), .string ⟨#[]⟩, .slice none 0 0]], 4, true⟩
        have W2 := W1.grow lp wp
        obtain ⟨_, g2, A, le2, w2, hr⟩ := provedIn_spec _ wp V.a V.c V.xs w.view ((i : Int) + 1) (by omega) W2.V.sn.so.sl HV
        have hg := le2.get _ _ (AHeap.get_push_eq (h := g1) (o := ⟨[[.int .i64 (Int.ofNat 0), .int .i64 (Int.ofNat 0), .string ⟨#[]⟩, .slice none 0 0]], 4, true⟩))
        have leA : ∀ row : List Value, g1.Le (g2.put g1.n (some ⟨[row], 4, true⟩)) := fun row => (lp.trans le2).put (W1.wf g1.n (Nat.le_refl _)) _
        have wA : ∀ row : List Value, (g2.put g1.n (some ⟨[row], 4, true⟩)).wf := fun row => w2.put (w2.lt hg) _
        rcases hr with ⟨e, rfl⟩ | ⟨v, op, a, c, js, e, rfl, sn, fr⟩
        · have e' : provedM V.xs 2 w.view ((i : Int) + 1) = none := Option.map_eq_none_iff.1 e
          refine ⟨_, _, _, W2.ld rfl (by decide), _, W2.ld rfl (by decide), _, _, _, _, _, _, _, A, ⟨hg.trans AHeap.get_push_eq.symm, le2.n⟩, _, wr_field hg rfl (by simp), _, by rw [AHeap.ld, AHeap.get_put_eq]; rfl, bs_dn (fun h => absurd rfl h) (fun _ => ⟨(i + 1, V, S, _), by rw [wrap_i64 (by omega)]; rfl, rfl, ⟨by dsimp only; omega, W1.grow (leA _) (wA _), ?_, fun h => absurd (Eq.trans (Eq.symm (hb trivial)) h) (by decide), fun _ => hb trivial, M1.trans W.wf (.of_le (leA _))⟩, by dsimp only; omega, fun _ h => h, fun _ _ h => h⟩)⟩
          rw [followM, ← e1, stepM_none e']
        · obtain ⟨op', e', e2⟩ := Option.map_eq_some_iff.1 e
          cases e2
          have W3 := W1.grow (leA [.int .i64 w.view, .int .i64 ((i : Int) + 1), .string op, .slice a (votersM V.xs 2 w.view ((i : Int) + 1) op).length c]) (wA _)
          obtain ⟨_, g4, A4, V', S', rfl, e4, W4, M4⟩ := iVote_spec W3 HV.1 (Nat.le_trans HS (by omega)) 3 w.view ((i : Int) + 1) op
          refine ⟨_, _, _, W2.ld rfl (by decide), _, W2.ld rfl (by decide), _, _, _, _, _, _, _, A, ⟨hg.trans AHeap.get_push_eq.symm, le2.n⟩, _, wr_field hg rfl (by simp), _, by rw [AHeap.ld, AHeap.get_put_eq]; rfl, bs_dn (fun _ => ⟨_, W3.ld rfl (by decide), _, by rw [AHeap.ld, AHeap.get_put_eq]; rfl, _, A4, (i + 1, V', S', g4), by rw [wrap_i64 (by omega)]; rfl, rfl, ⟨by dsimp only; omega, W4, ?_, fun h => absurd (Eq.trans (Eq.symm (hb trivial)) h) (by decide), fun _ => hb trivial, (M1.trans W.wf (.of_le (leA _))).trans W.wf M4⟩, by dsimp only; omega, fun _ h => h, fun _ _ h => h⟩) (fun h => absurd h (by omega))⟩
          rw [followM, ← e1, stepM_some e']; exact e4
      · obtain rfl : i = 6 := by omega
        have hx : w.chg = false := by
          cases hx : w.chg with
          | true => exact absurd (hc hx) (by decide)
          | false => rfl
        rw [hx, cond_false]; exact e1
    · dsimp only at *
      refine ⟨_, _, _, W1.ld (i := 12) (n := 1) rfl (by decide), bs_d (fun hlt => ?_) (fun hge => ⟨(L, g1), rfl, W1, M1, ?_⟩)⟩
      · obtain ⟨_, g2, A, le2, w2, hr⟩ := decided_spec g1 W1.wf V.a V.c V.xs (IntKind.i64.wrap ((L.xs.length : Int) + 1)) W1.V.sn.so.sl H1
        have ew : IntKind.i64.wrap ((L.xs.length : Int) + 1) = (L.xs.length : Int) + 1 := wrap_i64 (by omega)
        rcases hr with ⟨e, rfl⟩ | ⟨op, e, rfl⟩
        · rw [ew] at e
          exact ⟨_, _, _, W1.ld rfl (by decide), _, _, _, W1.ld rfl (by decide), _, _, sizeString_spec _ _ _ _, ⟨_, _, _, W1.ld rfl (by decide), rfl⟩, _, _, _, A, bs_nb (fun _ => ⟨L, W1.grow le2 w2, M1.trans W.wf (.of_le le2), (logM_none e).symm⟩) (fun h => by cases h)⟩
        · rw [ew] at e
          have lt6 : L.xs.length < 6 := by have h6 : (L.xs.length : Int) < 6 := hlt; omega
          obtain ⟨L', g3, eL, e5, e6, W3, M3⟩ := W1.logApp le2 w2 op
          dsimp only at eL e5 e6 W3
          refine ⟨_, _, _, W1.ld rfl (by decide), _, _, _, W1.ld rfl (by decide), _, _, sizeString_spec _ _ _ _, ⟨_, _, _, W1.ld rfl (by decide), rfl⟩, _, _, _, A, bs_nb (fun h => by cases h) (fun _ => ⟨_, _, _, (W1.grow le2 w2).ld rfl (by decide), _, rowsV_push, rfl, by simp only [List.length_cons, List.length_nil]; omega, _, _, _, g3, e5, _, e6, (V, S, L', _), rfl, ⟨W3, H1, ?_, M1.trans W.wf M3⟩, ?_, fun k h => ⟨h.1, h.2.1, h.2.2.trans ?_⟩, fun v h hr => ⟨hr.1, hr.2.elim fun L2 h2 => ⟨L2, h2.1, h2.2.1, h2.2.2.trans ?_⟩⟩⟩)⟩
          · show L'.xs.length ≤ 6
            rw [eL, List.length_append]; exact lt6
          · show 6 - L'.xs.length < 6 - L.xs.length
            have l6 : L.xs.length < 6 := lt6
            rw [eL, List.length_append]; simp only [List.length_cons, List.length_nil]; omega
          · show logM V.xs (6 - L'.xs.length) L'.xs = _
            rw [eL]; exact (logM_some e lt6).symm
          · show logM V.xs (6 - L'.xs.length) L'.xs = _
            rw [eL]; exact (logM_some e lt6).symm
      · have hge' : ¬ ((L.xs.length : Int) < 6) := hge
        rw [show 6 - L.xs.length = 0 by omega]; rfl
  (refine vc_mp (by kernel_rfl : (∃ (x : Bool), Qq3 g l 2 [Value.bool x] (bs (not x) (∃ (i : Nat × LX (Sh.T voteSh) × LX (Sh.T saySh) × AHeap), Qpz (Qqn l) (Qqs 1 = Qqs (Qr2 i)) (Qr1 i = g) (Qr6 i n0 l w (Qra w i) (Qr9 w i) (Qr8 true w) (Qr7 l w i g)) ((∀ (j : LX (Sh.T voteSh) × LX (Sh.T saySh) × AHeap), Qqx n0 l j w (Qqw w j) g (Qr0 j) (Qqz w) → (∃ (i : LX (Sh.T voteSh) × LX (Sh.T saySh) × LX (Sh.T Sh.str) × AHeap), Qpz (Qqn l) (Qqc i = Qqu j) (Qqk n0 l i w (Qql l w i g)) (∀ (j : LX (Sh.T Sh.str) × AHeap), Qqj n0 l j w i (Qqb w i j) g (Qq8 j i i) → Q Qqf (Prod.snd j)) (∀ (v : Value) (h : AHeap), Qqg v (∃ (L' : LX (Sh.T Sh.str)), Qqh n0 l h w i L' (Qqa w i L') g (Qqi L' i i)) → Q v h))) ∧ (∀ (v : Value) (h : AHeap), False → Q v h))) (∃ (i : LX (Sh.T voteSh) × LX (Sh.T saySh) × LX (Sh.T Sh.str) × AHeap), Qpz (Qqn l) (Qqc i = g) (Qqk n0 l i w (Qql l w i g)) (∀ (j : LX (Sh.T Sh.str) × AHeap), Qqj n0 l j w i (Qqb w i j) g (Qq8 j i i) → Q Qqf (Prod.snd j)) (∀ (v : Value) (h : AHeap), Qqg v (∃ (L' : LX (Sh.T Sh.str)), Qqh n0 l h w i L' (Qqa w i L') g (Qqi L' i i)) → Q v h)))) = _) ?_; delta Qpz Qq1 Qq2 Qq3 Qq5 Qq6 Qq7 Qq8 Qq9 Qqa Qqb Qqc Qqe Qqf Qqg Qqh Qqi Qqj Qqk Qql Qqm Qqn Qqs Qqu Qqv Qqw Qqx Qqy Qqz Qr0 Qr1 Qr2 Qr5 Qr6 Qr7 Qr8 Qr9 Qra)
  have tl : ∀ (V : LX voteSh.T) (S : LX saySh.T), (V.xs, S.xs) = stM w → VotsOk V.xs ∧ ∀ (L : LX Sh.str.T) (g2 : AHeap), WkOk n0 l g2 { w with votes := V, says := S, log := L } → Mv l w { w with votes := V, says := S, log := L } g g2 → L.xs = logM V.xs (6 - w.log.xs.length) w.log.xs → Q (.tuple #[]) g2 := fun V S e => by
    have hv := stM_ok H h1 h2
    rw [← e] at hv
    exact ⟨hv, fun L g2 W2 M2 eL => HQ _ _ ⟨V, S, L, rfl, e, by rw [← e]; exact eL, W2, M2⟩⟩
  refine ⟨_, W.ld rfl (by decide), bs_nb (fun ec => ⟨(0, w.votes, w.says, g), rfl, rfl, rfl, ⟨Nat.zero_le _, W, rfl, fun _ => rfl, fun _ => ec, .of_le (.refl _)⟩, fun ⟨V, S, g1⟩ ⟨W1, M1, e1⟩ => ⟨(V, S, w.log, g1), rfl, rfl, ⟨W1, (tl V S e1).1, hl, M1⟩, fun ⟨L, g2⟩ ⟨W2, M2, eL⟩ => (tl V S e1).2 L g2 W2 M2 eL, fun v h ⟨ev, L, W2, M2, eL⟩ => by rw [ev]; exact (tl V S e1).2 L h W2 M2 eL⟩, fun _ _ h => h.elim⟩) (fun ec => ?_)⟩
  have es : (w.votes.xs, w.says.xs) = stM w := by unfold stM; rw [ec]; rfl
  exact ⟨(w.votes, w.says, w.log, g), rfl, rfl, ⟨W, (tl _ _ es).1, hl, .of_le (.refl _)⟩, fun ⟨L, g2⟩ ⟨W2, M2, eL⟩ => (tl _ _ es).2 L g2 W2 M2 eL, fun v h ⟨ev, L, W2, M2, eL⟩ => by rw [ev]; exact (tl _ _ es).2 L h W2 M2 eL⟩
end Go.Proofs.YtpgfjadjhliohaaGreat
