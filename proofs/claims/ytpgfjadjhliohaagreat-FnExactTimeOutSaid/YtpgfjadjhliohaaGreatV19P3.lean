/- P3. -/
import Derived.Test.YtpgfjadjhliohaaGreatV19P2
import Derived.Test.YtpgfjadjhliohaaGreatV19W10
namespace Go.Dat
open Go.Abs
abbrev VS := List voteSh.T × List saySh.T
noncomputable def stepM (id view : Int) (st : VS) (seq : Int) : VS := match provedM st.1 2 view seq with
  | none => st
  | some op => voteM id st 3 view seq op
noncomputable def followM (id view : Int) (st : VS) : Nat → VS
  | 0 => st
  | n + 1 => stepM id view (followM id view st n) ((n : Int) + 1)
noncomputable def logM (vs : List voteSh.T) : Nat → List ByteArray → List ByteArray
  | 0, log => log
  | n + 1, log => match decM vs ((log.length : Int) + 1) 8 with
    | none => log
    | some op => logM vs n (log ++ [op])
theorem provedM_size {l : List voteSh.T} (H : VotsOk l) {k v q : Int} {op : ByteArray} (h : provedM l k v q = some op) : op.size ≤ 120 := by
  have h3 := provedM_out h
  cases hc : votersM l k v q op with
  | nil => rw [hc] at h3; simp at h3
  | cons x xs =>
    have hm : x ∈ votersM l k v q op := by rw [hc]; exact List.mem_cons_self
    unfold votersM at hm
    exact (vots_mem H (mem_upP.1 hm).2.2).2.2.2.1
theorem decM_size {l : List voteSh.T} (H : VotsOk l) {q : Int} {op : ByteArray} : ∀ {n : Nat}, decM l q n = some op → op.size ≤ 120
  | 0, h => by cases h
  | n + 1, h => by
    rw [decM] at h
    cases hd : decM l q n with
    | some o => rw [hd] at h; cases h; exact decM_size H hd
    | none => rw [hd] at h; exact provedM_size H h
theorem voteM_ok {id : Int} {st : VS} {k v q : Int} {op : ByteArray} (H : VotsOk st.1) (hy : VotOk k v q op id) : VotsOk (voteM id st k v q op).1 := addM_ok H hy
theorem voteM_len {id : Int} {st : VS} {k v q : Int} {op : ByteArray} : (voteM id st k v q op).2.length ≤ st.2.length + 1 := by
  unfold voteM
  dsimp only
  cases (addM st.1 (k, v, q, op, id)).2 with
  | true => rw [cond_true, List.length_append]; exact Nat.le_refl _
  | false => rw [cond_false]; omega
theorem stepM_ok {id view seq : Int} {st : VS} (H : VotsOk st.1) (h1 : InR 0 3 id) (h2 : InR 0 7 view) (h3 : InR 1 6 seq) : VotsOk (stepM id view st seq).1 ∧ (stepM id view st seq).2.length ≤ st.2.length + 1 := by
  unfold stepM
  cases hp : provedM st.1 2 view seq with
  | none => exact ⟨H, by dsimp only; omega⟩
  | some op => exact ⟨voteM_ok H ⟨.inr rfl, h2, h3, provedM_size H hp, h1⟩, voteM_len⟩
theorem followM_ok {id view : Int} {st : VS} (H : VotsOk st.1) (h1 : InR 0 3 id) (h2 : InR 0 7 view) : ∀ n, n ≤ 6 → VotsOk (followM id view st n).1 ∧ (followM id view st n).2.length ≤ st.2.length + n
  | 0, _ => ⟨H, Nat.le_refl _⟩
  | n + 1, hn => by
    obtain ⟨a, b⟩ := followM_ok H h1 h2 n (by omega)
    have := stepM_ok (seq := (n : Int) + 1) a h1 h2 ⟨by omega, by omega⟩
    exact ⟨this.1, by rw [followM]; omega⟩
theorem logM_len (vs : List voteSh.T) : ∀ (n : Nat) (log : List ByteArray), (logM vs n log).length ≤ log.length + n
  | 0, log => Nat.le_refl _
  | n + 1, log => by
    rw [logM]
    cases decM vs ((log.length : Int) + 1) 8 with
    | none => dsimp only; omega
    | some op =>
      have := logM_len vs n (log ++ [op])
      rw [List.length_append] at this
      dsimp only [List.length_cons, List.length_nil] at *
      omega
theorem logM_size {vs : List voteSh.T} (H : VotsOk vs) : ∀ (n : Nat) (log : List ByteArray), (∀ t ∈ log, t.size ≤ 120) → ∀ t ∈ logM vs n log, t.size ≤ 120
  | 0, log, h => h
  | n + 1, log, h => by
    rw [logM]
    cases hd : decM vs ((log.length : Int) + 1) 8 with
    | none => exact h
    | some op =>
      refine logM_size H n (log ++ [op]) fun t ht => ?_
      rcases List.mem_append.1 ht with ht | ht
      · exact h t ht
      · simp only [List.mem_cons, List.not_mem_nil, or_false] at ht
        subst ht; exact decM_size H hd
theorem logM_none {vs : List voteSh.T} {n : Nat} {log : List ByteArray} (h : decM vs ((log.length : Int) + 1) 8 = none) : logM vs n log = log := by
  cases n with
  | zero => rfl
  | succ n => rw [logM, h]
theorem logM_some {vs : List voteSh.T} {log : List ByteArray} {op : ByteArray} (h : decM vs ((log.length : Int) + 1) 8 = some op) (hn : log.length < 6) : logM vs (6 - log.length) log = logM vs (6 - (log ++ [op]).length) (log ++ [op]) := by
  obtain ⟨k, hk⟩ : ∃ k, 6 - log.length = k + 1 := ⟨6 - log.length - 1, by omega⟩
  rw [hk, logM, h, List.length_append]
  dsimp only [List.length_cons, List.length_nil]
  rw [show 6 - (log.length + (0 + 1)) = k by omega]
theorem stepM_none {id view seq : Int} {st : VS} (h : provedM st.1 2 view seq = none) : stepM id view st seq = st := by unfold stepM; rw [h]
theorem stepM_some {id view seq : Int} {st : VS} {op : ByteArray} (h : provedM st.1 2 view seq = some op) : stepM id view st seq = voteM id st 3 view seq op := by unfold stepM; rw [h]
theorem WkOk.logApp {n0 l : Nat} {g0 g : AHeap} {w : Wk} (W : WkOk n0 l g0 w) (le : g0.Le g) (wg : g.wf) (op : ByteArray) :
    ∃ (L' : LX Sh.str.T) (g2 : AHeap), L'.xs = w.log.xs ++ [op] ∧ (g.push ⟨[[.string op]], 1, true⟩).app (.slice w.log.a w.log.xs.length w.log.c) [[.string op]] 1 = some (.slice L'.a L'.xs.length L'.c, g2) ∧
      g2.wr l 0 12 [.slice L'.a L'.xs.length L'.c] = some (g2.put l (some ⟨[({ w with log := L' } : Wk).row], 14, true⟩)) ∧ WkOk n0 l (g2.put l (some ⟨[({ w with log := L' } : Wk).row], 14, true⟩)) { w with log := L' } ∧ Mv l w { w with log := L' } g0 (g2.put l (some ⟨[({ w with log := L' } : Wk).row], 14, true⟩)) := by
  have lp := AHeap.Le.push wg ⟨[[.string op]], 1, true⟩
  have wp := wg.push ⟨[[.string op]], 1, true⟩
  have W3 := W.grow (le.trans lp) wp
  obtain ⟨l2, g2, ids2, e6, B2, k2, w2, hi⟩ := SoB.app' (s := Sh.str) (x := op) (cs := [.string op]) (js := []) W3.L ⟨rfl, rfl⟩ .nil (fun _ _ h => by cases h)
  have el : ((show List ByteArray from w.log.xs) ++ [op]).length = w.log.xs.length + 1 := by simp
  rw [← el] at e6 B2
  have kp : Kp w.log.ids g0 g2 := (Kp.of_le (le.trans lp)).trans k2
  have hi' : ∀ z ∈ ids2, g0.n ≤ z ∨ z ∈ w.log.ids := fun z hz => by
    rcases hi z hz with h | h | h
    · left; rw [h]; exact (le.trans lp).n
    · exact .inr h
    · cases h
  have WS := W.setL ⟨some ⟨l2, 0, some 1⟩, 0, (show List ByteArray from w.log.xs) ++ [op], ids2⟩ B2 kp hi'
  exact ⟨⟨some ⟨l2, 0, some 1⟩, 0, (show List ByteArray from w.log.xs) ++ [op], ids2⟩, g2, rfl, e6, wk_wr (W.get (k := 4) rfl (by decide) kp) rfl (by simp), WS, Mv.setL ⟨some ⟨l2, 0, some 1⟩, 0, (show List ByteArray from w.log.xs) ++ [op], ids2⟩ kp hi' _⟩
end Go.Dat
namespace Go.Proofs.YtpgfjadjhliohaaGreat
open Go.Abs Go.Dat
set_option maxRecDepth 100000
set_option maxHeartbeats 8000000
def foL (n0 l : Nat) (g : AHeap) (b : Bool) (w : Wk) : Nat → LSpec
  | 0 => {
    ι := Nat × LX voteSh.T × LX saySh.T × AHeap
    κ := LX voteSh.T × LX saySh.T × AHeap
    I := fun i => i.1 ≤ 6 ∧ WkOk n0 l i.2.2.2 { w with votes := i.2.1, says := i.2.2.1 } ∧ (i.2.1.xs, i.2.2.1.xs) = followM w.id w.view (w.votes.xs, w.says.xs) i.1 ∧ (w.chg = true → i.1 = 0) ∧ (b = true → w.chg = false) ∧ Mv l w { w with votes := i.2.1, says := i.2.2.1 } g i.2.2.2
    μ := fun i => 6 - i.1
    head := fun i => ⟨[(0, .pointer (some ⟨l, 0, some 0⟩)), (2, .int .i64 ((i.1 : Int) + 1))], [], i.2.2.2⟩
    post := fun j => ⟨[(0, .pointer (some ⟨l, 0, some 0⟩))], [], j.2.2⟩
    R := fun _ j => WkOk n0 l j.2.2 { w with votes := j.1, says := j.2.1 } ∧ Mv l w { w with votes := j.1, says := j.2.1 } g j.2.2 ∧ (j.1.xs, j.2.1.xs) = bif w.chg then (w.votes.xs, w.says.xs) else followM w.id w.view (w.votes.xs, w.says.xs) 6
    ret := fun _ _ _ => False }
  | _ => {
    ι := LX voteSh.T × LX saySh.T × LX Sh.str.T × AHeap
    κ := LX Sh.str.T × AHeap
    I := fun i => WkOk n0 l i.2.2.2 { w with votes := i.1, says := i.2.1, log := i.2.2.1 } ∧ VotsOk i.1.xs ∧ i.2.2.1.xs.length ≤ 6 ∧ Mv l w { w with votes := i.1, says := i.2.1, log := i.2.2.1 } g i.2.2.2
    μ := fun i => 6 - i.2.2.1.xs.length
    head := fun i => ⟨[(0, .pointer (some ⟨l, 0, some 0⟩))], [], i.2.2.2⟩
    post := fun j => ⟨[], [], j.2⟩
    R := fun i j => WkOk n0 l j.2 { w with votes := i.1, says := i.2.1, log := j.1 } ∧ Mv l w { w with votes := i.1, says := i.2.1, log := j.1 } g j.2 ∧ j.1.xs = logM i.1.xs (6 - i.2.2.1.xs.length) i.2.2.1.xs
    ret := fun i v h' => v = .tuple #[] ∧ ∃ L', WkOk n0 l h' { w with votes := i.1, says := i.2.1, log := L' } ∧ Mv l w { w with votes := i.1, says := i.2.1, log := L' } g h' ∧ L'.xs = logM i.1.xs (6 - i.2.2.1.xs.length) i.2.2.1.xs }
noncomputable def stM (w : Wk) : VS := bif w.chg then (w.votes.xs, w.says.xs) else followM w.id w.view (w.votes.xs, w.says.xs) 6
theorem stM_ok {w : Wk} (H : VotsOk w.votes.xs) (h1 : InR 0 3 w.id) (h2 : InR 0 7 w.view) : VotsOk (stM w).1 := by
  unfold stM
  cases w.chg with
  | true => exact H
  | false => exact (followM_ok (st := (w.votes.xs, w.says.xs)) H h1 h2 6 (Nat.le_refl _)).1
abbrev Qsi := LX (Sh.T voteSh) × LX (Sh.T saySh) × LX (Sh.T Sh.str) × AHeap
abbrev Qsj := LX (Sh.T voteSh) × LX (Sh.T saySh) × LX ByteArray × AHeap
abbrev Qsk := LX (Sh.T Sh.str) × AHeap
abbrev Qsl := LX (Sh.T Sh.str)
abbrev Qsm := LX (Sh.T voteSh) × LX (Sh.T saySh) × AHeap
abbrev Qsn := List (Sh.T voteSh) × List (Sh.T saySh)
abbrev Qso := Nat × LX (Sh.T voteSh) × LX (Sh.T saySh) × AHeap
def Qr3 (a b c d e : Prop) := a ∧ b ∧ c ∧ d ∧ e
def Qr4 := True ∧ True ∧ True
def Qr5 := (1 : Nat)
def Qr6 := (0 : Nat)
def Qr7 (a : AHeap) (b c : Nat) (d : List Value) (e : Prop) := AHeap.ld a b Qr6 c Qr5 = some d ∧ e
def Qr8 (a : AHeap) (b : Nat) (c : Option Addr) (d e : Nat) (f : Prop) := Qr7 a b 12 [Value.slice c d e] f
def Qr9 (a : Qsi) := Prod.fst (Prod.snd (Prod.snd a))
def Qra (a : Qsi) := 6 - List.length (LX.xs (Qr9 a))
def Qrb (a : List (Sh.T Sh.str)) (b : Qsi) (c : Qsj) := a = logM (LX.xs (Prod.fst b)) (Qra b) (LX.xs (Prod.fst (Prod.snd (Prod.snd c))))
def Qrc (a : Qsk) (b : Qsi) (c : Qsj) := Qrb (LX.xs (Prod.fst a)) b c
def Qrd (a : Wk) (b : LX (Sh.T voteSh)) (c : Qsl) (d : LX (Sh.T saySh)) := Wk.mk (Wk.id a) (Wk.view a) (Wk.chg a) (Wk.top a) b (Wk.changes a) (Wk.nk a) (Wk.nf a) (Wk.nv a) (Wk.nq a) (Wk.nop a) (Wk.nch a) c d
def Qre (a : Wk) (b : Qsi) (c : Qsl) := Qrd a (Prod.fst b) c (Prod.fst (Prod.snd b))
def Qrf (a : Wk) (b : Qsi) (c : Qsk) := Qre a b (Prod.fst c)
def Qrg (a : Qsi) := Prod.snd (Prod.snd (Prod.snd a))
def Qrh (a : AHeap) (b : Nat) (c : Option Addr) (d e : Nat) (f : Prop) := Qr7 a b 4 [Value.slice c d e] f
def Qri (a : List Value) := Value.tuple (Array.mk a)
def Qrj := Qri List.nil
def Qrk (a : Value) (b : Prop) := a = Qrj ∧ b
def Qrl (a b : Nat) (c : AHeap) (d : Wk) (e : Qsi) (f : Qsl) (g : Wk) (h : AHeap) (i : Prop) := WkOk a b c (Qre d e f) ∧ Mv b d g h c ∧ i
def Qrm (a : Qsl) (b : Qsi) (c : Qsj) := Qrb (LX.xs a) b c
def Qrn (a b : Nat) (c : Qsk) (d : Wk) (e : Qsi) (f : Wk) (g : AHeap) (h : Prop) := WkOk a b (Prod.snd c) (Qrf d e c) ∧ Mv b d f g (Prod.snd c) ∧ h
def Qro (a b : Nat) (c : Qsi) (d : Wk) (e : Prop) := WkOk a b (Qrg c) (Qre d c (Qr9 c)) ∧ VotsOk (LX.xs (Prod.fst c)) ∧ List.length (LX.xs (Qr9 c)) ≤ 6 ∧ e
def Qrp (a : Nat) (b : Wk) (c : Qsi) (d : AHeap) := Mv a b (Qre b c (Qr9 c)) d (Qrg c)
def Qrq (a : Nat) := Value.pointer (some (Addr.mk a Qr6 (some Qr6)))
def Qrr (a : Nat) := Qrq a = Qrq a
def Qrs (a : AHeap) (b : List (List Value)) := AHeap.push a (AObj.mk b Qr5 true)
def Qrt (a : ByteArray) := [Value.string a]
def Qru (a : List (List Value)) := List.all a (fun (row : List Value) =>
  decide (List.length row = (1 : Nat)) &&
    List.all row fun (v : Value) =>
      match v with
      | Value.agg cells => false
      | Value.tuple cells => false
      | Value.complex k re im => false
      | Value.chan r => false
      | x => true)
def Qrv (a : FuncId) (b : List Value) (c : AHeap) (d : Value) (e : AHeap) := ACall Tryz.prog a b c d e
def Qrw (a : Int) := Value.int IntKind.i64 a
def Qrx (a : Int) := Qrw (IntKind.wrap IntKind.i64 (a + 1))
def Qry (a : Qsm) := Prod.snd (Prod.snd a)
def Qrz (a : Qsm) := Prod.fst (Prod.snd a)
def Qs0 (a : Wk) (b : Qsm) := Qrd a (Prod.fst b) (Wk.log a) (Qrz b)
def Qs1 (a b : Nat) (c : Qsm) (d e : Wk) (f : AHeap) (g h : Qsn) := WkOk a b (Qry c) (Qs0 d c) ∧ Mv b d e f (Qry c) ∧ g = h
def Qs2 (a : Wk) := Prod.mk (LX.xs (Wk.votes a)) (LX.xs (Wk.says a))
noncomputable def Qs3 (a : Wk) := cond (Wk.chg a) (Qs2 a) (followM (Wk.id a) (Wk.view a) (Qs2 a) 6)
def Qs4 (a : Qsm) := Prod.mk (LX.xs (Prod.fst a)) (LX.xs (Qrz a))
def Qs5 (a : Qso) := Qry (Prod.snd a)
def Qs6 (a : Qso) := (↑(Prod.fst a) : Int) + 1
def Qs7 (a : Nat) (b c : Qso) (d : AHeap) (e f g h : Prop) := Qr3 (Qrr a) (Qrx (Qs6 b) = Qrw (Qs6 c)) (Qs5 c = d) e (f ∧ g ∧ h)
def Qs8 (a : Qso) := 6 - Prod.fst a
def Qs9 (a : Wk) (b : Qso) := Qrd a (Prod.fst (Prod.snd b)) (Wk.log a) (Qrz (Prod.snd b))
def Qsa (a : Qso) (b c : Nat) (d : Wk) (e : Qsn) (f g h : Prop) := Qr3 (Prod.fst a ≤ 6) (WkOk b c (Qs5 a) (Qs9 d a)) (Prod.mk (LX.xs (Prod.fst (Prod.snd a))) (LX.xs (Qrz (Prod.snd a))) = e) f (g ∧ h)
def Qsb (a : Nat) (b : Wk) (c : Qso) (d : AHeap) := Mv a b (Qs9 b c) d (Qs5 c)
def Qsc (a : Bool) (b : Wk) := a = true → Wk.chg b = false
def Qsd (a : Wk) (b : Qso) := Wk.chg a = true → Prod.fst b = Qr6
noncomputable def Qse (a : Wk) (b : Qso) := followM (Wk.id a) (Wk.view a) (Qs2 a) (Prod.fst b)
def Qsf (a : Qso) := AHeap.n (Qs5 a)
def Qsg (a b : Int) (c : ByteArray) (d : Option Addr) (e f : Nat) := [Qrw a, Qrw b, Value.string c, Value.slice d e f]
def Qsh (a : Qso) := AHeap.push (Qs5 a) (AObj.mk [[Qrw (Int.ofNat Qr6), Qrw (Int.ofNat Qr6), Value.string (ByteArray.mk (Array.mk List.nil)), Value.slice none Qr6 Qr6]] 4 true)
theorem follow_spec {n0 l : Nat} {g : AHeap} {w : Wk} (W : WkOk n0 l g w) (H : VotsOk w.votes.xs) (h1 : InR 0 3 w.id) (h2 : InR 0 7 w.view) (hs : w.says.xs.length ≤ 500) (hl : w.log.xs.length ≤ 6) :
    ∃ r g', ACall Tryz.prog 54 [.pointer (some ⟨l, 0, some 0⟩)] g r g' ∧ ∃ (V' : LX voteSh.T) (S' : LX saySh.T) (L' : LX Sh.str.T), r = .tuple #[] ∧ (V'.xs, S'.xs) = stM w ∧ L'.xs = logM (stM w).1 (6 - w.log.xs.length) w.log.xs ∧ WkOk n0 l g' { w with votes := V', says := S', log := L' } ∧ Mv l w { w with votes := V', says := S', log := L' } g g' := by
  refine acall_q fun Q HQ => ?_
  refine acall_vc (fun t => t == 3) (fun r => match r with | 3 => [(15, 2, []), (0, 0, []), (1, 0, []), (2, 0, []), (3, 0, []), (5, 0, []), (6, 0, []), (7, 0, []), (8, 0, []), (10, 0, []), (4, 1, []), (9, 1, []), (11, 3, [15]), (12, 0, []), (13, 0, []), (14, 0, []), (16, 3, []), (17, 0, [])] | 5 => [(0, 0, []), (1, 0, []), (2, 0, []), (3, 0, []), (4, 0, []), (6, 0, []), (7, 0, []), (5, 1, []), (8, 1, []), (9, 3, [])] | 7 => [(0, 0, []), (1, 0, []), (2, 0, []), (3, 0, []), (5, 0, []), (6, 0, []), (7, 0, []), (8, 0, []), (4, 1, []), (9, 1, []), (10, 0, []), (11, 0, []), (12, 3, []), (13, 0, []), (14, 0, []), (15, 0, []), (16, 0, []), (17, 0, [])] | _ => []) (foL n0 l g false w) mixed Tryz.func54 rfl rfl rfl (Nat.le_of_ble_eq_true rfl) ?_ ?_
  · (refine vc_mp (by kernel_rfl : (Qr3 (Qr3 True (∀ (i : Nat × LX (Sh.T voteSh) × LX (Sh.T saySh) × AHeap), Qsa i n0 l w (Qse w i) (Qsd w i) (Qsc false w) (Qsb l w i g) → bs (decide (Qs6 i ≤ 6)) (∃ (x : Bool), Qr7 (Qs5 i) l 2 [Value.bool x] (bs (not x) (∃ (a : Option Addr) (n c : Nat), Qrh (Qsh i) l a n c (∃ (x : Int), Qr7 (Qsh i) l Qr5 [Qrw x] (∃ (x_1 x_2 : Int) (x_3 : ByteArray) (a_1 : Option Addr) (n_1 c_1 : Nat) (x_4 : Bool) (h' : AHeap), Qrv 105 [Value.slice a n c, Qrw x, Qrw (Qs6 i)] (Qsh i) (Qri [Value.agg (Array.mk (Qsg x_1 x_2 x_3 a_1 n_1 c_1)), Value.bool x_4]) h' ∧ (AHeap.get h' (Qsf i) = AHeap.get (Qsh i) (Qsf i) ∧ AHeap.n (Qsh i) ≤ AHeap.n h') ∧ (∃ (h'_1 : AHeap), AHeap.wr h' (Qsf i) Qr6 Qr6 (Qsg x_1 x_2 x_3 a_1 n_1 c_1) = some h'_1 ∧ bs x_4 (∃ (x : Int), Qr7 h'_1 l Qr5 [Qrw x] (∃ (x_5 : ByteArray), Qr7 h'_1 (Qsf i) 2 (Qrt x_5) (∃ (h' : AHeap), Qrv 63 [Qrq l, Qrw 3, Qrw x, Qrw (Qs6 i), Value.string x_5] h'_1 Qrj h' ∧ (∃ (j : Nat × LX (Sh.T voteSh) × LX (Sh.T saySh) × AHeap), Qs7 l i j h' (Qsa j n0 l w (Qse w j) (Qsd w j) (Qsc false w) (Qsb l w j g)) (Qs8 j < Qs8 i) (∀ (k : LX (Sh.T voteSh) × LX (Sh.T saySh) × AHeap), Qs1 n0 l k w (Qs0 w k) g (Qs4 k) (Qs3 w) → Qs1 n0 l k w (Qs0 w k) g (Qs4 k) (Qs3 w)) (∀ (v : Value) (h : AHeap), False → False))))) (∃ (j : Nat × LX (Sh.T voteSh) × LX (Sh.T saySh) × AHeap), Qs7 l i j h'_1 (Qsa j n0 l w (Qse w j) (Qsd w j) (Qsc false w) (Qsb l w j g)) (Qs8 j < Qs8 i) (∀ (k : LX (Sh.T voteSh) × LX (Sh.T saySh) × AHeap), Qs1 n0 l k w (Qs0 w k) g (Qs4 k) (Qs3 w) → Qs1 n0 l k w (Qs0 w k) g (Qs4 k) (Qs3 w)) (∀ (v : Value) (h : AHeap), False → False)))))) (∃ (j : LX (Sh.T voteSh) × LX (Sh.T saySh) × AHeap), Qrr l ∧ Qry j = Qs5 i ∧ Qs1 n0 l j w (Qs0 w j) g (Qs4 j) (Qs3 w)))) (∃ (j : LX (Sh.T voteSh) × LX (Sh.T saySh) × AHeap), Qrr l ∧ Qry j = Qs5 i ∧ Qs1 n0 l j w (Qs0 w j) g (Qs4 j) (Qs3 w))) Qr4 (True ∧ True ∧ True ∧ True) True) (∀ (i : LX (Sh.T voteSh) × LX (Sh.T saySh) × LX (Sh.T Sh.str) × AHeap), Qro n0 l i w (Qrp l w i g) → (∃ (a : Option Addr) (n c : Nat), Qr8 (Qrg i) l a n c (bs (decide ((↑n : Int) < 6)) (∃ (a : Option Addr) (n c : Nat), Qrh (Qrg i) l a n c (∃ (a_1 : Option Addr) (n_1 c_1 : Nat), Qr8 (Qrg i) l a_1 n_1 c_1 (∃ (x : ByteArray) (x_1 : Bool) (h' : AHeap), Qrv 106 [Value.slice a n c, Qrx (↑n_1 : Int)] (Qrg i) (Qri [Value.string x, Value.bool x_1]) h' ∧ bs (not x_1) (Qrk Qrj (∃ (L' : LX (Sh.T Sh.str)), Qrl n0 l h' w i L' (Qre w i L') g (Qrm L' i i))) (∃ (a : Option Addr) (n c : Nat), Qr8 h' l a n c (∃ (xs : List (List Value)), rowsV (Qrs h' [Qrt x]) (Value.slice (some (Addr.mk (AHeap.n h') Qr6 (some Qr5))) Qr5 2) = some xs ∧ Qru xs = true ∧ (n + List.length xs) * 16 ≤ 140737488355328 ∧ (∃ (a_2 : Option Addr) (n_2 c_2 : Nat) (h'_1 : AHeap), AHeap.app (Qrs h' [Qrt x]) (Value.slice a n c) xs Qr5 = some (Prod.mk (Value.slice a_2 n_2 c_2) h'_1) ∧ (∃ (h' : AHeap), AHeap.wr h'_1 l Qr6 12 [Value.slice a_2 n_2 c_2] = some h' ∧ (∃ (j : LX (Sh.T voteSh) × LX (Sh.T saySh) × LX (Sh.T Sh.str) × AHeap), Qr3 (Qrr l) (Qrg j = h') (Qro n0 l j w (Qrp l w j g)) (Qra j < Qra i) ((∀ (k : LX (Sh.T Sh.str) × AHeap), Qrn n0 l k w j (Qrf w j k) g (Qrc k j j) → Qrn n0 l k w i (Qrf w i k) g (Qrc k i i)) ∧ (∀ (v : Value) (h : AHeap), Qrk v (∃ (L' : LX (Sh.T Sh.str)), Qrl n0 l h w j L' (Qre w j L') g (Qrm L' j j)) → Qrk v (∃ (L' : LX (Sh.T Sh.str)), Qrl n0 l h w i L' (Qre w i L') g (Qrm L' i i)))))))))))) (∃ (j : LX (Sh.T Sh.str) × AHeap), Prod.snd j = Qrg i ∧ WkOk n0 l (Prod.snd j) (Qrf w i j) ∧ Mv l w (Qrf w i j) g (Prod.snd j) ∧ Qrc j i i)))) Qr4 True (Qr4 ∧ True)) = _) ?_; delta Qr3 Qr4 Qr5 Qr6 Qr7 Qr8 Qr9 Qra Qrb Qrc Qrd Qre Qrf Qrg Qrh Qri Qrj Qrk Qrl Qrm Qrn Qro Qrp Qrq Qrr Qrs Qrt Qru Qrv Qrw Qrx Qry Qrz Qs0 Qs1 Qs2 Qs3 Qs4 Qs5 Qs6 Qs7 Qs8 Qs9 Qsa Qsb Qsc Qsd Qse Qsf Qsg Qsh)
    simp only [true_and, and_true]
    refine ⟨fun ⟨i, V, S, g1⟩ ⟨hi, W1, e1, hc, hb, M1⟩ => ?_, fun ⟨V, S, L, g1⟩ ⟨W1, H1, hn, M1⟩ => ?_⟩
    · dsimp only at *
      have HF := followM_ok (st := (w.votes.xs, w.says.xs)) H h1 h2 i hi
      rw [← e1] at HF
      dsimp only at HF
      obtain ⟨HV, HS⟩ := HF
      refine bs_d (fun hlt => ?_) (fun hge => ⟨(V, S, g1), rfl, W1, M1, ?_⟩)
      · refine ⟨_, W1.ld (i := 2) (n := 1) rfl (by decide), bs_nb (fun ec => ?_) (fun ec => ⟨(V, S, g1), rfl, W1, M1, ?_⟩)⟩
        · have wp := W1.wf.push ⟨[[.int .i64 (Int.ofNat 0), .int .i64 (Int.ofNat 0), .string ⟨#[]⟩, .slice none 0 0]], 4, true⟩
          have lp := AHeap.Le.push W1.wf ⟨[[.int .i64 (Int.ofNat 0), .int .i64 (Int.ofNat 0), .string ⟨#[]⟩, .slice none 0 0]], 4, true⟩
          have W2 := W1.grow lp wp
          obtain ⟨_, g2, A, le2, w2, hr⟩ := l11Proof_spec _ wp V.a V.c V.xs w.view ((i : Int) + 1) W2.V.sn.so.sl HV
          have hg := le2.get _ _ (AHeap.get_push_eq (h := g1) (o := ⟨[[.int .i64 (Int.ofNat 0), .int .i64 (Int.ofNat 0), .string ⟨#[]⟩, .slice none 0 0]], 4, true⟩))
          have leA : ∀ row : List Value, g1.Le (g2.put g1.n (some ⟨[row], 4, true⟩)) := fun row => (lp.trans le2).put (W1.wf g1.n (Nat.le_refl _)) _
          have wA : ∀ row : List Value, (g2.put g1.n (some ⟨[row], 4, true⟩)).wf := fun row => w2.put (w2.lt hg) _
          rcases hr with ⟨e, rfl⟩ | ⟨v, op, a, c, js, e, rfl, sn, fr⟩
          · have e' : provedM V.xs 2 w.view ((i : Int) + 1) = none := Option.map_eq_none_iff.1 e
            refine ⟨_, _, _, W2.ld rfl (by decide), _, W2.ld rfl (by decide), _, _, _, _, _, _, _, _, A, ⟨hg.trans AHeap.get_push_eq.symm, le2.n⟩, _, wr_field hg rfl (by simp), bs_b (fun e => by cases e) (fun _ => ⟨(i + 1, V, S, _), by rw [wrap_i64 (by omega)]; rfl, rfl, ⟨by dsimp only; omega, W1.grow (leA _) (wA _), ?_, fun h => absurd (Eq.trans (Eq.symm ec) h) (by decide), hb, M1.trans W.wf (.of_le (leA _))⟩, by dsimp only; omega, fun _ h => h, fun _ _ h => h⟩)⟩
            rw [followM, ← e1, stepM_none e']
          · obtain ⟨op', e', e2⟩ := Option.map_eq_some_iff.1 e
            cases e2
            have W3 := W1.grow (leA [.int .i64 w.view, .int .i64 ((i : Int) + 1), .string op, .slice a (votersM V.xs 2 w.view ((i : Int) + 1) op).length c]) (wA _)
            obtain ⟨_, g4, A4, V', S', rfl, e4, W4, M4⟩ := sVote_spec W3 HV.1 (Nat.le_trans HS (by omega)) 3 w.view ((i : Int) + 1) op
            refine ⟨_, _, _, W2.ld rfl (by decide), _, W2.ld rfl (by decide), _, _, _, _, _, _, _, _, A, ⟨hg.trans AHeap.get_push_eq.symm, le2.n⟩, _, wr_field hg rfl (by simp), bs_b (fun _ => ⟨_, W3.ld rfl (by decide), _, by rw [AHeap.ld, AHeap.get_put_eq]; rfl, _, A4, (i + 1, V', S', g4), by rw [wrap_i64 (by omega)]; rfl, rfl, ⟨by dsimp only; omega, W4, ?_, fun h => absurd (Eq.trans (Eq.symm ec) h) (by decide), hb, (M1.trans W.wf (.of_le (leA _))).trans W.wf M4⟩, by dsimp only; omega, fun _ h => h, fun _ _ h => h⟩) (fun e => by cases e)⟩
            rw [followM, ← e1, stepM_some e']; exact e4
        · rw [ec, cond_true]; rw [hc ec] at e1; exact e1
      · obtain rfl : i = 6 := by omega
        have hx : w.chg = false := by
          cases hx : w.chg with
          | true => exact absurd (hc hx) (by decide)
          | false => rfl
        rw [hx, cond_false]; exact e1
    · dsimp only at *
      refine ⟨_, _, _, W1.ld (i := 12) (n := 1) rfl (by decide), bs_d (fun hlt => ?_) (fun hge => ⟨(L, g1), rfl, W1, M1, ?_⟩)⟩
      · obtain ⟨_, g2, A, le2, w2, hr⟩ := l11Decided_spec g1 W1.wf V.a V.c V.xs (IntKind.i64.wrap ((L.xs.length : Int) + 1)) W1.V.sn.so.sl H1
        have ew : IntKind.i64.wrap ((L.xs.length : Int) + 1) = (L.xs.length : Int) + 1 := wrap_i64 (by omega)
        rcases hr with ⟨e, rfl⟩ | ⟨op, e, rfl⟩
        · rw [ew] at e
          exact ⟨_, _, _, W1.ld rfl (by decide), _, _, _, W1.ld rfl (by decide), _, _, _, A, bs_nb (fun _ => ⟨L, W1.grow le2 w2, M1.trans W.wf (.of_le le2), (logM_none e).symm⟩) (fun h => by cases h)⟩
        · rw [ew] at e
          have lt6 : L.xs.length < 6 := by have h6 : (L.xs.length : Int) < 6 := hlt; omega
          obtain ⟨L', g3, eL, e5, e6, W3, M3⟩ := W1.logApp le2 w2 op
          dsimp only at eL e5 e6 W3
          refine ⟨_, _, _, W1.ld rfl (by decide), _, _, _, W1.ld rfl (by decide), _, _, _, A, bs_nb (fun h => by cases h) (fun _ => ⟨_, _, _, (W1.grow le2 w2).ld rfl (by decide), _, rowsV_push, rfl, by simp only [List.length_cons, List.length_nil]; omega, _, _, _, g3, e5, _, e6, (V, S, L', _), rfl, ⟨W3, H1, ?_, M1.trans W.wf M3⟩, ?_, fun k h => ⟨h.1, h.2.1, h.2.2.trans ?_⟩, fun v h hr => ⟨hr.1, hr.2.elim fun L2 h2 => ⟨L2, h2.1, h2.2.1, h2.2.2.trans ?_⟩⟩⟩)⟩
          · show L'.xs.length ≤ 6
            rw [eL, List.length_append]; exact lt6
          · show 6 - L'.xs.length < 6 - L.xs.length
            have l6 : L.xs.length < 6 := lt6
            rw [eL, List.length_append]; simp only [List.length_cons, List.length_nil]; omega
          · show logM V.xs (6 - L'.xs.length) L'.xs = _
            rw [eL]; exact (logM_some e lt6).symm
          · show logM V.xs (6 - L'.xs.length) L'.xs = _
            rw [eL]; exact (logM_some e lt6).symm
      · have hge' : ¬ ((L.xs.length : Int) < 6) := hge
        rw [show 6 - L.xs.length = 0 by omega]; rfl
  (refine vc_mp (by kernel_rfl : (∃ (i : Nat × LX (Sh.T voteSh) × LX (Sh.T saySh) × AHeap), Qr3 (Qrr l) (Qrw 1 = Qrw (Qs6 i)) (Qs5 i = g) (Qsa i n0 l w (Qse w i) (Qsd w i) (Qsc false w) (Qsb l w i g)) ((∀ (j : LX (Sh.T voteSh) × LX (Sh.T saySh) × AHeap), Qs1 n0 l j w (Qs0 w j) g (Qs4 j) (Qs3 w) → (∃ (i : LX (Sh.T voteSh) × LX (Sh.T saySh) × LX (Sh.T Sh.str) × AHeap), Qr3 (Qrr l) (Qrg i = Qry j) (Qro n0 l i w (Qrp l w i g)) (∀ (j : LX (Sh.T Sh.str) × AHeap), Qrn n0 l j w i (Qrf w i j) g (Qrc j i i) → Q Qrj (Prod.snd j)) (∀ (v : Value) (h : AHeap), Qrk v (∃ (L' : LX (Sh.T Sh.str)), Qrl n0 l h w i L' (Qre w i L') g (Qrm L' i i)) → Q v h))) ∧ (∀ (v : Value) (h : AHeap), False → Q v h))) = _) ?_; delta Qr3 Qr6 Qr9 Qra Qrb Qrc Qrd Qre Qrf Qrg Qri Qrj Qrk Qrl Qrm Qrn Qro Qrp Qrq Qrr Qrw Qry Qrz Qs0 Qs1 Qs2 Qs3 Qs4 Qs5 Qs6 Qs9 Qsa Qsb Qsc Qsd Qse)
  have tl : ∀ (V : LX voteSh.T) (S : LX saySh.T), (V.xs, S.xs) = stM w → VotsOk V.xs ∧ ∀ (L : LX Sh.str.T) (g2 : AHeap), WkOk n0 l g2 { w with votes := V, says := S, log := L } → Mv l w { w with votes := V, says := S, log := L } g g2 → L.xs = logM V.xs (6 - w.log.xs.length) w.log.xs → Q (.tuple #[]) g2 := fun V S e => by
    have hv := stM_ok H h1 h2
    rw [← e] at hv
    exact ⟨hv, fun L g2 W2 M2 eL => HQ _ _ ⟨V, S, L, rfl, e, by rw [← e]; exact eL, W2, M2⟩⟩
  exact ⟨(0, w.votes, w.says, g), rfl, rfl, rfl, ⟨Nat.zero_le _, W, rfl, fun _ => rfl, fun h => (by cases h), .of_le (.refl _)⟩, fun ⟨V, S, g1⟩ ⟨W1, M1, e1⟩ => ⟨(V, S, w.log, g1), rfl, rfl, ⟨W1, (tl V S e1).1, hl, M1⟩, fun ⟨L, g2⟩ ⟨W2, M2, eL⟩ => (tl V S e1).2 L g2 W2 M2 eL, fun v h ⟨ev, L, W2, M2, eL⟩ => by rw [ev]; exact (tl V S e1).2 L h W2 M2 eL⟩, fun _ _ h => h.elim⟩
theorem goOn_spec {n0 l : Nat} {g : AHeap} {w : Wk} (W : WkOk n0 l g w) (H : VotsOk w.votes.xs) (h1 : InR 0 3 w.id) (h2 : InR 0 7 w.view) (hs : w.says.xs.length ≤ 500) (hl : w.log.xs.length ≤ 6) :
    ∃ r g', ACall Tryz.prog 108 [.pointer (some ⟨l, 0, some 0⟩)] g r g' ∧ ∃ (V' : LX voteSh.T) (S' : LX saySh.T) (L' : LX Sh.str.T), r = .tuple #[] ∧ (V'.xs, S'.xs) = stM w ∧ L'.xs = logM (stM w).1 (6 - w.log.xs.length) w.log.xs ∧ WkOk n0 l g' { w with votes := V', says := S', log := L' } ∧ Mv l w { w with votes := V', says := S', log := L' } g g' := by
  refine acall_q fun Q HQ => ?_
  refine acall_vc (fun t => t == 3) (fun r => match r with | 4 => [(12, 2, []), (0, 0, []), (1, 0, []), (2, 0, []), (3, 0, []), (5, 0, []), (6, 0, []), (7, 0, []), (8, 0, []), (10, 0, []), (4, 1, []), (9, 1, []), (11, 3, [12]), (13, 3, [])] | 6 => [(0, 0, []), (1, 0, []), (2, 0, []), (3, 0, []), (4, 0, []), (6, 0, []), (7, 0, []), (5, 1, []), (8, 1, []), (9, 3, [])] | 8 => [(0, 0, []), (1, 0, []), (2, 0, []), (3, 0, []), (5, 0, []), (6, 0, []), (7, 0, []), (8, 0, []), (4, 1, []), (9, 1, []), (10, 3, [4]), (11, 0, []), (12, 3, []), (13, 0, []), (14, 0, []), (15, 0, []), (16, 0, []), (17, 0, [])] | _ => []) (foL n0 l g true w) mixed Tryz.func108 rfl rfl rfl (Nat.le_of_ble_eq_true rfl) ?_ ?_
  · (refine vc_mp (by kernel_rfl : (Qr3 (True ∧ Qr3 True (∀ (i : Nat × LX (Sh.T voteSh) × LX (Sh.T saySh) × AHeap), Qsa i n0 l w (Qse w i) (Qsd w i) (Qsc true w) (Qsb l w i g) → bs (decide (Qs6 i ≤ 6)) (∃ (a : Option Addr) (n c : Nat), Qrh (Qsh i) l a n c (∃ (x : Int), Qr7 (Qsh i) l Qr5 [Qrw x] (∃ (x_1 x_2 : Int) (x_3 : ByteArray) (a_1 : Option Addr) (n_1 c_1 : Nat) (h' : AHeap), Qrv 147 [Value.slice a n c, Qrw x, Qrw (Qs6 i)] (Qsh i) (Value.agg (Array.mk (Qsg x_1 x_2 x_3 a_1 n_1 c_1))) h' ∧ (AHeap.get h' (Qsf i) = AHeap.get (Qsh i) (Qsf i) ∧ AHeap.n (Qsh i) ≤ AHeap.n h') ∧ (∃ (h'_1 : AHeap), AHeap.wr h' (Qsf i) Qr6 Qr6 (Qsg x_1 x_2 x_3 a_1 n_1 c_1) = some h'_1 ∧ (∃ (x : Int), Qr7 h'_1 (Qsf i) Qr5 [Qrw x] (bs (not (decide (x = 0))) (∃ (x : Int), Qr7 h'_1 l Qr5 [Qrw x] (∃ (x_4 : ByteArray), Qr7 h'_1 (Qsf i) 2 (Qrt x_4) (∃ (h' : AHeap), Qrv 126 [Qrq l, Qrw 3, Qrw x, Qrw (Qs6 i), Value.string x_4] h'_1 Qrj h' ∧ (∃ (j : Nat × LX (Sh.T voteSh) × LX (Sh.T saySh) × AHeap), Qs7 l i j h' (Qsa j n0 l w (Qse w j) (Qsd w j) (Qsc true w) (Qsb l w j g)) (Qs8 j < Qs8 i) (∀ (k : LX (Sh.T voteSh) × LX (Sh.T saySh) × AHeap), Qs1 n0 l k w (Qs0 w k) g (Qs4 k) (Qs3 w) → Qs1 n0 l k w (Qs0 w k) g (Qs4 k) (Qs3 w)) (∀ (v : Value) (h : AHeap), False → False))))) (∃ (j : Nat × LX (Sh.T voteSh) × LX (Sh.T saySh) × AHeap), Qs7 l i j h'_1 (Qsa j n0 l w (Qse w j) (Qsd w j) (Qsc true w) (Qsb l w j g)) (Qs8 j < Qs8 i) (∀ (k : LX (Sh.T voteSh) × LX (Sh.T saySh) × AHeap), Qs1 n0 l k w (Qs0 w k) g (Qs4 k) (Qs3 w) → Qs1 n0 l k w (Qs0 w k) g (Qs4 k) (Qs3 w)) (∀ (v : Value) (h : AHeap), False → False)))))))) (∃ (j : LX (Sh.T voteSh) × LX (Sh.T saySh) × AHeap), Qrr l ∧ Qry j = Qs5 i ∧ Qs1 n0 l j w (Qs0 w j) g (Qs4 j) (Qs3 w))) Qr4 (True ∧ True ∧ True ∧ True) True ∧ True) (∀ (i : LX (Sh.T voteSh) × LX (Sh.T saySh) × LX (Sh.T Sh.str) × AHeap), Qro n0 l i w (Qrp l w i g) → (∃ (a : Option Addr) (n c : Nat), Qr8 (Qrg i) l a n c (bs (decide ((↑n : Int) < 6)) (∃ (a : Option Addr) (n c : Nat), Qrh (Qrg i) l a n c (∃ (a_1 : Option Addr) (n_1 c_1 : Nat), Qr8 (Qrg i) l a_1 n_1 c_1 (∃ (x : Int) (h' : AHeap), Qrv 149 [Value.slice a_1 n_1 c_1] (Qrg i) (Qrw x) h' ∧ (∃ (a_2 : Option Addr) (n_2 c_2 : Nat), Qrh h' l a_2 n_2 c_2 (Value.slice a_2 n_2 c_2 = Value.slice a n c)) ∧ (∃ (x_1 : ByteArray) (x_2 : Bool) (h'_1 : AHeap), Qrv 148 [Value.slice a n c, Qrx x] h' (Qri [Value.string x_1, Value.bool x_2]) h'_1 ∧ bs (not x_2) (Qrk Qrj (∃ (L' : LX (Sh.T Sh.str)), Qrl n0 l h'_1 w i L' (Qre w i L') g (Qrm L' i i))) (∃ (a : Option Addr) (n c : Nat), Qr8 h'_1 l a n c (∃ (xs : List (List Value)), rowsV (Qrs h'_1 [Qrt x_1]) (Value.slice (some (Addr.mk (AHeap.n h'_1) Qr6 (some Qr5))) Qr5 2) = some xs ∧ Qru xs = true ∧ (n + List.length xs) * 16 ≤ 140737488355328 ∧ (∃ (a_2 : Option Addr) (n_2 c_2 : Nat) (h' : AHeap), AHeap.app (Qrs h'_1 [Qrt x_1]) (Value.slice a n c) xs Qr5 = some (Prod.mk (Value.slice a_2 n_2 c_2) h') ∧ (∃ (h'_2 : AHeap), AHeap.wr h' l Qr6 12 [Value.slice a_2 n_2 c_2] = some h'_2 ∧ (∃ (j : LX (Sh.T voteSh) × LX (Sh.T saySh) × LX (Sh.T Sh.str) × AHeap), Qr3 (Qrr l) (Qrg j = h'_2) (Qro n0 l j w (Qrp l w j g)) (Qra j < Qra i) ((∀ (k : LX (Sh.T Sh.str) × AHeap), Qrn n0 l k w j (Qrf w j k) g (Qrc k j j) → Qrn n0 l k w i (Qrf w i k) g (Qrc k i i)) ∧ (∀ (v : Value) (h : AHeap), Qrk v (∃ (L' : LX (Sh.T Sh.str)), Qrl n0 l h w j L' (Qre w j L') g (Qrm L' j j)) → Qrk v (∃ (L' : LX (Sh.T Sh.str)), Qrl n0 l h w i L' (Qre w i L') g (Qrm L' i i))))))))))))) (∃ (j : LX (Sh.T Sh.str) × AHeap), Prod.snd j = Qrg i ∧ WkOk n0 l (Prod.snd j) (Qrf w i j) ∧ Mv l w (Qrf w i j) g (Prod.snd j) ∧ Qrc j i i)))) Qr4 True (Qr4 ∧ True)) = _) ?_; delta Qr3 Qr4 Qr5 Qr6 Qr7 Qr8 Qr9 Qra Qrb Qrc Qrd Qre Qrf Qrg Qrh Qri Qrj Qrk Qrl Qrm Qrn Qro Qrp Qrq Qrr Qrs Qrt Qru Qrv Qrw Qrx Qry Qrz Qs0 Qs1 Qs2 Qs3 Qs4 Qs5 Qs6 Qs7 Qs8 Qs9 Qsa Qsb Qsc Qsd Qse Qsf Qsg Qsh)
    simp only [true_and, and_true]
    refine ⟨fun ⟨i, V, S, g1⟩ ⟨hi, W1, e1, hc, hb, M1⟩ => ?_, fun ⟨V, S, L, g1⟩ ⟨W1, H1, hn, M1⟩ => ?_⟩
    · dsimp only at *
      have HF := followM_ok (st := (w.votes.xs, w.says.xs)) H h1 h2 i hi
      rw [← e1] at HF
      dsimp only at HF
      obtain ⟨HV, HS⟩ := HF
      refine bs_d (fun hlt => ?_) (fun hge => ⟨(V, S, g1), rfl, W1, M1, ?_⟩)
      · have wp := W1.wf.push ⟨[[.int .i64 (Int.ofNat 0), .int .i64 (Int.ofNat 0), .string ⟨#[]⟩, .slice none 0 0]], 4, true⟩
        have lp := AHeap.Le.push W1.wf ⟨[[.int .i64 (Int.ofNat 0), .int .i64 (Int.ofNat 0), .string ⟨#[]⟩, .slice none 0 0]], 4, true⟩
        have W2 := W1.grow lp wp
        obtain ⟨_, g2, A, le2, w2, hr⟩ := provedIn_spec _ wp V.a V.c V.xs w.view ((i : Int) + 1) (by omega) W2.V.sn.so.sl HV
        have hg := le2.get _ _ (AHeap.get_push_eq (h := g1) (o := ⟨[[.int .i64 (Int.ofNat 0), .int .i64 (Int.ofNat 0), .string ⟨#[]⟩, .slice none 0 0]], 4, true⟩))
        have leA : ∀ row : List Value, g1.Le (g2.put g1.n (some ⟨[row], 4, true⟩)) := fun row => (lp.trans le2).put (W1.wf g1.n (Nat.le_refl _)) _
        have wA : ∀ row : List Value, (g2.put g1.n (some ⟨[row], 4, true⟩)).wf := fun row => w2.put (w2.lt hg) _
        rcases hr with ⟨e, rfl⟩ | ⟨v, op, a, c, js, e, rfl, sn, fr⟩
        · have e' : provedM V.xs 2 w.view ((i : Int) + 1) = none := Option.map_eq_none_iff.1 e
          refine ⟨_, _, _, W2.ld rfl (by decide), _, W2.ld rfl (by decide), _, _, _, _, _, _, _, A, ⟨hg.trans AHeap.get_push_eq.symm, le2.n⟩, _, wr_field hg rfl (by simp), _, by rw [AHeap.ld, AHeap.get_put_eq]; rfl, bs_dn (fun h => absurd rfl h) (fun _ => ⟨(i + 1, V, S, _), by rw [wrap_i64 (by omega)]; rfl, rfl, ⟨by dsimp only; omega, W1.grow (leA _) (wA _), ?_, fun h => absurd (Eq.trans (Eq.symm (hb trivial)) h) (by decide), fun _ => hb trivial, M1.trans W.wf (.of_le (leA _))⟩, by dsimp only; omega, fun _ h => h, fun _ _ h => h⟩)⟩
          rw [followM, ← e1, stepM_none e']
        · obtain ⟨op', e', e2⟩ := Option.map_eq_some_iff.1 e
          cases e2
          have W3 := W1.grow (leA [.int .i64 w.view, .int .i64 ((i : Int) + 1), .string op, .slice a (votersM V.xs 2 w.view ((i : Int) + 1) op).length c]) (wA _)
          obtain ⟨_, g4, A4, V', S', rfl, e4, W4, M4⟩ := iVote_spec W3 HV.1 (Nat.le_trans HS (by omega)) 3 w.view ((i : Int) + 1) op
          refine ⟨_, _, _, W2.ld rfl (by decide), _, W2.ld rfl (by decide), _, _, _, _, _, _, _, A, ⟨hg.trans AHeap.get_push_eq.symm, le2.n⟩, _, wr_field hg rfl (by simp), _, by rw [AHeap.ld, AHeap.get_put_eq]; rfl, bs_dn (fun _ => ⟨_, W3.ld rfl (by decide), _, by rw [AHeap.ld, AHeap.get_put_eq]; rfl, _, A4, (i + 1, V', S', g4), by rw [wrap_i64 (by omega)]; rfl, rfl, ⟨by dsimp only; omega, W4, ?_, fun h => absurd (Eq.trans (Eq.symm (hb trivial)) h) (by decide), fun _ => hb trivial, (M1.trans W.wf (.of_le (leA _))).trans W.wf M4⟩, by dsimp only; omega, fun _ h => h, fun _ _ h => h⟩) (fun h => absurd h (by omega))⟩
          rw [followM, ← e1, stepM_some e']; exact e4
      · obtain rfl : i = 6 := by omega
        have hx : w.chg = false := by
          cases hx : w.chg with
          | true => exact absurd (hc hx) (by decide)
          | false => rfl
        rw [hx, cond_false]; exact e1
    · dsimp only at *
      refine ⟨_, _, _, W1.ld (i := 12) (n := 1) rfl (by decide), bs_d (fun hlt => ?_) (fun hge => ⟨(L, g1), rfl, W1, M1, ?_⟩)⟩
      · obtain ⟨_, g2, A, le2, w2, hr⟩ := decided_spec g1 W1.wf V.a V.c V.xs (IntKind.i64.wrap ((L.xs.length : Int) + 1)) W1.V.sn.so.sl H1
        have ew : IntKind.i64.wrap ((L.xs.length : Int) + 1) = (L.xs.length : Int) + 1 := wrap_i64 (by omega)
        rcases hr with ⟨e, rfl⟩ | ⟨op, e, rfl⟩
        · rw [ew] at e
          exact ⟨_, _, _, W1.ld rfl (by decide), _, _, _, W1.ld rfl (by decide), _, _, sizeString_spec _ _ _ _, ⟨_, _, _, W1.ld rfl (by decide), rfl⟩, _, _, _, A, bs_nb (fun _ => ⟨L, W1.grow le2 w2, M1.trans W.wf (.of_le le2), (logM_none e).symm⟩) (fun h => by cases h)⟩
        · rw [ew] at e
          have lt6 : L.xs.length < 6 := by have h6 : (L.xs.length : Int) < 6 := hlt; omega
          obtain ⟨L', g3, eL, e5, e6, W3, M3⟩ := W1.logApp le2 w2 op
          dsimp only at eL e5 e6 W3
          refine ⟨_, _, _, W1.ld rfl (by decide), _, _, _, W1.ld rfl (by decide), _, _, sizeString_spec _ _ _ _, ⟨_, _, _, W1.ld rfl (by decide), rfl⟩, _, _, _, A, bs_nb (fun h => by cases h) (fun _ => ⟨_, _, _, (W1.grow le2 w2).ld rfl (by decide), _, rowsV_push, rfl, by simp only [List.length_cons, List.length_nil]; omega, _, _, _, g3, e5, _, e6, (V, S, L', _), rfl, ⟨W3, H1, ?_, M1.trans W.wf M3⟩, ?_, fun k h => ⟨h.1, h.2.1, h.2.2.trans ?_⟩, fun v h hr => ⟨hr.1, hr.2.elim fun L2 h2 => ⟨L2, h2.1, h2.2.1, h2.2.2.trans ?_⟩⟩⟩)⟩
          · show L'.xs.length ≤ 6
            rw [eL, List.length_append]; exact lt6
          · show 6 - L'.xs.length < 6 - L.xs.length
            have l6 : L.xs.length < 6 := lt6
            rw [eL, List.length_append]; simp only [List.length_cons, List.length_nil]; omega
          · show logM V.xs (6 - L'.xs.length) L'.xs = _
            rw [eL]; exact (logM_some e lt6).symm
          · show logM V.xs (6 - L'.xs.length) L'.xs = _
            rw [eL]; exact (logM_some e lt6).symm
      · have hge' : ¬ ((L.xs.length : Int) < 6) := hge
        rw [show 6 - L.xs.length = 0 by omega]; rfl
  (refine vc_mp (by kernel_rfl : (∃ (x : Bool), Qr7 g l 2 [Value.bool x] (bs (not x) (∃ (i : Nat × LX (Sh.T voteSh) × LX (Sh.T saySh) × AHeap), Qr3 (Qrr l) (Qrw 1 = Qrw (Qs6 i)) (Qs5 i = g) (Qsa i n0 l w (Qse w i) (Qsd w i) (Qsc true w) (Qsb l w i g)) ((∀ (j : LX (Sh.T voteSh) × LX (Sh.T saySh) × AHeap), Qs1 n0 l j w (Qs0 w j) g (Qs4 j) (Qs3 w) → (∃ (i : LX (Sh.T voteSh) × LX (Sh.T saySh) × LX (Sh.T Sh.str) × AHeap), Qr3 (Qrr l) (Qrg i = Qry j) (Qro n0 l i w (Qrp l w i g)) (∀ (j : LX (Sh.T Sh.str) × AHeap), Qrn n0 l j w i (Qrf w i j) g (Qrc j i i) → Q Qrj (Prod.snd j)) (∀ (v : Value) (h : AHeap), Qrk v (∃ (L' : LX (Sh.T Sh.str)), Qrl n0 l h w i L' (Qre w i L') g (Qrm L' i i)) → Q v h))) ∧ (∀ (v : Value) (h : AHeap), False → Q v h))) (∃ (i : LX (Sh.T voteSh) × LX (Sh.T saySh) × LX (Sh.T Sh.str) × AHeap), Qr3 (Qrr l) (Qrg i = g) (Qro n0 l i w (Qrp l w i g)) (∀ (j : LX (Sh.T Sh.str) × AHeap), Qrn n0 l j w i (Qrf w i j) g (Qrc j i i) → Q Qrj (Prod.snd j)) (∀ (v : Value) (h : AHeap), Qrk v (∃ (L' : LX (Sh.T Sh.str)), Qrl n0 l h w i L' (Qre w i L') g (Qrm L' i i)) → Q v h)))) = _) ?_; delta Qr3 Qr5 Qr6 Qr7 Qr9 Qra Qrb Qrc Qrd Qre Qrf Qrg Qri Qrj Qrk Qrl Qrm Qrn Qro Qrp Qrq Qrr Qrw Qry Qrz Qs0 Qs1 Qs2 Qs3 Qs4 Qs5 Qs6 Qs9 Qsa Qsb Qsc Qsd Qse)
  have tl : ∀ (V : LX voteSh.T) (S : LX saySh.T), (V.xs, S.xs) = stM w → VotsOk V.xs ∧ ∀ (L : LX Sh.str.T) (g2 : AHeap), WkOk n0 l g2 { w with votes := V, says := S, log := L } → Mv l w { w with votes := V, says := S, log := L } g g2 → L.xs = logM V.xs (6 - w.log.xs.length) w.log.xs → Q (.tuple #[]) g2 := fun V S e => by
    have hv := stM_ok H h1 h2
    rw [← e] at hv
    exact ⟨hv, fun L g2 W2 M2 eL => HQ _ _ ⟨V, S, L, rfl, e, by rw [← e]; exact eL, W2, M2⟩⟩
  refine ⟨_, W.ld rfl (by decide), bs_nb (fun ec => ⟨(0, w.votes, w.says, g), rfl, rfl, rfl, ⟨Nat.zero_le _, W, rfl, fun _ => rfl, fun _ => ec, .of_le (.refl _)⟩, fun ⟨V, S, g1⟩ ⟨W1, M1, e1⟩ => ⟨(V, S, w.log, g1), rfl, rfl, ⟨W1, (tl V S e1).1, hl, M1⟩, fun ⟨L, g2⟩ ⟨W2, M2, eL⟩ => (tl V S e1).2 L g2 W2 M2 eL, fun v h ⟨ev, L, W2, M2, eL⟩ => by rw [ev]; exact (tl V S e1).2 L h W2 M2 eL⟩, fun _ _ h => h.elim⟩) (fun ec => ?_)⟩
  have es : (w.votes.xs, w.says.xs) = stM w := by unfold stM; rw [ec]; rfl
  exact ⟨(w.votes, w.says, w.log, g), rfl, rfl, ⟨W, (tl _ _ es).1, hl, .of_le (.refl _)⟩, fun ⟨L, g2⟩ ⟨W2, M2, eL⟩ => (tl _ _ es).2 L g2 W2 M2 eL, fun v h ⟨ev, L, W2, M2, eL⟩ => by rw [ev]; exact (tl _ _ es).2 L h W2 M2 eL⟩
end Go.Proofs.YtpgfjadjhliohaaGreat
