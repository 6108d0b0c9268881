/- PC. -/
import Derived.Test.YtpgfjadjhliohaaGreatV19R1
import Derived.Test.YtpgfjadjhliohaaGreatV19W6
namespace Go.Dat
open Go.Abs
abbrev bZ : Int × ByteArray := (-1, ⟨#[]⟩)
theorem stepB_yes {q : Int} {b : Option (Int × ByteArray)} {p : Prf} (h : p.2.1 = q) (h1 : (b.getD bZ).1 < p.1) : (stepB q b p).getD bZ = (p.1, p.2.2.1) := by
  cases b with
  | none => unfold stepB; dsimp only; rw [if_pos h]; rfl
  | some x => unfold stepB; dsimp only; rw [if_pos ⟨h, h1⟩]; rfl
theorem stepB_no {q : Int} {b : Option (Int × ByteArray)} {p : Prf} (h : ¬ (p.2.1 = q ∧ (b.getD bZ).1 < p.1)) (h0 : 0 ≤ p.1) : (stepB q b p).getD bZ = b.getD bZ := by
  cases b with
  | none =>
    unfold stepB; dsimp only
    have hb : ((none : Option (Int × ByteArray)).getD bZ).1 < p.1 := by show (-1 : Int) < p.1; omega
    rw [if_neg (fun e => h ⟨e, hb⟩)]
  | some x => exact congrArg (fun z => Option.getD z bZ) (if_neg (c := p.2.1 = q ∧ x.1 < p.1) h)
theorem opB_getD {b : Option (Int × ByteArray)} : opB b = (b.getD bZ).2 := by cases b <;> rfl
def prA (cs : List changeSh.T) (i : Nat) : List Prf := match cs[i]? with
  | some c => c.2.2
  | none => []
theorem prA_at {cs : List changeSh.T} {i : Nat} {f v : Int} {ps : List Prf} (h : cs[i]? = some (f, v, ps)) : prA cs i = ps := by unfold prA; rw [h]
end Go.Dat
namespace Go.Proofs.YtpgfjadjhliohaaGreat
open Go.Abs Go.Dat
set_option maxRecDepth 100000
set_option maxHeartbeats 8000000
def wsL (h : AHeap) (a : Option Addr) (c : Nat) (cs : List changeSh.T) : Nat → LSpec
  | 0 => {
    ι := Nat
    κ := Unit
    I := fun i => i ≤ cs.length
    μ := fun i => cs.length - i
    head := fun i => ⟨[(0, .slice a cs.length c), (3, .slice (some ⟨h.n, 0, some 2⟩) 0 1), (4, .int .i64 (mostB (prfs (cs.take i)))), (5, .int .i64 i)], [], h.push ⟨[], 2, true⟩⟩
    post := fun _ => ⟨[(0, .slice a cs.length c), (3, .slice (some ⟨h.n, 0, some 2⟩) 0 1), (4, .int .i64 (mostB (prfs cs)))], [], h.push ⟨[], 2, true⟩⟩
    R := fun _ _ => True
    ret := fun _ _ _ => False }
  | 2 => {
    ι := Nat × Nat
    κ := Nat
    I := fun i => i.1 < cs.length ∧ i.2 ≤ (prA cs i.1).length
    μ := fun i => (prA cs i.1).length - i.2
    head := fun i => ⟨[(0, .slice a cs.length c), (3, .slice (some ⟨h.n, 0, some 2⟩) 0 1), (4, .int .i64 (mostB (prfs (cs.take i.1) ++ (prA cs i.1).take i.2))), (5, .int .i64 i.1), (6, .int .i64 i.2)], [], h.push ⟨[], 2, true⟩⟩
    post := fun i => ⟨[(0, .slice a cs.length c), (3, .slice (some ⟨h.n, 0, some 2⟩) 0 1), (4, .int .i64 (mostB (prfs (cs.take (i + 1))))), (5, .int .i64 i)], [], h.push ⟨[], 2, true⟩⟩
    R := fun i j => j = i.1
    ret := fun _ _ _ => False }
  | 4 => {
    ι := Nat × OX freshSh.T
    κ := OX freshSh.T
    I := fun i => (i.1 : Int) ≤ mostB (prfs cs) ∧ OXok freshSh h i.2 ∧ i.2.xs = wantN (prfs cs) i.1
    μ := fun i => (mostB (prfs cs)).toNat - i.1
    head := fun i => ⟨[(0, .slice a cs.length c), (3, .slice i.2.a i.2.xs.length i.2.c), (4, .int .i64 (mostB (prfs cs))), (7, .int .i64 ((i.1 : Int) + 1))], [], i.2.g⟩
    post := fun o => ⟨[(3, .slice o.a o.xs.length o.c)], [], o.g⟩
    R := fun _ o => OXok freshSh h o ∧ o.xs = wantM cs
    ret := fun _ _ _ => False }
  | 6 => {
    ι := Nat × OX freshSh.T × Nat × Int × Int × ByteArray × Option Addr × Nat × Nat
    κ := Nat × OX freshSh.T × Int × Int × ByteArray × Option Addr × Nat × Nat
    I := fun i => (i.1 : Int) < mostB (prfs cs) ∧ OXok freshSh h i.2.1 ∧ i.2.2.1 ≤ cs.length ∧ (i.2.2.2.1, i.2.2.2.2.2.1) = (bestB ((i.1 : Int) + 1) (prfs (cs.take i.2.2.1))).getD bZ
    μ := fun i => cs.length - i.2.2.1
    head := fun i => ⟨[(0, .slice a cs.length c), (3, .slice i.2.1.a i.2.1.xs.length i.2.1.c), (4, .int .i64 (mostB (prfs cs))), (7, .int .i64 ((i.1 : Int) + 1)), (8, .complex .f32 0 0), (9, .int .i64 i.2.2.1)], [[.int .i64 i.2.2.2.1, .int .i64 i.2.2.2.2.1, .string i.2.2.2.2.2.1, .slice i.2.2.2.2.2.2.1 i.2.2.2.2.2.2.2.1 i.2.2.2.2.2.2.2.2]], i.2.1.g⟩
    post := fun i => ⟨[(0, .slice a cs.length c), (3, .slice i.2.1.a i.2.1.xs.length i.2.1.c), (4, .int .i64 (mostB (prfs cs))), (7, .int .i64 ((i.1 : Int) + 1)), (8, .complex .f32 0 0)], [[.int .i64 i.2.2.1, .int .i64 i.2.2.2.1, .string i.2.2.2.2.1, .slice i.2.2.2.2.2.1 i.2.2.2.2.2.2.1 i.2.2.2.2.2.2.2]], i.2.1.g⟩
    R := fun i j => j.1 = i.1 ∧ j.2.1 = i.2.1 ∧ (j.2.2.1, j.2.2.2.2.1) = (bestB ((i.1 : Int) + 1) (prfs cs)).getD bZ
    ret := fun _ _ _ => False }
  | _ => {
    ι := Nat × OX freshSh.T × Nat × Int × Int × ByteArray × (Option Addr × Nat × Nat) × Nat
    κ := Nat × OX freshSh.T × Nat × Int × Int × ByteArray × Option Addr × Nat × Nat
    I := fun i => (i.1 : Int) < mostB (prfs cs) ∧ OXok freshSh h i.2.1 ∧ i.2.2.1 < cs.length ∧ i.2.2.2.2.2.2.2 ≤ (prA cs i.2.2.1).length ∧ (i.2.2.2.1, i.2.2.2.2.2.1) = (bestB ((i.1 : Int) + 1) (prfs (cs.take i.2.2.1) ++ (prA cs i.2.2.1).take i.2.2.2.2.2.2.2)).getD bZ
    μ := fun i => (prA cs i.2.2.1).length - i.2.2.2.2.2.2.2
    head := fun i => ⟨[(0, .slice a cs.length c), (3, .slice i.2.1.a i.2.1.xs.length i.2.1.c), (4, .int .i64 (mostB (prfs cs))), (7, .int .i64 ((i.1 : Int) + 1)), (8, .complex .f32 0 0), (9, .int .i64 i.2.2.1), (10, .int .i64 i.2.2.2.2.2.2.2)], [[.int .i64 i.2.2.2.1, .int .i64 i.2.2.2.2.1, .string i.2.2.2.2.2.1, .slice i.2.2.2.2.2.2.1.1 i.2.2.2.2.2.2.1.2.1 i.2.2.2.2.2.2.1.2.2]], i.2.1.g⟩
    post := fun i => ⟨[(0, .slice a cs.length c), (3, .slice i.2.1.a i.2.1.xs.length i.2.1.c), (4, .int .i64 (mostB (prfs cs))), (7, .int .i64 ((i.1 : Int) + 1)), (8, .complex .f32 0 0), (9, .int .i64 i.2.2.1)], [[.int .i64 i.2.2.2.1, .int .i64 i.2.2.2.2.1, .string i.2.2.2.2.2.1, .slice i.2.2.2.2.2.2.1 i.2.2.2.2.2.2.2.1 i.2.2.2.2.2.2.2.2]], i.2.1.g⟩
    R := fun i j => j.1 = i.1 ∧ j.2.1 = i.2.1 ∧ j.2.2.1 = i.2.2.1 ∧ (j.2.2.2.1, j.2.2.2.2.2.1) = (bestB ((i.1 : Int) + 1) (prfs (cs.take (i.2.2.1 + 1)))).getD bZ
    ret := fun _ _ _ => False }
abbrev Qun := List (Sh.T changeSh)
abbrev Quo := OX (Sh.T freshSh)
abbrev Qup := Int × Int × ByteArray × Option Addr × Nat × Nat
abbrev Quq := Nat × OX (Sh.T freshSh) × Nat × Int × Int × ByteArray × (Option Addr × Nat × Nat) × Nat
abbrev Qur := Nat × OX (Sh.T freshSh) × Nat × Int × Int × ByteArray × Option Addr × Nat × Nat
abbrev Qus := Nat × OX (Sh.T freshSh) × Int × Int × ByteArray × Option Addr × Nat × Nat
def Qsp (a b c d : Prop) := a ∧ b ∧ c ∧ d
def Qsq (a : Int) := Value.int IntKind.i64 a
def Qsr (a b : Int) := Qsq a = Qsq b
theorem l01Max_spec (h : AHeap) (a b : Int) : ACall Tryz.prog 64 [.int .i64 a, .int .i64 b] h (.int .i64 (if a < b then b else a)) h := by
  refine acall_out (acall_vc (fun _ => false) (fun _ => []) (fun _ => .none) mixed Tryz.func64 rfl rfl rfl (Nat.le_of_ble_eq_true rfl) (by (refine vc_mp (by kernel_rfl : (Qsp True (True ∧ (True ∧ True) ∧ True) True True) = _) ?_; delta Qsp); simp only [and_self]) ?_)
  (refine vc_mp (by kernel_rfl : (bs (decide (a > b)) (Qsr a (ite (a < b) b a) ∧ h = h) (Qsr b (ite (a < b) b a) ∧ h = h)) = _) ?_; delta Qsq Qsr)
  refine bs_d (fun e => ?_) (fun e => ?_)
  all_goals
    refine ⟨congrArg _ ?_, rfl⟩
    split <;> omega
theorem freshRn {h : AHeap} {q : Int} {op : ByteArray} : Sh.rn h freshSh (q, op) [.int .i64 q, .string op] [] := ⟨[.int .i64 q], [.string op], [], [], rfl, rfl, ⟨rfl, rfl⟩, rfl, rfl⟩
def Qss (a b c d e : Prop) := a ∧ b ∧ c ∧ d ∧ e
def Qst (a b : Prop) := Qss True a (True ∧ True ∧ True) b True
def Qsu (a : Qun) := (↑(List.length a) : Int)
def Qsv (a : Nat) := 0 ≤ (↑a : Int)
def Qsw (a b c : Nat) := some (Addr.mk a b (some c))
def Qsx (a : Option Addr) (b c d : Nat) (e : Qun) (f : Prop) := Qsp (a = Qsw b c 3) (Qsv d) ((↑d : Int) < Qsu e) f
def Qsy (a : Option Addr) (b : Qun) (c : Nat) (d e : Value) (f g h : Prop) := Qss (Value.slice a (List.length b) c = Value.slice a (List.length b) c) (d = e) f g h
def Qsz := (0 : Nat)
def Qt0 := Value.complex FloatKind.f32 Qsz Qsz
def Qt1 (a : Qun) := mostB (prfs a)
def Qt2 (a : Qun) := Qsq (Qt1 a) = Qsq (Qt1 a)
def Qt3 (a : Quo) := Value.slice (OX.a a) (List.length (OX.xs a)) (OX.c a)
def Qt4 (a : Option Addr) (b : Qun) (c : Nat) (d e : Quo) (f g : Int) (h i j k : Prop) := Qsy a b c (Qt3 d) (Qt3 e) (Qt2 b) (Qsr f g) (Qss (Qt0 = Qt0) h i j k)
def Qt5 (a : Qup) := Prod.snd (Prod.snd a)
def Qt6 (a : Qup) := Prod.fst (Qt5 a)
def Qt7 (a : Int) (b : Qup) (c : Int) (d : List Prf) := Prod.mk a (Qt6 b) = Option.getD (bestB c d) bZ
def Qt8 (a : Nat) (b : Qun) := prfs (List.take a b)
def Qt9 := (1 : Nat)
def Qta (a : Quq) := Prod.snd (Prod.snd a)
def Qtb (a : Quq) := Prod.fst (Qta a)
def Qtc (a : Nat) := (↑a : Int) + 1
def Qtd (a : Quq) := Qtc (Prod.fst a)
def Qte (a : Qur) := Prod.snd (Prod.snd (Prod.snd a))
def Qtf (a : Qur) := Prod.fst (Prod.snd (Prod.snd a))
def Qtg (a : Quq) := Prod.fst (Prod.snd a)
def Qth (a : Qur) := Prod.fst (Prod.snd a)
def Qti (a : Qur) (b : Quq) (c : Qun) := Qsp (Prod.fst a = Prod.fst b) (Qth a = Qtg b) (Qtf a = Qtb b) (Qt7 (Prod.fst (Qte a)) (Qte a) (Qtd b) (Qt8 (Qtb b + Qt9) c))
def Qtj (a : Quq) := OX.g (Qtg a)
def Qtk (a : Qur) := OX.g (Qth a)
def Qtl (a b : Int) (c : ByteArray) (d : Value) := [Qsq a, Qsq b, Value.string c, d]
def Qtm (a b : Int) (c : ByteArray) (d : Option Addr × Nat × Nat) := Qtl a b c (Value.slice (Prod.fst d) (Prod.fst (Prod.snd d)) (Prod.snd (Prod.snd d)))
def Qtn (a : Quq) := Prod.snd (Prod.snd (Qta a))
def Qto (a : Quq) := Prod.fst (Prod.snd (Prod.snd (Qtn a)))
def Qtp (a : Quq) := Prod.fst (Prod.snd (Qta a))
def Qtq (a : Quq) := Qtm (Qtp a) (Prod.fst (Qtn a)) (Prod.fst (Prod.snd (Qtn a))) (Qto a)
def Qtr (a : Qur) := Prod.snd (Qt5 (Qte a))
def Qts (a : Qur) := Qtm (Prod.fst (Qte a)) (Prod.fst (Prod.snd (Qte a))) (Qt6 (Qte a)) (Qtr a)
def Qtt (a : Nat) := Qsq (↑a : Int)
def Qtu (a : Quq) := Qtt (Qtb a)
def Qtv (a : Qur) := Qtc (Prod.fst a)
def Qtw (a : Int) := IntKind.wrap IntKind.i64 a
def Qtx (a b : Nat) := Qsq (Qtw (Qtc a)) = Qtt b
def Qty (a : Quq) := Prod.snd (Prod.snd (Prod.snd (Qtn a)))
def Qtz (a : Option Addr) (b : Qun) (c : Nat) (d e : Quq) (f g h : Prop) := Qt4 a b c (Qtg d) (Qtg e) (Qtd d) (Qtd e) f (Qtx (Qty d) (Qty e)) g h
def Qu0 := False → False
def Qu1 (a : Qun) (b : Quq) := List.length (prA a (Qtb b)) - Qty b
def Qu2 (a : AHeap) (b : Quo) := OXok freshSh a b
def Qu3 (a : Quq) (b : Qun) (c : AHeap) := Qss ((↑(Prod.fst a) : Int) < Qt1 b) (Qu2 c (Qtg a)) (Qtb a < List.length b) (Qty a ≤ List.length (prA b (Qtb a))) (Prod.mk (Qtp a) (Prod.fst (Prod.snd (Qtn a))) = Option.getD (bestB (Qtd a) (Append.append (Qt8 (Qtb a) b) (List.take (Qty a) (prA b (Qtb a))))) bZ)
def Qu4 (a b : Nat) := a + Int.toNat (↑b : Int)
def Qu5 := (2 : Nat)
def Qu6 (a : Qus) := Prod.snd (Prod.snd a)
def Qu7 (a : Qus) (b : Qur) (c : Qun) := Qt7 (Prod.fst (Qu6 a)) (Qu6 a) (Qtv b) (prfs c)
def Qu8 (a : Qus) := Prod.fst (Prod.snd a)
def Qu9 (a : Qus) := Prod.snd (Qt5 (Qu6 a))
def Qua (a : Qus) := Qtc (Prod.fst a)
def Qub (a : Qur) (b : Qun) (c : AHeap) := Qsp ((↑(Prod.fst a) : Int) < Qt1 b) (Qu2 c (Qth a)) (Qtf a ≤ List.length b) (Qt7 (Prod.fst (Qte a)) (Qte a) (Qtv a) (Qt8 (Qtf a) b))
def Quc (a : Nat) := Qsq 0 = Qtt a
def Qud (a : Nat × OX (Sh.T freshSh)) := OX.g (Prod.snd a)
def Que (a : AHeap) (b : List (List Value)) := AHeap.push a (AObj.mk b Qu5 true)
def Quf (a : AHeap) := Que a List.nil
def Qug (a : AHeap) := Quf a = Quf a
def Quh (a : Nat × Nat) := Qtt (Prod.fst a)
def Qui (a : Nat) (b : Qun) := Qsq (Qt1 (List.take a b))
def Quj (a : Nat × Nat) (b : Qun) := mostB (Append.append (Qt8 (Prod.fst a) b) (List.take (Prod.snd a) (prA b (Prod.fst a))))
def Quk (a : AHeap) := Value.slice (Qsw (AHeap.n a) Qsz Qu5) Qsz Qt9
def Qul (a : Qun) (b : Nat × Nat) := List.length (prA a (Prod.fst b))
def Qum (a : Nat × Nat) (b : Qun) := Prod.fst a < List.length b
theorem l12Wanted_spec (h : AHeap) (hw : h.wf) (cs : List changeSh.T) (a : Option Addr) (c : Nat) (hx : Sl h changeSh cs (.slice a cs.length c)) (n1 : cs.length ≤ 1000) (n2 : ∀ c ∈ (show List (Int × Int × List Prf) from cs), c.2.2.length ≤ 1000) (HP : PrfsOk (prfs cs)) :
    ∃ r h', ACall Tryz.prog 122 [.slice a cs.length c] h r h' ∧ ∃ o : OX freshSh.T, r = .slice o.a o.xs.length o.c ∧ h' = o.g ∧ OXok freshSh h o ∧ o.xs = wantM cs := by
  refine acall_q fun Q HQ => ?_
  refine acall_vc (fun _ => false) (fun _ => []) (wsL h a c cs) mixed Tryz.func122 rfl rfl rfl (Nat.le_of_ble_eq_true rfl) ?_ ?_
  · (refine vc_mp (by kernel_rfl : (Qss True True True (Qst (∀ (i : Nat), i ≤ List.length cs → bs (decide ((↑i : Int) < Qsu cs)) (∃ (i_1 : Nat × Nat), Qsy a cs c (Quk h) (Quk h) (Qui i cs = Qsq (Quj i_1 cs)) (Qtt i = Quh i_1) (Qss (Qsq 0 = Qtt (Prod.snd i_1)) (Qug h) (Qum i_1 cs ∧ Prod.snd i_1 ≤ Qul cs i_1) (∀ (j : Nat), j = Prod.fst i_1 → (∃ (j_1 : Nat), Qsy a cs c (Quk h) (Quk h) (Qui (j + Qt9) cs = Qui j_1 cs) (Qtx j j_1) (Qss (Qug h) (j_1 ≤ List.length cs) (List.length cs - j_1 < List.length cs - i) (∀ (k : Unit), True → True) (∀ (v : Value) (h : AHeap), Qu0)))) (∀ (v : Value) (h : AHeap), Qu0))) (∃ (j : Unit), Qsy a cs c (Quk h) (Quk h) (Qui i cs = Qsq (Qt1 cs)) (Qug h) True)) (Qst (∀ (i : Nat × Nat), Qum i cs ∧ Prod.snd i ≤ Qul cs i → (∃ (l r : Nat), Qsx a l r (Prod.fst i) cs (∃ (a_2 : Option Addr) (n c_1 : Nat), AHeap.ld (Quf h) l (Qu4 r (Prod.fst i)) Qu5 Qt9 = some [Value.slice a_2 n c_1] ∧ bs (decide ((↑(Prod.snd i) : Int) < (↑n : Int))) (∃ (l r : Nat), Qsx a l r (Prod.fst i) cs (∃ (a_3 : Option Addr) (n c_2 : Nat), AHeap.ld (Quf h) l (Qu4 r (Prod.fst i)) Qu5 Qt9 = some [Value.slice a_3 n c_2] ∧ (∃ (l r : Nat), Qsp (a_3 = Qsw l r 4) (Qsv (Prod.snd i)) ((↑(Prod.snd i) : Int) < (↑n : Int)) (∃ (x : Int), AHeap.ld (Quf h) l (Qu4 r (Prod.snd i)) Qt9 Qt9 = some [Qsq x] ∧ (∃ (x_1 : Int) (h' : AHeap), ACall Tryz.prog 64 [Qsq (Quj i cs), Qsq x] (Quf h) (Qsq x_1) h' ∧ (∃ (j : Nat × Nat), Qsy a cs c (Quk h) (Quk h) (Qsr x_1 (Quj j cs)) (Quh i = Quh j) (Qss (Qsq (Qtw (Qtc (Prod.snd i))) = Qtt (Prod.snd j)) (Quf h = h') (Qum j cs ∧ Prod.snd j ≤ Qul cs j) (Qul cs j - Prod.snd j < Qul cs i - Prod.snd i) ((∀ (k : Nat), k = Prod.fst j → k = Prod.fst i) ∧ (∀ (v : Value) (h : AHeap), Qu0))))))))) (∃ (j : Nat), Qsy a cs c (Quk h) (Quk h) (Qsq (Quj i cs) = Qui (j + Qt9) cs) (Quh i = Qtt j) (Qug h ∧ j = Prod.fst i))))) True)) (Qst (∀ (i : Nat × OX (Sh.T freshSh)), (↑(Prod.fst i) : Int) ≤ Qt1 cs ∧ Qu2 h (Prod.snd i) ∧ OX.xs (Prod.snd i) = wantN (prfs cs) (Prod.fst i) → bs (decide (Qtc (Prod.fst i) ≤ Qt1 cs)) (∃ (i_1 : Nat × OX (Sh.T freshSh) × Nat × Int × Int × ByteArray × Option Addr × Nat × Nat), Qt4 a cs c (Prod.snd i) (Qth i_1) (Qtc (Prod.fst i)) (Qtv i_1) (Quc (Qtf i_1)) (Qts i_1 = Qtl (-1) (Int.ofNat Qsz) (ByteArray.mk (Array.mk List.nil)) (Value.slice none Qsz Qsz)) (Qtk i_1 = Qud i) (Qub i_1 cs h ∧ (∀ (j : Nat × OX (Sh.T freshSh) × Int × Int × ByteArray × Option Addr × Nat × Nat), Prod.fst j = Prod.fst i_1 ∧ Qu8 j = Qth i_1 ∧ Qu7 j i_1 cs → (∃ (xs : List (List Value)), Qsp (rowsV (Que (OX.g (Qu8 j)) [[Qsq (Qua j), Value.string (Qt6 (Qu6 j))]]) (Value.slice (Qsw (AHeap.n (OX.g (Qu8 j))) Qsz Qu5) Qt9 Qu5) = some xs) (List.all xs (fun (row : List Value) =>
  decide (List.length row = (2 : Nat)) &&
    List.all row fun (v : Value) =>
      match v with
      | Value.agg cells => false
      | Value.tuple cells => false
      | Value.complex k re im => false
      | Value.chan r => false
      | x => true) = true) ((List.length (OX.xs (Qu8 j)) + List.length xs) * 24 ≤ 140737488355328) (∃ (a_3 : Option Addr) (n c_1 : Nat) (h' : AHeap), AHeap.app (Que (OX.g (Qu8 j)) [[Qsq (Qua j), Value.string (Qt6 (Qu6 j))]]) (Qt3 (Qu8 j)) xs Qu5 = some (Prod.mk (Value.slice a_3 n c_1) h') ∧ (∃ (j_1 : Nat × OX (Sh.T freshSh)), Qsy a cs c (Value.slice a_3 n c_1) (Qt3 (Prod.snd j_1)) (Qt2 cs) (Qsr (Qtw (Qua j + 1)) (Qtc (Prod.fst j_1))) (Qss (Qud j_1 = h') ((↑(Prod.fst j_1) : Int) ≤ Qt1 cs ∧ Qu2 h (Prod.snd j_1) ∧ OX.xs (Prod.snd j_1) = wantN (prfs cs) (Prod.fst j_1)) (Int.toNat (Qt1 cs) - Prod.fst j_1 < Int.toNat (Qt1 cs) - Prod.fst i) (∀ (k : OX (Sh.T freshSh)), Qu2 h k ∧ OX.xs k = wantM cs → Qu2 h k ∧ OX.xs k = wantM cs) (∀ (v : Value) (h : AHeap), Qu0)))))) ∧ (∀ (v : Value) (h : AHeap), Qu0))) (∃ (j : OX (Sh.T freshSh)), Qsp (Qt3 (Prod.snd i) = Qt3 j) (OX.g j = Qud i) (Qu2 h j) (OX.xs j = wantM cs))) (True ∧ Qst (∀ (i : Nat × OX (Sh.T freshSh) × Nat × Int × Int × ByteArray × Option Addr × Nat × Nat), Qub i cs h → bs (decide ((↑(Qtf i) : Int) < Qsu cs)) (∃ (i_1 : Nat × OX (Sh.T freshSh) × Nat × Int × Int × ByteArray × (Option Addr × Nat × Nat) × Nat), Qt4 a cs c (Qth i) (Qtg i_1) (Qtv i) (Qtd i_1) (Qtt (Qtf i) = Qtu i_1) (Quc (Qty i_1)) (Qtq i_1 = Qts i) (Qsp (Qtj i_1 = Qtk i) (Qu3 i_1 cs h) (∀ (j : Nat × OX (Sh.T freshSh) × Nat × Int × Int × ByteArray × Option Addr × Nat × Nat), Qti j i_1 cs → (∃ (j_1 : Nat × OX (Sh.T freshSh) × Nat × Int × Int × ByteArray × Option Addr × Nat × Nat), Qt4 a cs c (Qth j) (Qth j_1) (Qtv j) (Qtv j_1) (Qtx (Qtf j) (Qtf j_1)) (Qts j_1 = Qts j) (Qtk j_1 = Qtk j) (Qsp (Qub j_1 cs h) (List.length cs - Qtf j_1 < List.length cs - Qtf i) (∀ (k : Nat × OX (Sh.T freshSh) × Int × Int × ByteArray × Option Addr × Nat × Nat), Prod.fst k = Prod.fst j_1 ∧ Qu8 k = Qth j_1 ∧ Qu7 k j_1 cs → Prod.fst k = Prod.fst i ∧ Qu8 k = Qth i ∧ Qu7 k i cs) (∀ (v : Value) (h : AHeap), Qu0)))) (∀ (v : Value) (h : AHeap), Qu0))) (∃ (j : Nat × OX (Sh.T freshSh) × Int × Int × ByteArray × Option Addr × Nat × Nat), Qt4 a cs c (Qth i) (Qu8 j) (Qtv i) (Qua j) (Qtm (Prod.fst (Qu6 j)) (Prod.fst (Prod.snd (Qu6 j))) (Qt6 (Qu6 j)) (Qu9 j) = Qts i) (OX.g (Qu8 j) = Qtk i) (Prod.fst j = Prod.fst i) (Qu8 j = Qth i ∧ Qu7 j i cs))) (Qst (∀ (i : Nat × OX (Sh.T freshSh) × Nat × Int × Int × ByteArray × (Option Addr × Nat × Nat) × Nat), Qu3 i cs h → (∃ (l r : Nat), Qsx a l r (Qtb i) cs (∃ (a_2 : Option Addr) (n c_1 : Nat), AHeap.ld (Qtj i) l (Qu4 r (Qtb i)) Qu5 Qt9 = some [Value.slice a_2 n c_1] ∧ bs (decide ((↑(Qty i) : Int) < (↑n : Int))) (∃ (l r : Nat), Qsx a l r (Qtb i) cs (∃ (a_3 : Option Addr) (n c_2 : Nat), AHeap.ld (Qtj i) l (Qu4 r (Qtb i)) Qu5 Qt9 = some [Value.slice a_3 n c_2] ∧ (∃ (l r : Nat), Qsp (a_3 = Qsw l r 4) (Qsv (Qty i)) ((↑(Qty i) : Int) < (↑n : Int)) (∃ (x x_1 : Int) (x_2 : ByteArray) (a_4 : Option Addr) (n c_3 : Nat), AHeap.ld (Qtj i) l (Qu4 r (Qty i)) Qsz 4 = some (Qtl x x_1 x_2 (Value.slice a_4 n c_3)) ∧ bs (decide (x_1 = Qtd i)) (bs (decide (x > Qtp i)) (∃ (j : Nat × OX (Sh.T freshSh) × Nat × Int × Int × ByteArray × (Option Addr × Nat × Nat) × Nat), Qtz a cs c i j (Qtu i = Qtu j) (Qtq j = Qtl x x_1 x_2 (Value.slice a_4 n c_3)) (Qss (Qtj j = Qtj i) (Qu3 j cs h) (Qu1 cs j < Qu1 cs i) (∀ (k : Nat × OX (Sh.T freshSh) × Nat × Int × Int × ByteArray × Option Addr × Nat × Nat), Qti k j cs → Qti k i cs) (∀ (v : Value) (h : AHeap), Qu0))) (∃ (j : Nat × OX (Sh.T freshSh) × Nat × Int × Int × ByteArray × (Option Addr × Nat × Nat) × Nat), Qtz a cs c i j (Qtu i = Qtu j) (Qtq j = Qtq i) (Qss (Qtj j = Qtj i) (Qu3 j cs h) (Qu1 cs j < Qu1 cs i) (∀ (k : Nat × OX (Sh.T freshSh) × Nat × Int × Int × ByteArray × Option Addr × Nat × Nat), Qti k j cs → Qti k i cs) (∀ (v : Value) (h : AHeap), Qu0)))) (∃ (j : Nat × OX (Sh.T freshSh) × Nat × Int × Int × ByteArray × (Option Addr × Nat × Nat) × Nat), Qtz a cs c i j (Qtu i = Qtu j) (Qtq j = Qtq i) (Qss (Qtj j = Qtj i) (Qu3 j cs h) (Qu1 cs j < Qu1 cs i) (∀ (k : Nat × OX (Sh.T freshSh) × Nat × Int × Int × ByteArray × Option Addr × Nat × Nat), Qti k j cs → Qti k i cs) (∀ (v : Value) (h : AHeap), Qu0))))))) (∃ (j : Nat × OX (Sh.T freshSh) × Nat × Int × Int × ByteArray × Option Addr × Nat × Nat), Qt4 a cs c (Qtg i) (Qth j) (Qtd i) (Qtv j) (Qtu i = Qtt (Qtf j)) (Qts j = Qtq i) (Qtk j = Qtj i) (Qti j i cs))))) (Qsp True True True True)) ∧ True) ∧ True ∧ True)) = _) ?_; delta Qsp Qsq Qsr Qss Qst Qsu Qsv Qsw Qsx Qsy Qsz Qt0 Qt1 Qt2 Qt3 Qt4 Qt5 Qt6 Qt7 Qt8 Qt9 Qta Qtb Qtc Qtd Qte Qtf Qtg Qth Qti Qtj Qtk Qtl Qtm Qtn Qto Qtp Qtq Qtr Qts Qtt Qtu Qtv Qtw Qtx Qty Qtz Qu0 Qu1 Qu2 Qu3 Qu4 Qu5 Qu6 Qu7 Qu8 Qu9 Qua Qub Quc Qud Que Quf Qug Quh Qui Quj Quk Qul Qum)
    simp only [true_and, and_true]
    have lp := AHeap.Le.push hw ⟨[], 2, true⟩
    have hm := HP.most
    refine ⟨⟨fun i hi => ?_, fun ⟨i, k⟩ ⟨hi, hk⟩ => ?_⟩, fun ⟨n, o⟩ ⟨hn, B, hxs⟩ => ?_, fun ⟨n, o, i, vw, sq, op, ab, nb, cb⟩ ⟨hn, B, hi, hb⟩ => ?_, fun ⟨n, o, i, vw, sq, op, ⟨ab, nb, cb⟩, k⟩ ⟨hn, B, hi, hk, hb⟩ => ?_⟩
    · refine bs_d (fun hlt => ?_) (fun hge => ⟨(), by rw [List.take_of_length_le (by omega)]⟩)
      exact ⟨(i, 0), congrArg _ (congrArg _ (List.append_nil _).symm), rfl, rfl, ⟨by dsimp only; omega, Nat.zero_le _⟩, fun j hj => ⟨j + 1, rfl, by rw [wrap_i64 (by dsimp only at hj; omega)]; rfl, by dsimp only at hj; omega, by dsimp only at hj; omega, fun _ h => h, fun _ _ h => h⟩, fun _ _ h => h⟩
    · dsimp only at *
      obtain ⟨⟨f, v, ps⟩, hat⟩ : ∃ y : Int × Int × List Prf, cs[i]? = some y := ⟨_, List.getElem?_eq_getElem hi⟩
      have n3 : ps.length ≤ 1000 := n2 _ (List.mem_of_getElem? hat)
      obtain ⟨l, r, row, ha, _, hrd, hld⟩ := (hx.mono lp).elem hat
      obtain ⟨v1, rfl, s1⟩ := rd_change.1 hrd
      obtain ⟨a2, c2, rfl⟩ := s1.isSlice
      dsimp only at hld s1
      rw [prA_at hat] at hk ⊢
      refine ⟨l, r, ha, Int.natCast_nonneg _, by omega, a2, ps.length, c2, ld_cells (k := 2) (m := 1) hld (by simp), bs_d (fun hlt => ?_) (fun hge => ⟨i, ?_, rfl, rfl⟩)⟩
      · obtain ⟨⟨pv, pq, po, pb⟩, hak⟩ : ∃ y : Prf, ps[k]? = some y := ⟨_, List.getElem?_eq_getElem (by omega)⟩
        obtain ⟨l2, r2, row2, ha2, _, hrd2, hld2⟩ := s1.elem hak
        obtain ⟨v2, rfl, s2⟩ := rd_proof.1 hrd2
        dsimp only at hld2
        refine ⟨l, r, ha, Int.natCast_nonneg _, by omega, a2, ps.length, c2, ld_cells (k := 2) (m := 1) hld (by simp), l2, r2, ha2, Int.natCast_nonneg _, hlt, pq, ld_cells (k := 1) (m := 1) hld2 (by simp), _, _, l01Max_spec _ _ _, (i, k + 1), ?_, rfl, by rw [wrap_i64 (by omega)]; rfl, rfl, ⟨hi, by dsimp only; rw [prA_at hat]; omega⟩, by dsimp only; rw [prA_at hat]; omega, fun _ h => h, fun _ _ h => h⟩
        show Value.int .i64 (if mostB (prfs (cs.take i) ++ ps.take k) < pq then pq else mostB (prfs (cs.take i) ++ ps.take k)) = Value.int .i64 (mostB (prfs (cs.take i) ++ (prA cs i).take (k + 1)))
        rw [prA_at hat, snoc_take hak, mostB_snoc]
      · rw [prfs_take hat, List.take_of_length_le (l := ps) (by omega)]; rfl
    · dsimp only at *
      refine bs_d (fun hle => ?_) (fun hgt => ⟨o, rfl, rfl, B, by rw [hxs]; unfold wantM; rw [show n = (mostB (prfs cs)).toNat by omega]⟩)
      have ol : o.xs.length = n := by rw [hxs, wantN_len]
      refine ⟨(n, o, 0, -1, 0, ⟨#[]⟩, none, 0, 0), rfl, rfl, rfl, rfl, rfl, ⟨by dsimp only; omega, B, Nat.zero_le _, rfl⟩, fun ⟨j1, oj, vw, sq, op, ab, nb, cb⟩ ⟨e1, e2, e3⟩ => ?_, fun _ _ h => h⟩
      dsimp only at e1 e2 e3 ⊢
      replace e1 := e1.symm
      replace e2 := e2.symm
      subst e1 e2
      obtain ⟨o', e6, B', hx', _, _, _⟩ := B.app (x := ((n : Int) + 1, op)) freshRn .nil (by simp)
      refine ⟨_, rowsV_push, rfl, by simp only [List.length_cons, List.length_nil]; omega, _, _, _, o'.g, e6, (n + 1, o'), rfl, by rw [wrap_i64 (by omega)]; rfl, rfl, ⟨by dsimp only; omega, B', ?_⟩, by dsimp only; omega, fun _ h => h, fun _ _ h => h⟩
      dsimp only
      rw [hx', hxs, wantN, opB_getD, ← e3]
    · dsimp only at *
      refine bs_d (fun hlt => ?_) (fun hge => ⟨(n, o, vw, sq, op, ab, nb, cb), rfl, rfl, rfl, rfl, rfl, rfl, by rw [List.take_of_length_le (by omega)] at hb; exact hb⟩)
      refine ⟨(n, o, i, vw, sq, op, (ab, nb, cb), 0), rfl, rfl, rfl, rfl, rfl, rfl, ⟨hn, B, by dsimp only; omega, Nat.zero_le _, by dsimp only; rw [hb]; exact congrArg (fun z => (bestB _ z).getD bZ) (List.append_nil _).symm⟩, fun ⟨j1, oj, ij, vw', sq', op', ab', nb', cb'⟩ ⟨e1, e2, e3, e4⟩ => ?_, fun _ _ h => h⟩
      dsimp only at e1 e2 e3 e4 ⊢
      replace e1 := e1.symm
      replace e2 := e2.symm
      replace e3 := e3.symm
      subst e1 e2 e3
      exact ⟨(n, o, i + 1, vw', sq', op', ab', nb', cb'), rfl, rfl, by rw [wrap_i64 (by omega)]; rfl, rfl, rfl, ⟨hn, B, by dsimp only; omega, e4⟩, by dsimp only; omega, fun _ h => h, fun _ _ h => h⟩
    · dsimp only at *
      have le := B.le
      obtain ⟨⟨f, v, ps⟩, hat⟩ : ∃ y : Int × Int × List Prf, cs[i]? = some y := ⟨_, List.getElem?_eq_getElem hi⟩
      have n3 : ps.length ≤ 1000 := n2 _ (List.mem_of_getElem? hat)
      obtain ⟨l, r, row, ha, _, hrd, hld⟩ := (hx.mono le).elem hat
      obtain ⟨v1, rfl, s1⟩ := rd_change.1 hrd
      obtain ⟨a2, c2, rfl⟩ := s1.isSlice
      dsimp only at hld s1
      rw [prA_at hat] at hk hb ⊢
      refine ⟨l, r, ha, Int.natCast_nonneg _, by omega, a2, ps.length, c2, ld_cells (k := 2) (m := 1) hld (by simp), bs_d (fun hlt => ?_) (fun hge => ⟨(n, o, i, vw, sq, op, ab, nb, cb), rfl, rfl, rfl, rfl, rfl, rfl, rfl, rfl, ?_⟩)⟩
      · obtain ⟨⟨pv, pq, po, pb⟩, hak⟩ : ∃ y : Prf, ps[k]? = some y := ⟨_, List.getElem?_eq_getElem (by omega)⟩
        obtain ⟨l2, r2, row2, ha2, _, hrd2, hld2⟩ := s1.elem hak
        obtain ⟨v2, rfl, s2⟩ := rd_proof.1 hrd2
        obtain ⟨a3, c3, rfl⟩ := s2.isSlice
        dsimp only at hld2
        have hb' : (vw, op) = (bestB ((n : Int) + 1) (prfs (cs.take i) ++ ps.take k)).getD bZ := hb
        have hp0 : 0 ≤ pv := (HP _ (prfs_at hat hak)).1
        have no : ¬ (pq = (n : Int) + 1 ∧ vw < pv) → (vw, op) = (bestB ((n : Int) + 1) (prfs (cs.take i) ++ ps.take (k + 1))).getD bZ := fun e => by
          rw [snoc_take hak, bestB_snoc, stepB_no (p := (pv, pq, po, pb)) (fun h2 => e ⟨h2.1, by have := h2.2; dsimp only at this; rw [← hb'] at this; exact this⟩) hp0]; exact hb'
        refine ⟨l, r, ha, Int.natCast_nonneg _, by omega, a2, ps.length, c2, ld_cells (k := 2) (m := 1) hld (by simp), l2, r2, ha2, Int.natCast_nonneg _, hlt, _, _, _, _, _, _, hld2, bs_d (fun e1 => bs_d (fun e2 => ?_) (fun e2 => ?_)) (fun e1 => ?_)⟩
        · refine ⟨(n, o, i, pv, pq, po, (a3, pb.length, c3), k + 1), rfl, rfl, rfl, by rw [wrap_i64 (by omega)]; rfl, rfl, rfl, ⟨hn, B, hi, by dsimp only; rw [prA_at hat]; omega, ?_⟩, by dsimp only; rw [prA_at hat]; omega, fun _ h => h, fun _ _ h => h⟩
          show (pv, po) = (bestB ((n : Int) + 1) (prfs (cs.take i) ++ (prA cs i).take (k + 1))).getD bZ
          rw [prA_at hat, snoc_take hak, bestB_snoc, stepB_yes (p := (pv, pq, po, pb)) e1 (by rw [← hb']; exact e2)]
        · refine ⟨(n, o, i, vw, sq, op, (ab, nb, cb), k + 1), rfl, rfl, rfl, by rw [wrap_i64 (by omega)]; rfl, rfl, rfl, ⟨hn, B, hi, by dsimp only; rw [prA_at hat]; omega, ?_⟩, by dsimp only; rw [prA_at hat]; omega, fun _ h => h, fun _ _ h => h⟩
          show (vw, op) = (bestB ((n : Int) + 1) (prfs (cs.take i) ++ (prA cs i).take (k + 1))).getD bZ
          rw [prA_at hat]
          exact no fun h => e2 h.2
        · refine ⟨(n, o, i, vw, sq, op, (ab, nb, cb), k + 1), rfl, rfl, rfl, by rw [wrap_i64 (by omega)]; rfl, rfl, rfl, ⟨hn, B, hi, by dsimp only; rw [prA_at hat]; omega, ?_⟩, by dsimp only; rw [prA_at hat]; omega, fun _ h => h, fun _ _ h => h⟩
          show (vw, op) = (bestB ((n : Int) + 1) (prfs (cs.take i) ++ (prA cs i).take (k + 1))).getD bZ
          rw [prA_at hat]
          exact no fun h => e1 h.1
      · rw [prfs_take hat]; rw [List.take_of_length_le (l := ps) (by omega)] at hb; exact hb
  (refine vc_mp (by kernel_rfl : (∃ (i : Nat), Qsy a cs c (Quk h) (Quk h) (Qsq 0 = Qui i cs) (Quc i) (Qsp (Qug h) (i ≤ List.length cs) (∀ (j : Unit), True → (∃ (i : Nat × OX (Sh.T freshSh)), Qsy a cs c (Quk h) (Qt3 (Prod.snd i)) (Qt2 cs) (Qsr 1 (Qtc (Prod.fst i))) (Qsp (Qud i = Quf h) ((↑(Prod.fst i) : Int) ≤ Qt1 cs ∧ Qu2 h (Prod.snd i) ∧ OX.xs (Prod.snd i) = wantN (prfs cs) (Prod.fst i)) (∀ (j : OX (Sh.T freshSh)), Qu2 h j ∧ OX.xs j = wantM cs → Q (Qt3 j) (OX.g j)) (∀ (v : Value) (h : AHeap), False → Q v h)))) (∀ (v : Value) (h : AHeap), False → Q v h))) = _) ?_; delta Qsp Qsq Qsr Qss Qsw Qsy Qsz Qt1 Qt2 Qt3 Qt9 Qtc Qtt Qu2 Qu5 Quc Qud Que Quf Qug Qui Quk)
  have wp := hw.push ⟨[], 2, true⟩
  have B0 : OXok freshSh h ⟨some ⟨h.n, 0, some 2⟩, 1, [], [h.n], h.push ⟨[], 2, true⟩⟩ := SoB.flat (s := freshSh) (g := h) rfl (AHeap.Le.push hw ⟨[], 2, true⟩) wp hw (Nat.le_refl _) rfl AHeap.get_push_eq rfl (.inr rfl) (fun i y row h1 => by cases h1)
  exact ⟨(0 : Nat), rfl, rfl, rfl, rfl, rfl, Nat.zero_le _, fun _ _ => ⟨(0, ⟨some ⟨h.n, 0, some 2⟩, 1, [], [h.n], h.push ⟨[], 2, true⟩⟩), rfl, rfl, rfl, rfl, rfl, ⟨HP.most.1, B0, rfl⟩, fun o ⟨B, e⟩ => HQ _ _ ⟨o, rfl, rfl, B, e⟩, fun _ _ h => h.elim⟩, fun _ _ h => h.elim⟩
end Go.Proofs.YtpgfjadjhliohaaGreat
