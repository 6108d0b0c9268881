/- PC. -/
import Derived.Test.YtpgfjadjhliohaaGreatV18R1
import Derived.Test.YtpgfjadjhliohaaGreatV18W6
namespace Go.Dat
open Go.Abs
abbrev bZ : Int × ByteArray := (-1, ⟨#[]⟩)
theorem stepB_yes {q : Int} {b : Option (Int × ByteArray)} {p : Prf} (h : p.2.1 = q) (h1 : (b.getD bZ).1 < p.1) : (stepB q b p).getD bZ = (p.1, p.2.2.1) := by
  cases b with
  | none => unfold stepB; dsimp only; rw [if_pos h]; rfl
  | some x => unfold stepB; dsimp only; rw [if_pos ⟨h, h1⟩]; rfl
theorem stepB_no {q : Int} {b : Option (Int × ByteArray)} {p : Prf} (h : ¬ (p.2.1 = q ∧ (b.getD bZ).1 < p.1)) (h0 : 0 ≤ p.1) : (stepB q b p).getD bZ = b.getD bZ := by
  cases b with
  | none =>
    unfold stepB; dsimp only
    have hb : ((none : Option (Int × ByteArray)).getD bZ).1 < p.1 := by show (-1 : Int) < p.1; omega
    rw [if_neg (fun e => h ⟨e, hb⟩)]
  | some x => exact congrArg (fun z => Option.getD z bZ) (if_neg (c := p.2.1 = q ∧ x.1 < p.1) h)
theorem opB_getD {b : Option (Int × ByteArray)} : opB b = (b.getD bZ).2 := by cases b <;> rfl
def prA (cs : List changeSh.T) (i : Nat) : List Prf := match cs[i]? with
  | some c => c.2.2
  | none => []
theorem prA_at {cs : List changeSh.T} {i : Nat} {f v : Int} {ps : List Prf} (h : cs[i]? = some (f, v, ps)) : prA cs i = ps := by unfold prA; rw [h]
end Go.Dat
namespace Go.Proofs.YtpgfjadjhliohaaGreat
open Go.Abs Go.Dat
set_option maxRecDepth 100000
set_option maxHeartbeats 8000000
def wsL (h : AHeap) (a : Option Addr) (c : Nat) (cs : List changeSh.T) : Nat → LSpec
  | 0 => {
    ι := Nat
    κ := Unit
    I := fun i => i ≤ cs.length
    μ := fun i => cs.length - i
    head := fun i => ⟨[(0, .slice a cs.length c), (3, .slice (some ⟨h.n, 0, some 2⟩) 0 1), (4, .int .i64 (mostB (prfs (cs.take i)))), (5, .int .i64 i)], [], h.push ⟨[], 2, true⟩⟩
    post := fun _ => ⟨[(0, .slice a cs.length c), (3, .slice (some ⟨h.n, 0, some 2⟩) 0 1), (4, .int .i64 (mostB (prfs cs)))], [], h.push ⟨[], 2, true⟩⟩
    R := fun _ _ => True
    ret := fun _ _ _ => False }
  | 2 => {
    ι := Nat × Nat
    κ := Nat
    I := fun i => i.1 < cs.length ∧ i.2 ≤ (prA cs i.1).length
    μ := fun i => (prA cs i.1).length - i.2
    head := fun i => ⟨[(0, .slice a cs.length c), (3, .slice (some ⟨h.n, 0, some 2⟩) 0 1), (4, .int .i64 (mostB (prfs (cs.take i.1) ++ (prA cs i.1).take i.2))), (5, .int .i64 i.1), (6, .int .i64 i.2)], [], h.push ⟨[], 2, true⟩⟩
    post := fun i => ⟨[(0, .slice a cs.length c), (3, .slice (some ⟨h.n, 0, some 2⟩) 0 1), (4, .int .i64 (mostB (prfs (cs.take (i + 1))))), (5, .int .i64 i)], [], h.push ⟨[], 2, true⟩⟩
    R := fun i j => j = i.1
    ret := fun _ _ _ => False }
  | 4 => {
    ι := Nat × OX freshSh.T
    κ := OX freshSh.T
    I := fun i => (i.1 : Int) ≤ mostB (prfs cs) ∧ OXok freshSh h i.2 ∧ i.2.xs = wantN (prfs cs) i.1
    μ := fun i => (mostB (prfs cs)).toNat - i.1
    head := fun i => ⟨[(0, .slice a cs.length c), (3, .slice i.2.a i.2.xs.length i.2.c), (4, .int .i64 (mostB (prfs cs))), (7, .int .i64 ((i.1 : Int) + 1))], [], i.2.g⟩
    post := fun o => ⟨[(3, .slice o.a o.xs.length o.c)], [], o.g⟩
    R := fun _ o => OXok freshSh h o ∧ o.xs = wantM cs
    ret := fun _ _ _ => False }
  | 6 => {
    ι := Nat × OX freshSh.T × Nat × Int × Int × ByteArray × Option Addr × Nat × Nat
    κ := Nat × OX freshSh.T × Int × Int × ByteArray × Option Addr × Nat × Nat
    I := fun i => (i.1 : Int) < mostB (prfs cs) ∧ OXok freshSh h i.2.1 ∧ i.2.2.1 ≤ cs.length ∧ (i.2.2.2.1, i.2.2.2.2.2.1) = (bestB ((i.1 : Int) + 1) (prfs (cs.take i.2.2.1))).getD bZ
    μ := fun i => cs.length - i.2.2.1
    head := fun i => ⟨[(0, .slice a cs.length c), (3, .slice i.2.1.a i.2.1.xs.length i.2.1.c), (4, .int .i64 (mostB (prfs cs))), (7, .int .i64 ((i.1 : Int) + 1)), (8, .complex .f32 0 0), (9, .int .i64 i.2.2.1)], [[.int .i64 i.2.2.2.1, .int .i64 i.2.2.2.2.1, .string i.2.2.2.2.2.1, .slice i.2.2.2.2.2.2.1 i.2.2.2.2.2.2.2.1 i.2.2.2.2.2.2.2.2]], i.2.1.g⟩
    post := fun i => ⟨[(0, .slice a cs.length c), (3, .slice i.2.1.a i.2.1.xs.length i.2.1.c), (4, .int .i64 (mostB (prfs cs))), (7, .int .i64 ((i.1 : Int) + 1)), (8, .complex .f32 0 0)], [[.int .i64 i.2.2.1, .int .i64 i.2.2.2.1, .string i.2.2.2.2.1, .slice i.2.2.2.2.2.1 i.2.2.2.2.2.2.1 i.2.2.2.2.2.2.2]], i.2.1.g⟩
    R := fun i j => j.1 = i.1 ∧ j.2.1 = i.2.1 ∧ (j.2.2.1, j.2.2.2.2.1) = (bestB ((i.1 : Int) + 1) (prfs cs)).getD bZ
    ret := fun _ _ _ => False }
  | _ => {
    ι := Nat × OX freshSh.T × Nat × Int × Int × ByteArray × (Option Addr × Nat × Nat) × Nat
    κ := Nat × OX freshSh.T × Nat × Int × Int × ByteArray × Option Addr × Nat × Nat
    I := fun i => (i.1 : Int) < mostB (prfs cs) ∧ OXok freshSh h i.2.1 ∧ i.2.2.1 < cs.length ∧ i.2.2.2.2.2.2.2 ≤ (prA cs i.2.2.1).length ∧ (i.2.2.2.1, i.2.2.2.2.2.1) = (bestB ((i.1 : Int) + 1) (prfs (cs.take i.2.2.1) ++ (prA cs i.2.2.1).take i.2.2.2.2.2.2.2)).getD bZ
    μ := fun i => (prA cs i.2.2.1).length - i.2.2.2.2.2.2.2
    head := fun i => ⟨[(0, .slice a cs.length c), (3, .slice i.2.1.a i.2.1.xs.length i.2.1.c), (4, .int .i64 (mostB (prfs cs))), (7, .int .i64 ((i.1 : Int) + 1)), (8, .complex .f32 0 0), (9, .int .i64 i.2.2.1), (10, .int .i64 i.2.2.2.2.2.2.2)], [[.int .i64 i.2.2.2.1, .int .i64 i.2.2.2.2.1, .string i.2.2.2.2.2.1, .slice i.2.2.2.2.2.2.1.1 i.2.2.2.2.2.2.1.2.1 i.2.2.2.2.2.2.1.2.2]], i.2.1.g⟩
    post := fun i => ⟨[(0, .slice a cs.length c), (3, .slice i.2.1.a i.2.1.xs.length i.2.1.c), (4, .int .i64 (mostB (prfs cs))), (7, .int .i64 ((i.1 : Int) + 1)), (8, .complex .f32 0 0), (9, .int .i64 i.2.2.1)], [[.int .i64 i.2.2.2.1, .int .i64 i.2.2.2.2.1, .string i.2.2.2.2.2.1, .slice i.2.2.2.2.2.2.1 i.2.2.2.2.2.2.2.1 i.2.2.2.2.2.2.2.2]], i.2.1.g⟩
    R := fun i j => j.1 = i.1 ∧ j.2.1 = i.2.1 ∧ j.2.2.1 = i.2.2.1 ∧ (j.2.2.2.1, j.2.2.2.2.2.1) = (bestB ((i.1 : Int) + 1) (prfs (cs.take (i.2.2.1 + 1)))).getD bZ
    ret := fun _ _ _ => False }
abbrev Qtj := List (Sh.T changeSh)
abbrev Qtk := OX (Sh.T freshSh)
abbrev Qtl := Int × Int × ByteArray × Option Addr × Nat × Nat
abbrev Qtm := Nat × OX (Sh.T freshSh) × Nat × Int × Int × ByteArray × (Option Addr × Nat × Nat) × Nat
abbrev Qtn := Nat × OX (Sh.T freshSh) × Nat × Int × Int × ByteArray × Option Addr × Nat × Nat
abbrev Qto := Nat × OX (Sh.T freshSh) × Int × Int × ByteArray × Option Addr × Nat × Nat
def Qrl (a b c d : Prop) := a ∧ b ∧ c ∧ d
def Qrm (a : Int) := Value.int IntKind.i64 a
def Qrn (a b : Int) := Qrm a = Qrm b
theorem l01Max_spec (h : AHeap) (a b : Int) : ACall Tryz.prog 64 [.int .i64 a, .int .i64 b] h (.int .i64 (if a < b then b else a)) h := by
  refine acall_out (acall_vc (fun _ => false) (fun _ => []) (fun _ => .none) mixed Tryz.func64 rfl rfl rfl (Nat.le_of_ble_eq_true rfl) (by (refine vc_mp (by kernel_rfl : (Qrl True (True ∧ (True ∧ True) ∧ True) True True) = _) ?_; delta Qrl); simp only [and_self]) ?_)
  (refine vc_mp (by kernel_rfl : (bs (decide (a > b)) (Qrn a (ite (a < b) b a) ∧ h = h) (Qrn b (ite (a < b) b a) ∧ h = h)) = _) ?_; delta Qrm Qrn)
  refine bs_d (fun e => ?_) (fun e => ?_)
  all_goals
    refine ⟨congrArg _ ?_, rfl⟩
    split <;> omega
theorem freshRn {h : AHeap} {q : Int} {op : ByteArray} : Sh.rn h freshSh (q, op) [.int .i64 q, .string op] [] := ⟨[.int .i64 q], [.string op], [], [], rfl, rfl, ⟨rfl, rfl⟩, rfl, rfl⟩
def Qro (a b c d e : Prop) := a ∧ b ∧ c ∧ d ∧ e
def Qrp (a b : Prop) := Qro True a (True ∧ True ∧ True) b True
def Qrq (a : Qtj) := (↑(List.length a) : Int)
def Qrr (a : Nat) := 0 ≤ (↑a : Int)
def Qrs (a b c : Nat) := some (Addr.mk a b (some c))
def Qrt (a : Option Addr) (b c d : Nat) (e : Qtj) (f : Prop) := Qrl (a = Qrs b c 3) (Qrr d) ((↑d : Int) < Qrq e) f
def Qru (a : Option Addr) (b : Qtj) (c : Nat) (d e : Value) (f g h : Prop) := Qro (Value.slice a (List.length b) c = Value.slice a (List.length b) c) (d = e) f g h
def Qrv := (0 : Nat)
def Qrw := Value.complex FloatKind.f32 Qrv Qrv
def Qrx (a : Qtj) := mostB (prfs a)
def Qry (a : Qtj) := Qrm (Qrx a) = Qrm (Qrx a)
def Qrz (a : Qtk) := Value.slice (OX.a a) (List.length (OX.xs a)) (OX.c a)
def Qs0 (a : Option Addr) (b : Qtj) (c : Nat) (d e : Qtk) (f g : Int) (h i j k : Prop) := Qru a b c (Qrz d) (Qrz e) (Qry b) (Qrn f g) (Qro (Qrw = Qrw) h i j k)
def Qs1 (a : Qtl) := Prod.snd (Prod.snd a)
def Qs2 (a : Qtl) := Prod.fst (Qs1 a)
def Qs3 (a : Int) (b : Qtl) (c : Int) (d : List Prf) := Prod.mk a (Qs2 b) = Option.getD (bestB c d) bZ
def Qs4 (a : Nat) (b : Qtj) := prfs (List.take a b)
def Qs5 := (1 : Nat)
def Qs6 (a : Qtm) := Prod.snd (Prod.snd a)
def Qs7 (a : Qtm) := Prod.fst (Qs6 a)
def Qs8 (a : Nat) := (↑a : Int) + 1
def Qs9 (a : Qtm) := Qs8 (Prod.fst a)
def Qsa (a : Qtn) := Prod.snd (Prod.snd (Prod.snd a))
def Qsb (a : Qtn) := Prod.fst (Prod.snd (Prod.snd a))
def Qsc (a : Qtm) := Prod.fst (Prod.snd a)
def Qsd (a : Qtn) := Prod.fst (Prod.snd a)
def Qse (a : Qtn) (b : Qtm) (c : Qtj) := Qrl (Prod.fst a = Prod.fst b) (Qsd a = Qsc b) (Qsb a = Qs7 b) (Qs3 (Prod.fst (Qsa a)) (Qsa a) (Qs9 b) (Qs4 (Qs7 b + Qs5) c))
def Qsf (a : Qtm) := OX.g (Qsc a)
def Qsg (a : Qtn) := OX.g (Qsd a)
def Qsh (a b : Int) (c : ByteArray) (d : Value) := [Qrm a, Qrm b, Value.string c, d]
def Qsi (a b : Int) (c : ByteArray) (d : Option Addr × Nat × Nat) := Qsh a b c (Value.slice (Prod.fst d) (Prod.fst (Prod.snd d)) (Prod.snd (Prod.snd d)))
def Qsj (a : Qtm) := Prod.snd (Prod.snd (Qs6 a))
def Qsk (a : Qtm) := Prod.fst (Prod.snd (Prod.snd (Qsj a)))
def Qsl (a : Qtm) := Prod.fst (Prod.snd (Qs6 a))
def Qsm (a : Qtm) := Qsi (Qsl a) (Prod.fst (Qsj a)) (Prod.fst (Prod.snd (Qsj a))) (Qsk a)
def Qsn (a : Qtn) := Prod.snd (Qs1 (Qsa a))
def Qso (a : Qtn) := Qsi (Prod.fst (Qsa a)) (Prod.fst (Prod.snd (Qsa a))) (Qs2 (Qsa a)) (Qsn a)
def Qsp (a : Nat) := Qrm (↑a : Int)
def Qsq (a : Qtm) := Qsp (Qs7 a)
def Qsr (a : Qtn) := Qs8 (Prod.fst a)
def Qss (a : Int) := IntKind.wrap IntKind.i64 a
def Qst (a b : Nat) := Qrm (Qss (Qs8 a)) = Qsp b
def Qsu (a : Qtm) := Prod.snd (Prod.snd (Prod.snd (Qsj a)))
def Qsv (a : Option Addr) (b : Qtj) (c : Nat) (d e : Qtm) (f g h : Prop) := Qs0 a b c (Qsc d) (Qsc e) (Qs9 d) (Qs9 e) f (Qst (Qsu d) (Qsu e)) g h
def Qsw := False → False
def Qsx (a : Qtj) (b : Qtm) := List.length (prA a (Qs7 b)) - Qsu b
def Qsy (a : AHeap) (b : Qtk) := OXok freshSh a b
def Qsz (a : Qtm) (b : Qtj) (c : AHeap) := Qro ((↑(Prod.fst a) : Int) < Qrx b) (Qsy c (Qsc a)) (Qs7 a < List.length b) (Qsu a ≤ List.length (prA b (Qs7 a))) (Prod.mk (Qsl a) (Prod.fst (Prod.snd (Qsj a))) = Option.getD (bestB (Qs9 a) (Append.append (Qs4 (Qs7 a) b) (List.take (Qsu a) (prA b (Qs7 a))))) bZ)
def Qt0 (a b : Nat) := a + Int.toNat (↑b : Int)
def Qt1 := (2 : Nat)
def Qt2 (a : Qto) := Prod.snd (Prod.snd a)
def Qt3 (a : Qto) (b : Qtn) (c : Qtj) := Qs3 (Prod.fst (Qt2 a)) (Qt2 a) (Qsr b) (prfs c)
def Qt4 (a : Qto) := Prod.fst (Prod.snd a)
def Qt5 (a : Qto) := Prod.snd (Qs1 (Qt2 a))
def Qt6 (a : Qto) := Qs8 (Prod.fst a)
def Qt7 (a : Qtn) (b : Qtj) (c : AHeap) := Qrl ((↑(Prod.fst a) : Int) < Qrx b) (Qsy c (Qsd a)) (Qsb a ≤ List.length b) (Qs3 (Prod.fst (Qsa a)) (Qsa a) (Qsr a) (Qs4 (Qsb a) b))
def Qt8 (a : Nat) := Qrm 0 = Qsp a
def Qt9 (a : Nat × OX (Sh.T freshSh)) := OX.g (Prod.snd a)
def Qta (a : AHeap) (b : List (List Value)) := AHeap.push a (AObj.mk b Qt1 true)
def Qtb (a : AHeap) := Qta a List.nil
def Qtc (a : AHeap) := Qtb a = Qtb a
def Qtd (a : Nat × Nat) := Qsp (Prod.fst a)
def Qte (a : Nat) (b : Qtj) := Qrm (Qrx (List.take a b))
def Qtf (a : Nat × Nat) (b : Qtj) := mostB (Append.append (Qs4 (Prod.fst a) b) (List.take (Prod.snd a) (prA b (Prod.fst a))))
def Qtg (a : AHeap) := Value.slice (Qrs (AHeap.n a) Qrv Qt1) Qrv Qs5
def Qth (a : Qtj) (b : Nat × Nat) := List.length (prA a (Prod.fst b))
def Qti (a : Nat × Nat) (b : Qtj) := Prod.fst a < List.length b
theorem l12Wanted_spec (h : AHeap) (hw : h.wf) (cs : List changeSh.T) (a : Option Addr) (c : Nat) (hx : Sl h changeSh cs (.slice a cs.length c)) (n1 : cs.length ≤ 1000) (n2 : ∀ c ∈ (show List (Int × Int × List Prf) from cs), c.2.2.length ≤ 1000) (HP : PrfsOk (prfs cs)) :
    ∃ r h', ACall Tryz.prog 122 [.slice a cs.length c] h r h' ∧ ∃ o : OX freshSh.T, r = .slice o.a o.xs.length o.c ∧ h' = o.g ∧ OXok freshSh h o ∧ o.xs = wantM cs := by
  refine acall_q fun Q HQ => ?_
  refine acall_vc (fun _ => false) (fun _ => []) (wsL h a c cs) mixed Tryz.func122 rfl rfl rfl (Nat.le_of_ble_eq_true rfl) ?_ ?_
  · (refine vc_mp (by kernel_rfl : (Qro True True True (Qrp (∀ (i : Nat), i ≤ List.length cs → bs (decide ((↑i : Int) < Qrq cs)) (∃ (i_1 : Nat × Nat), Qru a cs c (Qtg h) (Qtg h) (Qte i cs = Qrm (Qtf i_1 cs)) (Qsp i = Qtd i_1) (Qro (Qrm 0 = Qsp (Prod.snd i_1)) (Qtc h) (Qti i_1 cs ∧ Prod.snd i_1 ≤ Qth cs i_1) (∀ (j : Nat), j = Prod.fst i_1 → (∃ (j_1 : Nat), Qru a cs c (Qtg h) (Qtg h) (Qte (j + Qs5) cs = Qte j_1 cs) (Qst j j_1) (Qro (Qtc h) (j_1 ≤ List.length cs) (List.length cs - j_1 < List.length cs - i) (∀ (k : Unit), True → True) (∀ (v : Value) (h : AHeap), Qsw)))) (∀ (v : Value) (h : AHeap), Qsw))) (∃ (j : Unit), Qru a cs c (Qtg h) (Qtg h) (Qte i cs = Qrm (Qrx cs)) (Qtc h) True)) (Qrp (∀ (i : Nat × Nat), Qti i cs ∧ Prod.snd i ≤ Qth cs i → (∃ (l r : Nat), Qrt a l r (Prod.fst i) cs (∃ (a_2 : Option Addr) (n c_1 : Nat), AHeap.ld (Qtb h) l (Qt0 r (Prod.fst i)) Qt1 Qs5 = some [Value.slice a_2 n c_1] ∧ bs (decide ((↑(Prod.snd i) : Int) < (↑n : Int))) (∃ (l r : Nat), Qrt a l r (Prod.fst i) cs (∃ (a_3 : Option Addr) (n c_2 : Nat), AHeap.ld (Qtb h) l (Qt0 r (Prod.fst i)) Qt1 Qs5 = some [Value.slice a_3 n c_2] ∧ (∃ (l r : Nat), Qrl (a_3 = Qrs l r 4) (Qrr (Prod.snd i)) ((↑(Prod.snd i) : Int) < (↑n : Int)) (∃ (x : Int), AHeap.ld (Qtb h) l (Qt0 r (Prod.snd i)) Qs5 Qs5 = some [Qrm x] ∧ (∃ (x_1 : Int) (h' : AHeap), ACall Tryz.prog 64 [Qrm (Qtf i cs), Qrm x] (Qtb h) (Qrm x_1) h' ∧ (∃ (j : Nat × Nat), Qru a cs c (Qtg h) (Qtg h) (Qrn x_1 (Qtf j cs)) (Qtd i = Qtd j) (Qro (Qrm (Qss (Qs8 (Prod.snd i))) = Qsp (Prod.snd j)) (Qtb h = h') (Qti j cs ∧ Prod.snd j ≤ Qth cs j) (Qth cs j - Prod.snd j < Qth cs i - Prod.snd i) ((∀ (k : Nat), k = Prod.fst j → k = Prod.fst i) ∧ (∀ (v : Value) (h : AHeap), Qsw))))))))) (∃ (j : Nat), Qru a cs c (Qtg h) (Qtg h) (Qrm (Qtf i cs) = Qte (j + Qs5) cs) (Qtd i = Qsp j) (Qtc h ∧ j = Prod.fst i))))) True)) (Qrp (∀ (i : Nat × OX (Sh.T freshSh)), (↑(Prod.fst i) : Int) ≤ Qrx cs ∧ Qsy h (Prod.snd i) ∧ OX.xs (Prod.snd i) = wantN (prfs cs) (Prod.fst i) → bs (decide (Qs8 (Prod.fst i) ≤ Qrx cs)) (∃ (i_1 : Nat × OX (Sh.T freshSh) × Nat × Int × Int × ByteArray × Option Addr × Nat × Nat), Qs0 a cs c (Prod.snd i) (Qsd i_1) (Qs8 (Prod.fst i)) (Qsr i_1) (Qt8 (Qsb i_1)) (Qso i_1 = Qsh (-1) (Int.ofNat Qrv) (ByteArray.mk (Array.mk List.nil)) (Value.slice none Qrv Qrv)) (Qsg i_1 = Qt9 i) (Qt7 i_1 cs h ∧ (∀ (j : Nat × OX (Sh.T freshSh) × Int × Int × ByteArray × Option Addr × Nat × Nat), Prod.fst j = Prod.fst i_1 ∧ Qt4 j = Qsd i_1 ∧ Qt3 j i_1 cs → (∃ (xs : List (List Value)), Qrl (rowsV (Qta (OX.g (Qt4 j)) [[Qrm (Qt6 j), Value.string (Qs2 (Qt2 j))]]) (Value.slice (Qrs (AHeap.n (OX.g (Qt4 j))) Qrv Qt1) Qs5 Qt1) = some xs) (List.all xs (fun (row : List Value) =>
  decide (List.length row = (2 : Nat)) &&
    List.all row fun (v : Value) =>
      match v with
      | Value.agg cells => false
      | Value.tuple cells => false
      | Value.complex k re im => false
      | Value.chan r => false
      | x => true) = true) ((List.length (OX.xs (Qt4 j)) + List.length xs) * 24 ≤ 140737488355328) (∃ (a_3 : Option Addr) (n c_1 : Nat) (h' : AHeap), AHeap.app (Qta (OX.g (Qt4 j)) [[Qrm (Qt6 j), Value.string (Qs2 (Qt2 j))]]) (Qrz (Qt4 j)) xs Qt1 = some (Prod.mk (Value.slice a_3 n c_1) h') ∧ (∃ (j_1 : Nat × OX (Sh.T freshSh)), Qru a cs c (Value.slice a_3 n c_1) (Qrz (Prod.snd j_1)) (Qry cs) (Qrn (Qss (Qt6 j + 1)) (Qs8 (Prod.fst j_1))) (Qro (Qt9 j_1 = h') ((↑(Prod.fst j_1) : Int) ≤ Qrx cs ∧ Qsy h (Prod.snd j_1) ∧ OX.xs (Prod.snd j_1) = wantN (prfs cs) (Prod.fst j_1)) (Int.toNat (Qrx cs) - Prod.fst j_1 < Int.toNat (Qrx cs) - Prod.fst i) (∀ (k : OX (Sh.T freshSh)), Qsy h k ∧ OX.xs k = wantM cs → Qsy h k ∧ OX.xs k = wantM cs) (∀ (v : Value) (h : AHeap), Qsw)))))) ∧ (∀ (v : Value) (h : AHeap), Qsw))) (∃ (j : OX (Sh.T freshSh)), Qrl (Qrz (Prod.snd i) = Qrz j) (OX.g j = Qt9 i) (Qsy h j) (OX.xs j = wantM cs))) (True ∧ Qrp (∀ (i : Nat × OX (Sh.T freshSh) × Nat × Int × Int × ByteArray × Option Addr × Nat × Nat), Qt7 i cs h → bs (decide ((↑(Qsb i) : Int) < Qrq cs)) (∃ (i_1 : Nat × OX (Sh.T freshSh) × Nat × Int × Int × ByteArray × (Option Addr × Nat × Nat) × Nat), Qs0 a cs c (Qsd i) (Qsc i_1) (Qsr i) (Qs9 i_1) (Qsp (Qsb i) = Qsq i_1) (Qt8 (Qsu i_1)) (Qsm i_1 = Qso i) (Qrl (Qsf i_1 = Qsg i) (Qsz i_1 cs h) (∀ (j : Nat × OX (Sh.T freshSh) × Nat × Int × Int × ByteArray × Option Addr × Nat × Nat), Qse j i_1 cs → (∃ (j_1 : Nat × OX (Sh.T freshSh) × Nat × Int × Int × ByteArray × Option Addr × Nat × Nat), Qs0 a cs c (Qsd j) (Qsd j_1) (Qsr j) (Qsr j_1) (Qst (Qsb j) (Qsb j_1)) (Qso j_1 = Qso j) (Qsg j_1 = Qsg j) (Qrl (Qt7 j_1 cs h) (List.length cs - Qsb j_1 < List.length cs - Qsb i) (∀ (k : Nat × OX (Sh.T freshSh) × Int × Int × ByteArray × Option Addr × Nat × Nat), Prod.fst k = Prod.fst j_1 ∧ Qt4 k = Qsd j_1 ∧ Qt3 k j_1 cs → Prod.fst k = Prod.fst i ∧ Qt4 k = Qsd i ∧ Qt3 k i cs) (∀ (v : Value) (h : AHeap), Qsw)))) (∀ (v : Value) (h : AHeap), Qsw))) (∃ (j : Nat × OX (Sh.T freshSh) × Int × Int × ByteArray × Option Addr × Nat × Nat), Qs0 a cs c (Qsd i) (Qt4 j) (Qsr i) (Qt6 j) (Qsi (Prod.fst (Qt2 j)) (Prod.fst (Prod.snd (Qt2 j))) (Qs2 (Qt2 j)) (Qt5 j) = Qso i) (OX.g (Qt4 j) = Qsg i) (Prod.fst j = Prod.fst i) (Qt4 j = Qsd i ∧ Qt3 j i cs))) (Qrp (∀ (i : Nat × OX (Sh.T freshSh) × Nat × Int × Int × ByteArray × (Option Addr × Nat × Nat) × Nat), Qsz i cs h → (∃ (l r : Nat), Qrt a l r (Qs7 i) cs (∃ (a_2 : Option Addr) (n c_1 : Nat), AHeap.ld (Qsf i) l (Qt0 r (Qs7 i)) Qt1 Qs5 = some [Value.slice a_2 n c_1] ∧ bs (decide ((↑(Qsu i) : Int) < (↑n : Int))) (∃ (l r : Nat), Qrt a l r (Qs7 i) cs (∃ (a_3 : Option Addr) (n c_2 : Nat), AHeap.ld (Qsf i) l (Qt0 r (Qs7 i)) Qt1 Qs5 = some [Value.slice a_3 n c_2] ∧ (∃ (l r : Nat), Qrl (a_3 = Qrs l r 4) (Qrr (Qsu i)) ((↑(Qsu i) : Int) < (↑n : Int)) (∃ (x x_1 : Int) (x_2 : ByteArray) (a_4 : Option Addr) (n c_3 : Nat), AHeap.ld (Qsf i) l (Qt0 r (Qsu i)) Qrv 4 = some (Qsh x x_1 x_2 (Value.slice a_4 n c_3)) ∧ bs (decide (x_1 = Qs9 i)) (bs (decide (x > Qsl i)) (∃ (j : Nat × OX (Sh.T freshSh) × Nat × Int × Int × ByteArray × (Option Addr × Nat × Nat) × Nat), Qsv a cs c i j (Qsq i = Qsq j) (Qsm j = Qsh x x_1 x_2 (Value.slice a_4 n c_3)) (Qro (Qsf j = Qsf i) (Qsz j cs h) (Qsx cs j < Qsx cs i) (∀ (k : Nat × OX (Sh.T freshSh) × Nat × Int × Int × ByteArray × Option Addr × Nat × Nat), Qse k j cs → Qse k i cs) (∀ (v : Value) (h : AHeap), Qsw))) (∃ (j : Nat × OX (Sh.T freshSh) × Nat × Int × Int × ByteArray × (Option Addr × Nat × Nat) × Nat), Qsv a cs c i j (Qsq i = Qsq j) (Qsm j = Qsm i) (Qro (Qsf j = Qsf i) (Qsz j cs h) (Qsx cs j < Qsx cs i) (∀ (k : Nat × OX (Sh.T freshSh) × Nat × Int × Int × ByteArray × Option Addr × Nat × Nat), Qse k j cs → Qse k i cs) (∀ (v : Value) (h : AHeap), Qsw)))) (∃ (j : Nat × OX (Sh.T freshSh) × Nat × Int × Int × ByteArray × (Option Addr × Nat × Nat) × Nat), Qsv a cs c i j (Qsq i = Qsq j) (Qsm j = Qsm i) (Qro (Qsf j = Qsf i) (Qsz j cs h) (Qsx cs j < Qsx cs i) (∀ (k : Nat × OX (Sh.T freshSh) × Nat × Int × Int × ByteArray × Option Addr × Nat × Nat), Qse k j cs → Qse k i cs) (∀ (v : Value) (h : AHeap), Qsw))))))) (∃ (j : Nat × OX (Sh.T freshSh) × Nat × Int × Int × ByteArray × Option Addr × Nat × Nat), Qs0 a cs c (Qsc i) (Qsd j) (Qs9 i) (Qsr j) (Qsq i = Qsp (Qsb j)) (Qso j = Qsm i) (Qsg j = Qsf i) (Qse j i cs))))) (Qrl True True True True)) ∧ True) ∧ True ∧ True)) = _) ?_; delta Qrl Qrm Qrn Qro Qrp Qrq Qrr Qrs Qrt Qru Qrv Qrw Qrx Qry Qrz Qs0 Qs1 Qs2 Qs3 Qs4 Qs5 Qs6 Qs7 Qs8 Qs9 Qsa Qsb Qsc Qsd Qse Qsf Qsg Qsh Qsi Qsj Qsk Qsl Qsm Qsn Qso Qsp Qsq Qsr Qss Qst Qsu Qsv Qsw Qsx Qsy Qsz Qt0 Qt1 Qt2 Qt3 Qt4 Qt5 Qt6 Qt7 Qt8 Qt9 Qta Qtb Qtc Qtd Qte Qtf Qtg Qth Qti)
    simp only [true_and, and_true]
    have lp := AHeap.Le.push hw ⟨[], 2, true⟩
    have hm := HP.most
    refine ⟨⟨fun i hi => ?_, fun ⟨i, k⟩ ⟨hi, hk⟩ => ?_⟩, fun ⟨n, o⟩ ⟨hn, B, hxs⟩ => ?_, fun ⟨n, o, i, vw, sq, op, ab, nb, cb⟩ ⟨hn, B, hi, hb⟩ => ?_, fun ⟨n, o, i, vw, sq, op, ⟨ab, nb, cb⟩, k⟩ ⟨hn, B, hi, hk, hb⟩ => ?_⟩
    · refine bs_d (fun hlt => ?_) (fun hge => ⟨(), by rw [List.take_of_length_le (by omega)]⟩)
      exact ⟨(i, 0), congrArg _ (congrArg _ (List.append_nil _).symm), rfl, rfl, ⟨by dsimp only; omega, Nat.zero_le _⟩, fun j hj => ⟨j + 1, rfl, by rw [wrap_i64 (by dsimp only at hj; omega)]; rfl, by dsimp only at hj; omega, by dsimp only at hj; omega, fun _ h => h, fun _ _ h => h⟩, fun _ _ h => h⟩
    · dsimp only at *
      obtain ⟨⟨f, v, ps⟩, hat⟩ : ∃ y : Int × Int × List Prf, cs[i]? = some y := ⟨_, List.getElem?_eq_getElem hi⟩
      have n3 : ps.length ≤ 1000 := n2 _ (List.mem_of_getElem? hat)
      obtain ⟨l, r, row, ha, _, hrd, hld⟩ := (hx.mono lp).elem hat
      obtain ⟨v1, rfl, s1⟩ := rd_change.1 hrd
      obtain ⟨a2, c2, rfl⟩ := s1.isSlice
      dsimp only at hld s1
      rw [prA_at hat] at hk ⊢
      refine ⟨l, r, ha, Int.natCast_nonneg _, by omega, a2, ps.length, c2, ld_cells (k := 2) (m := 1) hld (by simp), bs_d (fun hlt => ?_) (fun hge => ⟨i, ?_, rfl, rfl⟩)⟩
      · obtain ⟨⟨pv, pq, po, pb⟩, hak⟩ : ∃ y : Prf, ps[k]? = some y := ⟨_, List.getElem?_eq_getElem (by omega)⟩
        obtain ⟨l2, r2, row2, ha2, _, hrd2, hld2⟩ := s1.elem hak
        obtain ⟨v2, rfl, s2⟩ := rd_proof.1 hrd2
        dsimp only at hld2
        refine ⟨l, r, ha, Int.natCast_nonneg _, by omega, a2, ps.length, c2, ld_cells (k := 2) (m := 1) hld (by simp), l2, r2, ha2, Int.natCast_nonneg _, hlt, pq, ld_cells (k := 1) (m := 1) hld2 (by simp), _, _, l01Max_spec _ _ _, (i, k + 1), ?_, rfl, by rw [wrap_i64 (by omega)]; rfl, rfl, ⟨hi, by dsimp only; rw [prA_at hat]; omega⟩, by dsimp only; rw [prA_at hat]; omega, fun _ h => h, fun _ _ h => h⟩
        show Value.int .i64 (if mostB (prfs (cs.take i) ++ ps.take k) < pq then pq else mostB (prfs (cs.take i) ++ ps.take k)) = Value.int .i64 (mostB (prfs (cs.take i) ++ (prA cs i).take (k + 1)))
        rw [prA_at hat, snoc_take hak, mostB_snoc]
      · rw [prfs_take hat, List.take_of_length_le (l := ps) (by omega)]; rfl
    · dsimp only at *
      refine bs_d (fun hle => ?_) (fun hgt => ⟨o, rfl, rfl, B, by rw [hxs]; unfold wantM; rw [show n = (mostB (prfs cs)).toNat by omega]⟩)
      have ol : o.xs.length = n := by rw [hxs, wantN_len]
      refine ⟨(n, o, 0, -1, 0, ⟨#[]⟩, none, 0, 0), rfl, rfl, rfl, rfl, rfl, ⟨by dsimp only; omega, B, Nat.zero_le _, rfl⟩, fun ⟨j1, oj, vw, sq, op, ab, nb, cb⟩ ⟨e1, e2, e3⟩ => ?_, fun _ _ h => h⟩
      dsimp only at e1 e2 e3 ⊢
      replace e1 := e1.symm
      replace e2 := e2.symm
      subst e1 e2
      obtain ⟨o', e6, B', hx', _, _, _⟩ := B.app (x := ((n : Int) + 1, op)) freshRn .nil (by simp)
      refine ⟨_, rowsV_push, rfl, by simp only [List.length_cons, List.length_nil]; omega, _, _, _, o'.g, e6, (n + 1, o'), rfl, by rw [wrap_i64 (by omega)]; rfl, rfl, ⟨by dsimp only; omega, B', ?_⟩, by dsimp only; omega, fun _ h => h, fun _ _ h => h⟩
      dsimp only
      rw [hx', hxs, wantN, opB_getD, ← e3]
    · dsimp only at *
      refine bs_d (fun hlt => ?_) (fun hge => ⟨(n, o, vw, sq, op, ab, nb, cb), rfl, rfl, rfl, rfl, rfl, rfl, by rw [List.take_of_length_le (by omega)] at hb; exact hb⟩)
      refine ⟨(n, o, i, vw, sq, op, (ab, nb, cb), 0), rfl, rfl, rfl, rfl, rfl, rfl, ⟨hn, B, by dsimp only; omega, Nat.zero_le _, by dsimp only; rw [hb]; exact congrArg (fun z => (bestB _ z).getD bZ) (List.append_nil _).symm⟩, fun ⟨j1, oj, ij, vw', sq', op', ab', nb', cb'⟩ ⟨e1, e2, e3, e4⟩ => ?_, fun _ _ h => h⟩
      dsimp only at e1 e2 e3 e4 ⊢
      replace e1 := e1.symm
      replace e2 := e2.symm
      replace e3 := e3.symm
      subst e1 e2 e3
      exact ⟨(n, o, i + 1, vw', sq', op', ab', nb', cb'), rfl, rfl, by rw [wrap_i64 (by omega)]; rfl, rfl, rfl, ⟨hn, B, by dsimp only; omega, e4⟩, by dsimp only; omega, fun _ h => h, fun _ _ h => h⟩
    · dsimp only at *
      have le := B.le
      obtain ⟨⟨f, v, ps⟩, hat⟩ : ∃ y : Int × Int × List Prf, cs[i]? = some y := ⟨_, List.getElem?_eq_getElem hi⟩
      have n3 : ps.length ≤ 1000 := n2 _ (List.mem_of_getElem? hat)
      obtain ⟨l, r, row, ha, _, hrd, hld⟩ := (hx.mono le).elem hat
      obtain ⟨v1, rfl, s1⟩ := rd_change.1 hrd
      obtain ⟨a2, c2, rfl⟩ := s1.isSlice
      dsimp only at hld s1
      rw [prA_at hat] at hk hb ⊢
      refine ⟨l, r, ha, Int.natCast_nonneg _, by omega, a2, ps.length, c2, ld_cells (k := 2) (m := 1) hld (by simp), bs_d (fun hlt => ?_) (fun hge => ⟨(n, o, i, vw, sq, op, ab, nb, cb), rfl, rfl, rfl, rfl, rfl, rfl, rfl, rfl, ?_⟩)⟩
      · obtain ⟨⟨pv, pq, po, pb⟩, hak⟩ : ∃ y : Prf, ps[k]? = some y := ⟨_, List.getElem?_eq_getElem (by omega)⟩
        obtain ⟨l2, r2, row2, ha2, _, hrd2, hld2⟩ := s1.elem hak
        obtain ⟨v2, rfl, s2⟩ := rd_proof.1 hrd2
        obtain ⟨a3, c3, rfl⟩ := s2.isSlice
        dsimp only at hld2
        have hb' : (vw, op) = (bestB ((n : Int) + 1) (prfs (cs.take i) ++ ps.take k)).getD bZ := hb
        have hp0 : 0 ≤ pv := (HP _ (prfs_at hat hak)).1
        have no : ¬ (pq = (n : Int) + 1 ∧ vw < pv) → (vw, op) = (bestB ((n : Int) + 1) (prfs (cs.take i) ++ ps.take (k + 1))).getD bZ := fun e => by
          rw [snoc_take hak, bestB_snoc, stepB_no (p := (pv, pq, po, pb)) (fun h2 => e ⟨h2.1, by have := h2.2; dsimp only at this; rw [← hb'] at this; exact this⟩) hp0]; exact hb'
        refine ⟨l, r, ha, Int.natCast_nonneg _, by omega, a2, ps.length, c2, ld_cells (k := 2) (m := 1) hld (by simp), l2, r2, ha2, Int.natCast_nonneg _, hlt, _, _, _, _, _, _, hld2, bs_d (fun e1 => bs_d (fun e2 => ?_) (fun e2 => ?_)) (fun e1 => ?_)⟩
        · refine ⟨(n, o, i, pv, pq, po, (a3, pb.length, c3), k + 1), rfl, rfl, rfl, by rw [wrap_i64 (by omega)]; rfl, rfl, rfl, ⟨hn, B, hi, by dsimp only; rw [prA_at hat]; omega, ?_⟩, by dsimp only; rw [prA_at hat]; omega, fun _ h => h, fun _ _ h => h⟩
          show (pv, po) = (bestB ((n : Int) + 1) (prfs (cs.take i) ++ (prA cs i).take (k + 1))).getD bZ
          rw [prA_at hat, snoc_take hak, bestB_snoc, stepB_yes (p := (pv, pq, po, pb)) e1 (by rw [← hb']; exact e2)]
        · refine ⟨(n, o, i, vw, sq, op, (ab, nb, cb), k + 1), rfl, rfl, rfl, by rw [wrap_i64 (by omega)]; rfl, rfl, rfl, ⟨hn, B, hi, by dsimp only; rw [prA_at hat]; omega, ?_⟩, by dsimp only; rw [prA_at hat]; omega, fun _ h => h, fun _ _ h => h⟩
          show (vw, op) = (bestB ((n : Int) + 1) (prfs (cs.take i) ++ (prA cs i).take (k + 1))).getD bZ
          rw [prA_at hat]
          exact no fun h => e2 h.2
        · refine ⟨(n, o, i, vw, sq, op, (ab, nb, cb), k + 1), rfl, rfl, rfl, by rw [wrap_i64 (by omega)]; rfl, rfl, rfl, ⟨hn, B, hi, by dsimp only; rw [prA_at hat]; omega, ?_⟩, by dsimp only; rw [prA_at hat]; omega, fun _ h => h, fun _ _ h => h⟩
          show (vw, op) = (bestB ((n : Int) + 1) (prfs (cs.take i) ++ (prA cs i).take (k + 1))).getD bZ
          rw [prA_at hat]
          exact no fun h => e1 h.1
      · rw [prfs_take hat]; rw [List.take_of_length_le (l := ps) (by omega)] at hb; exact hb
  (refine vc_mp (by kernel_rfl : (∃ (i : Nat), Qru a cs c (Qtg h) (Qtg h) (Qrm 0 = Qte i cs) (Qt8 i) (Qrl (Qtc h) (i ≤ List.length cs) (∀ (j : Unit), True → (∃ (i : Nat × OX (Sh.T freshSh)), Qru a cs c (Qtg h) (Qrz (Prod.snd i)) (Qry cs) (Qrn 1 (Qs8 (Prod.fst i))) (Qrl (Qt9 i = Qtb h) ((↑(Prod.fst i) : Int) ≤ Qrx cs ∧ Qsy h (Prod.snd i) ∧ OX.xs (Prod.snd i) = wantN (prfs cs) (Prod.fst i)) (∀ (j : OX (Sh.T freshSh)), Qsy h j ∧ OX.xs j = wantM cs → Q (Qrz j) (OX.g j)) (∀ (v : Value) (h : AHeap), False → Q v h)))) (∀ (v : Value) (h : AHeap), False → Q v h))) = _) ?_; delta Qrl Qrm Qrn Qro Qrs Qru Qrv Qrx Qry Qrz Qs5 Qs8 Qsp Qsy Qt1 Qt8 Qt9 Qta Qtb Qtc Qte Qtg)
  have wp := hw.push ⟨[], 2, true⟩
  have B0 : OXok freshSh h ⟨some ⟨h.n, 0, some 2⟩, 1, [], [h.n], h.push ⟨[], 2, true⟩⟩ := SoB.flat (s := freshSh) (g := h) rfl (AHeap.Le.push hw ⟨[], 2, true⟩) wp hw (Nat.le_refl _) rfl AHeap.get_push_eq rfl (.inr rfl) (fun i y row h1 => by cases h1)
  exact ⟨(0 : Nat), rfl, rfl, rfl, rfl, rfl, Nat.zero_le _, fun _ _ => ⟨(0, ⟨some ⟨h.n, 0, some 2⟩, 1, [], [h.n], h.push ⟨[], 2, true⟩⟩), rfl, rfl, rfl, rfl, rfl, ⟨HP.most.1, B0, rfl⟩, fun o ⟨B, e⟩ => HQ _ _ ⟨o, rfl, rfl, B, e⟩, fun _ _ h => h.elim⟩, fun _ _ h => h.elim⟩
end Go.Proofs.YtpgfjadjhliohaaGreat
