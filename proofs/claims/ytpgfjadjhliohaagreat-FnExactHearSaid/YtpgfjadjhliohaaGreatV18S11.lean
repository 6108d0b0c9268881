/- S11. -/
import Derived.Test.YtpgfjadjhliohaaGreatV18PK
namespace Go.Proofs.YtpgfjadjhliohaaGreat
open Go.Abs Go.Dat
set_option maxRecDepth 100000
set_option maxHeartbeats 8000000
abbrev Q110 := Option Addr
abbrev Q111 := Sh.T Sh.int × Sh.T Sh.int × Sh.T Sh.int × Sh.T Sh.int × ByteArray × Sh.T (Sh.sl changeSh)
abbrev Q112 := Sh.T Sh.int × Sh.T Sh.int × Sh.T Sh.int × Int × Sh.T (Sh.pair Sh.str (Sh.sl changeSh))
abbrev Q113 := Sh.T Sh.int × Sh.T Sh.int × Int × Sh.T (Sh.pair Sh.int (Sh.pair Sh.str (Sh.sl changeSh)))
def Q10e (a : Prop) := True ∧ True ∧ a
def Q10f (a : Prop) := (True ∧ (True ∧ True) ∧ True) ∧ a
def Q10g (a : FuncId) (b : List Value) (c : AHeap) (d : Value) (e : AHeap) (f : Prop) := ACall Tryz.prog a b c d e ∧ f
def Q10h (a b c : AHeap) (d : Prop) := (AHeap.get a (AHeap.n b) = AHeap.get c (AHeap.n b) ∧ AHeap.n c ≤ AHeap.n a) ∧ d
def Q10i := (0 : Nat)
def Q10j (a b : AHeap) (c : Option (List Value)) (d : Prop) := AHeap.ld a (AHeap.n b) Q10i Q10i 15 = c ∧ d
def Q10k := Value.bool false
def Q10l (a : Int) := Value.int IntKind.i64 a
def Q10m := Q10l 1
def Q10n (a : List Value) := Value.agg (Array.mk a)
def Q10o (a b : Int) (c : Bool) (d : Int) (e : Q110) (f g : Nat) (h : Q110) (i j : Nat) (k l m n : Int) (o : ByteArray) (p : Q110) (q r : Nat) (s : Q110) (t u : Nat) (v : Value) (w : Int) := [Q10l a, Q10l b, Value.bool c, Q10l d, Value.slice e f g, Value.slice h i j, Q10l k, Q10l l, Q10l m, Q10l n, Value.string o, Value.slice p q r, Value.slice s t u, v, Q10l w]
def Q10p (a b c d : Int) (e : ByteArray) (f : Q110) (g h : Nat) := Q10n [Q10l a, Q10l b, Q10l c, Q10l d, Value.string e, Value.slice f g h]
def Q10q (a b : Int) (c : Bool) (d : Int) (e : Q110) (f g : Nat) (h : Q110) (i j : Nat) (k l m n : Int) (o : ByteArray) (p : Q110) (q r : Nat) (s : Q110) (t u : Nat) := Q10n [Q10l a, Q10l b, Value.bool c, Q10l d, Value.slice e f g, Value.slice h i j, Q10l k, Q10l l, Q10l m, Q10l n, Value.string o, Value.slice p q r, Value.slice s t u]
def Q10r (a : Q111) := Prod.fst (Prod.snd (Prod.snd (Prod.snd (Prod.snd a))))
def Q10s (a : Q112) := Q10l (Prod.fst (Prod.snd (Prod.snd (Prod.snd a))))
def Q10t (a : Q113) := Q10l (Prod.fst (Prod.snd (Prod.snd a)))
def Q10u (a : Int × Sh.T (Sh.pair Sh.int (Sh.pair Sh.int (Sh.pair Sh.int (Sh.pair Sh.str (Sh.sl changeSh)))))) (b : Sh.T Sh.int × Int × Sh.T (Sh.pair Sh.int (Sh.pair Sh.int (Sh.pair Sh.str (Sh.sl changeSh))))) (c : Q113) (d : Q112) (e : Q111) (f : Value) := Q10n [Q10l (Prod.fst a), Q10l (Prod.fst (Prod.snd b)), Q10t c, Q10s d, Value.string (Q10r e), f]
def Q10v (a : AHeap) (b : List (List Value)) := AHeap.push a (AObj.mk b 15 true)
def Q10w := Q10l (Int.ofNat Q10i)
def Q10x := Value.slice none Q10i Q10i
def Q10y := [Q10w, Q10w, Value.bool false, Q10w, Q10x, Q10x, Q10w, Q10w, Q10w, Q10w, Value.string (ByteArray.mk (Array.mk List.nil)), Q10x, Q10x, Q10x, Q10w]
def Q10z (a : Int × Sh.T (Sh.pair Sh.int (Sh.pair Sh.bool (Sh.pair Sh.int (Sh.pair (Sh.sl voteSh) (Sh.pair (Sh.sl changeSh) (Sh.pair saySh (Sh.sl Sh.str)))))))) (b : Sh.T Sh.int × Int × Sh.T (Sh.pair Sh.bool (Sh.pair Sh.int (Sh.pair (Sh.sl voteSh) (Sh.pair (Sh.sl changeSh) (Sh.pair saySh (Sh.sl Sh.str))))))) (c : Sh.T Sh.int × Sh.T Sh.int × Bool × Sh.T (Sh.pair Sh.int (Sh.pair (Sh.sl voteSh) (Sh.pair (Sh.sl changeSh) (Sh.pair saySh (Sh.sl Sh.str)))))) (d : Sh.T Sh.int × Sh.T Sh.int × Sh.T Sh.bool × Int × Sh.T (Sh.pair (Sh.sl voteSh) (Sh.pair (Sh.sl changeSh) (Sh.pair saySh (Sh.sl Sh.str))))) (e f : Value) (g : Sh.T Sh.int × Sh.T Sh.int × Sh.T Sh.bool × Sh.T Sh.int × Sh.T (Sh.sl voteSh) × Sh.T (Sh.sl changeSh) × (Int × Sh.T (Sh.pair Sh.int (Sh.pair Sh.int (Sh.pair Sh.int (Sh.pair Sh.str (Sh.sl changeSh)))))) × Sh.T (Sh.sl Sh.str)) (h : Sh.T Sh.int × Sh.T Sh.int × Sh.T Sh.bool × Sh.T Sh.int × Sh.T (Sh.sl voteSh) × Sh.T (Sh.sl changeSh) × (Sh.T Sh.int × Int × Sh.T (Sh.pair Sh.int (Sh.pair Sh.int (Sh.pair Sh.str (Sh.sl changeSh))))) × Sh.T (Sh.sl Sh.str)) (i : Sh.T Sh.int × Sh.T Sh.int × Sh.T Sh.bool × Sh.T Sh.int × Sh.T (Sh.sl voteSh) × Sh.T (Sh.sl changeSh) × (Sh.T Sh.int × Sh.T Sh.int × Int × Sh.T (Sh.pair Sh.int (Sh.pair Sh.str (Sh.sl changeSh)))) × Sh.T (Sh.sl Sh.str)) (j : Sh.T Sh.int × Sh.T Sh.int × Sh.T Sh.bool × Sh.T Sh.int × Sh.T (Sh.sl voteSh) × Sh.T (Sh.sl changeSh) × (Sh.T Sh.int × Sh.T Sh.int × Sh.T Sh.int × Int × Sh.T (Sh.pair Sh.str (Sh.sl changeSh))) × Sh.T (Sh.sl Sh.str)) (k : Sh.T Sh.int × Sh.T Sh.int × Sh.T Sh.bool × Sh.T Sh.int × Sh.T (Sh.sl voteSh) × Sh.T (Sh.sl changeSh) × (Sh.T Sh.int × Sh.T Sh.int × Sh.T Sh.int × Sh.T Sh.int × ByteArray × Sh.T (Sh.sl changeSh)) × Sh.T (Sh.sl Sh.str)) (l m : Value) := Q10n [Q10l (Prod.fst a), Q10l (Prod.fst (Prod.snd b)), Value.bool (Prod.fst (Prod.snd (Prod.snd c))), Q10l (Prod.fst (Prod.snd (Prod.snd (Prod.snd d)))), e, f, Q10l (Prod.fst (Prod.fst (Prod.snd (Prod.snd (Prod.snd (Prod.snd (Prod.snd (Prod.snd g)))))))), Q10l (Prod.fst (Prod.snd (Prod.fst (Prod.snd (Prod.snd (Prod.snd (Prod.snd (Prod.snd (Prod.snd h))))))))), Q10t (Prod.fst (Prod.snd (Prod.snd (Prod.snd (Prod.snd (Prod.snd (Prod.snd i))))))), Q10s (Prod.fst (Prod.snd (Prod.snd (Prod.snd (Prod.snd (Prod.snd (Prod.snd j))))))), Value.string (Q10r (Prod.fst (Prod.snd (Prod.snd (Prod.snd (Prod.snd (Prod.snd (Prod.snd k)))))))), l, m]
@[reducible] def zTHear : List Value := [.int .i64 (Int.ofNat 0), .int .i64 (Int.ofNat 0), .bool false, .int .i64 (Int.ofNat 0), .slice none 0 0, .slice none 0 0, .int .i64 (Int.ofNat 0), .int .i64 (Int.ofNat 0), .int .i64 (Int.ofNat 0), .int .i64 (Int.ofNat 0), .string ⟨#[]⟩, .slice none 0 0, .slice none 0 0, .slice none 0 0, .int .i64 (Int.ofNat 0)]
@[reducible] def rTHear (T : replicaOutSh.T) (o1 : Option Addr) (c1 : Nat) (o2 : Option Addr) (c2 : Nat) (o3 : Option Addr) (c3 : Nat) (o4 : Option Addr) (c4 : Nat) (o5 : Option Addr) (c5 : Nat) : List Value := [.int .i64 T.1.1, .int .i64 T.1.2.1, .bool T.1.2.2.1, .int .i64 T.1.2.2.2.1, .slice o1 (List.length T.1.2.2.2.2.1) c1, .slice o2 (List.length T.1.2.2.2.2.2.1) c2, .int .i64 T.1.2.2.2.2.2.2.1.1, .int .i64 T.1.2.2.2.2.2.2.1.2.1, .int .i64 T.1.2.2.2.2.2.2.1.2.2.1, .int .i64 T.1.2.2.2.2.2.2.1.2.2.2.1, .string T.1.2.2.2.2.2.2.1.2.2.2.2.1, .slice o3 (List.length T.1.2.2.2.2.2.2.1.2.2.2.2.2) c3, .slice o4 (List.length T.1.2.2.2.2.2.2.2) c4, .slice o5 (List.length T.2.1) c5, .int .i64 T.2.2]
theorem lawHear (h : AHeap) (hw : h.wf) (a0 : replicaSh.T) (v0_1 v0_2 v0_3 v0_4 : Value) (s0_1 : Sl h voteSh a0.2.2.2.2.1 v0_1) (s0_2 : Sl h changeSh a0.2.2.2.2.2.1 v0_2) (s0_3 : Sl h changeSh a0.2.2.2.2.2.2.1.2.2.2.2.2 v0_3) (s0_4 : Sl h Sh.str a0.2.2.2.2.2.2.2 v0_4) (ok0 : replicaSh.ok a0) (a1 : saySh.T) (v1_1 : Value) (s1_1 : Sl h changeSh a1.2.2.2.2.2 v1_1) (ok1 : saySh.ok a1) :
    ∃ v h', ACall Tryz.prog 5 [.agg #[.int .i64 a0.1, .int .i64 a0.2.1, .bool a0.2.2.1, .int .i64 a0.2.2.2.1, v0_1, v0_2, .int .i64 a0.2.2.2.2.2.2.1.1, .int .i64 a0.2.2.2.2.2.2.1.2.1, .int .i64 a0.2.2.2.2.2.2.1.2.2.1, .int .i64 a0.2.2.2.2.2.2.1.2.2.2.1, .string a0.2.2.2.2.2.2.1.2.2.2.2.1, v0_3, v0_4], .agg #[.int .i64 a1.1, .int .i64 a1.2.1, .int .i64 a1.2.2.1, .int .i64 a1.2.2.2.1, .string a1.2.2.2.2.1, v1_1]] h v h' ∧ v = .bool true := by
  obtain ⟨T, hT⟩ : ∃ T, T = (hearM a0 a1) := ⟨_, rfl⟩
  refine acall_q fun Q HQ => ?_
  refine acall_vc (fun t => t == 6 || t == 9 || t == 13) (fun r => match r with | 8 => [(5, 2, []), (0, 1, []), (2, 1, []), (1, 3, [5, 2]), (3, 3, [5]), (4, 3, [5]), (6, 3, [])] | 14 => [(0, 1, []), (1, 1, []), (2, 3, [0]), (3, 3, []), (4, 0, [])] | 16 => [(0, 1, []), (1, 1, []), (2, 3, [0]), (3, 3, []), (4, 0, [])] | 31 => [(5, 2, []), (0, 1, []), (2, 1, []), (1, 3, [5, 2]), (3, 3, [5]), (4, 3, [5]), (6, 3, [])] | _ => []) (fun _ => .none) mixed Tryz.func5 rfl rfl rfl (Nat.le_of_ble_eq_true rfl) (by (refine vc_mp (by kernel_rfl : (Q10e (True ∧ Q10f (True ∧ Q10f (Q10e (Q10e (Q10f (Q10f (Q10f (Q10e (True ∧ Q10f (Q10e (Q10e (Q10f (Q10f (True ∧ Q10f (Q10e (Q10f (Q10f (True ∧ True))))))))))))))))))) = _) ?_; delta Q10e Q10f); simp only [and_self]) ?_
  (refine vc_mp (by kernel_rfl : (∃ (x : Int) (h' : AHeap), Q10g 7 [Q10z a0 a0 a0 a0 v0_1 v0_2 a0 a0 a0 a0 a0 v0_3 v0_4, Q10l 1048576] h (Q10l x) h' (bs (decide (x < 0)) (Q (Value.bool true) h') (∃ (x_1 : Int) (h'_1 : AHeap), Q10g 21 [Q10u a1 a1 a1 a1 a1 v1_1, Q10l x] h' (Q10l x_1) h'_1 (bs (decide (x_1 < 0)) (Q (Value.bool true) h'_1) (∃ (x x_2 : Int) (x_3 : Bool) (x_4 : Int) (a : Option Addr) (n c : Nat) (a_1 : Option Addr) (n_1 c_1 : Nat) (x_5 x_6 x_7 x_8 : Int) (x_9 : ByteArray) (a_2 : Option Addr) (n_2 c_2 : Nat) (a_3 : Option Addr) (n_3 c_3 : Nat) (h' : AHeap), Q10g 9 [Q10z a0 a0 a0 a0 v0_1 v0_2 a0 a0 a0 a0 a0 v0_3 v0_4] (Q10v h'_1 [Q10y]) (Q10q x x_2 x_3 x_4 a n c a_1 n_1 c_1 x_5 x_6 x_7 x_8 x_9 a_2 n_2 c_2 a_3 n_3 c_3) h' (Q10u a1 a1 a1 a1 a1 v1_1 = Q10u a1 a1 a1 a1 a1 v1_1 ∧ Q10h h' h'_1 (Q10v h'_1 [Q10y]) (∃ (x_10 x_11 x_12 x_13 : Int) (x_14 : ByteArray) (a_4 : Option Addr) (n_4 c_4 : Nat) (h'_2 : AHeap), Q10g 23 [Q10u a1 a1 a1 a1 a1 v1_1] h' (Q10p x_10 x_11 x_12 x_13 x_14 a_4 n_4 c_4) h'_2 (Q10h h'_2 h'_1 h' (∃ (x_15 x_16 : Int) (x_17 : Bool) (x_18 : Int) (a_5 : Option Addr) (n_5 c_5 : Nat) (a_6 : Option Addr) (n_6 c_6 : Nat) (x_19 x_20 x_21 x_22 : Int) (x_23 : ByteArray) (a_7 : Option Addr) (n_7 c_7 : Nat) (a_8 : Option Addr) (n_8 c_8 : Nat) (a_9 : Option Addr) (n_9 c_9 : Nat) (x_24 : Int) (h' : AHeap), Q10g 22 [Q10q x x_2 x_3 x_4 a n c a_1 n_1 c_1 x_5 x_6 x_7 x_8 x_9 a_2 n_2 c_2 a_3 n_3 c_3, Q10p x_10 x_11 x_12 x_13 x_14 a_4 n_4 c_4] h'_2 (Q10n (Q10o x_15 x_16 x_17 x_18 a_5 n_5 c_5 a_6 n_6 c_6 x_19 x_20 x_21 x_22 x_23 a_7 n_7 c_7 a_8 n_8 c_8 (Value.slice a_9 n_9 c_9) x_24)) h' (Q10h h' h'_1 h'_2 (∃ (h'_3 : AHeap), AHeap.wr h' (AHeap.n h'_1) Q10i Q10i (Q10o x_15 x_16 x_17 x_18 a_5 n_5 c_5 a_6 n_6 c_6 x_19 x_20 x_21 x_22 x_23 a_7 n_7 c_7 a_8 n_8 c_8 (Value.slice a_9 n_9 c_9) x_24) = some h'_3 ∧ (∃ (x x_25 : Int) (x_26 : Bool) (x_27 : Int) (a : Option Addr) (n c : Nat) (a_10 : Option Addr) (n_10 c_10 : Nat) (x_28 x_29 x_30 x_31 : Int) (x_32 : ByteArray) (a_11 : Option Addr) (n_11 c_11 : Nat) (a_12 : Option Addr) (n_12 c_12 : Nat) (h' : AHeap), Q10g 9 [Q10z a0 a0 a0 a0 v0_1 v0_2 a0 a0 a0 a0 a0 v0_3 v0_4] h'_3 (Q10q x x_25 x_26 x_27 a n c a_10 n_10 c_10 x_28 x_29 x_30 x_31 x_32 a_11 n_11 c_11 a_12 n_12 c_12) h' (∃ (x_33 x_34 x_35 x_36 : Int) (x_37 : ByteArray) (a_13 : Option Addr) (n_13 c_13 : Nat) (h'_4 : AHeap), Q10g 23 [Q10u a1 a1 a1 a1 a1 v1_1] h' (Q10p x_33 x_34 x_35 x_36 x_37 a_13 n_13 c_13) h'_4 (∃ (x_38 x_39 : Int) (x_40 : Bool) (x_41 : Int) (a_14 : Option Addr) (n_14 c_14 : Nat) (a_15 : Option Addr) (n_15 c_15 : Nat) (x_42 x_43 x_44 x_45 : Int) (x_46 : ByteArray) (a_16 : Option Addr) (n_16 c_16 : Nat) (a_17 : Option Addr) (n_17 c_17 : Nat) (a_18 : Option Addr) (n_18 c_18 : Nat) (x_47 : Int) (h' : AHeap), Q10g 24 [Q10q x x_25 x_26 x_27 a n c a_10 n_10 c_10 x_28 x_29 x_30 x_31 x_32 a_11 n_11 c_11 a_12 n_12 c_12, Q10p x_33 x_34 x_35 x_36 x_37 a_13 n_13 c_13] h'_4 (Q10n (Q10o x_38 x_39 x_40 x_41 a_14 n_14 c_14 a_15 n_15 c_15 x_42 x_43 x_44 x_45 x_46 a_16 n_16 c_16 a_17 n_17 c_17 (Value.slice a_18 n_18 c_18) x_47)) h' (∃ (h'_5 : AHeap), AHeap.wr (Q10v h' [Q10y]) (AHeap.n h') Q10i Q10i (Q10o x_38 x_39 x_40 x_41 a_14 n_14 c_14 a_15 n_15 c_15 x_42 x_43 x_44 x_45 x_46 a_16 n_16 c_16 a_17 n_17 c_17 (Value.slice a_18 n_18 c_18) x_47) = some h'_5 ∧ (∃ (x_48 x_49 : Int) (x_50 : Bool) (x_51 : Int) (a_19 : Option Addr) (n_19 c_19 : Nat) (a_20 : Option Addr) (n_20 c_20 : Nat) (x_52 x_53 x_54 x_55 : Int) (x_56 : ByteArray) (a_21 : Option Addr) (n_21 c_21 : Nat) (a_22 : Option Addr) (n_22 c_22 : Nat) (a_23 : Option Addr) (n_23 c_23 : Nat) (x_57 : Int), Q10j h'_5 h' (some (Q10o x_48 x_49 x_50 x_51 a_19 n_19 c_19 a_20 n_20 c_20 x_52 x_53 x_54 x_55 x_56 a_21 n_21 c_21 a_22 n_22 c_22 (Value.slice a_23 n_23 c_23) x_57)) (∃ (x_58 x_59 : Int) (x_60 : Bool) (x_61 : Int) (a_24 : Option Addr) (n_24 c_24 : Nat) (a_25 : Option Addr) (n_25 c_25 : Nat) (x_62 x_63 x_64 x_65 : Int) (x_66 : ByteArray) (a_26 : Option Addr) (n_26 c_26 : Nat) (a_27 : Option Addr) (n_27 c_27 : Nat) (a_28 : Option Addr) (n_28 c_28 : Nat) (x_67 : Int), Q10j h'_5 h'_1 (some (Q10o x_58 x_59 x_60 x_61 a_24 n_24 c_24 a_25 n_25 c_25 x_62 x_63 x_64 x_65 x_66 a_26 n_26 c_26 a_27 n_27 c_27 (Value.slice a_28 n_28 c_28) x_67)) (∃ (x_68 : Bool) (h'_6 : AHeap), Q10g 18 [Q10n (Q10o x_48 x_49 x_50 x_51 a_19 n_19 c_19 a_20 n_20 c_20 x_52 x_53 x_54 x_55 x_56 a_21 n_21 c_21 a_22 n_22 c_22 (Value.slice a_23 n_23 c_23) x_57), Q10n (Q10o x_58 x_59 x_60 x_61 a_24 n_24 c_24 a_25 n_25 c_25 x_62 x_63 x_64 x_65 x_66 a_26 n_26 c_26 a_27 n_27 c_27 (Value.slice a_28 n_28 c_28) x_67)] h'_5 (Value.bool x_68) h'_6 (bs (not x_68) (Q Q10k h'_6) (∃ (x_69 x_70 : Int) (x_71 : Bool) (x_72 : Int) (a_29 : Option Addr) (n_29 c_29 : Nat) (a_30 : Option Addr) (n_30 c_30 : Nat) (x_73 x_74 x_75 x_76 : Int) (x_77 : ByteArray) (a_31 : Option Addr) (n_31 c_31 : Nat) (a_32 : Option Addr) (n_32 c_32 : Nat) (h'_7 : AHeap), Q10g 9 [Q10z a0 a0 a0 a0 v0_1 v0_2 a0 a0 a0 a0 a0 v0_3 v0_4] h'_6 (Q10q x_69 x_70 x_71 x_72 a_29 n_29 c_29 a_30 n_30 c_30 x_73 x_74 x_75 x_76 x_77 a_31 n_31 c_31 a_32 n_32 c_32) h'_7 (Q10q x x_25 x_26 x_27 a n c a_10 n_10 c_10 x_28 x_29 x_30 x_31 x_32 a_11 n_11 c_11 a_12 n_12 c_12 = Q10q x x_25 x_26 x_27 a n c a_10 n_10 c_10 x_28 x_29 x_30 x_31 x_32 a_11 n_11 c_11 a_12 n_12 c_12 ∧ (∃ (x_78 : Bool) (h'_8 : AHeap), Q10g 12 [Q10q x x_25 x_26 x_27 a n c a_10 n_10 c_10 x_28 x_29 x_30 x_31 x_32 a_11 n_11 c_11 a_12 n_12 c_12, Q10q x_69 x_70 x_71 x_72 a_29 n_29 c_29 a_30 n_30 c_30 x_73 x_74 x_75 x_76 x_77 a_31 n_31 c_31 a_32 n_32 c_32] h'_7 (Value.bool x_78) h'_8 (bs (not x_78) (Q Q10k h'_8) (∃ (x_79 x_80 x_81 x_82 : Int) (x_83 : ByteArray) (a_33 : Option Addr) (n_33 c_33 : Nat) (h'_9 : AHeap), Q10g 23 [Q10u a1 a1 a1 a1 a1 v1_1] h'_8 (Q10p x_79 x_80 x_81 x_82 x_83 a_33 n_33 c_33) h'_9 (Q10p x_33 x_34 x_35 x_36 x_37 a_13 n_13 c_13 = Q10p x_33 x_34 x_35 x_36 x_37 a_13 n_13 c_13 ∧ (∃ (x_84 : Bool) (h'_10 : AHeap), Q10g 25 [Q10p x_33 x_34 x_35 x_36 x_37 a_13 n_13 c_13, Q10p x_79 x_80 x_81 x_82 x_83 a_33 n_33 c_33] h'_9 (Value.bool x_84) h'_10 (bs (not x_84) (Q Q10k h'_10) (∃ (x_85 : Int) (h'_11 : AHeap), Q10g 13 [Q10q x x_25 x_26 x_27 a n c a_10 n_10 c_10 x_28 x_29 x_30 x_31 x_32 a_11 n_11 c_11 a_12 n_12 c_12, Q10m] h'_10 (Q10l x_85) h'_11 (∃ (x : Int) (h'_12 : AHeap), Q10g 26 [Q10p x_33 x_34 x_35 x_36 x_37 a_13 n_13 c_13, Q10l x_85] h'_11 (Q10l x) h'_12 (bs (decide (x < 0)) (Q Q10k h'_12) (∃ (x x_86 : Int) (x_87 : Bool) (x_88 : Int) (a : Option Addr) (n c : Nat) (a_34 : Option Addr) (n_34 c_34 : Nat) (x_89 x_90 x_91 x_92 : Int) (x_93 : ByteArray) (a_35 : Option Addr) (n_35 c_35 : Nat) (a_36 : Option Addr) (n_36 c_36 : Nat) (a_37 : Option Addr) (n_37 c_37 : Nat) (x_94 : Int), Q10j h'_12 h' (some (Q10o x x_86 x_87 x_88 a n c a_34 n_34 c_34 x_89 x_90 x_91 x_92 x_93 a_35 n_35 c_35 a_36 n_36 c_36 (Value.slice a_37 n_37 c_37) x_94)) (∃ (x_95 x_96 : Int) (x_97 : Bool) (x_98 : Int) (a_38 : Option Addr) (n_38 c_38 : Nat) (a_39 : Option Addr) (n_39 c_39 : Nat) (x_99 x_100 x_101 x_102 : Int) (x_103 : ByteArray) (a_40 : Option Addr) (n_40 c_40 : Nat) (a_41 : Option Addr) (n_41 c_41 : Nat) (a_42 : Option Addr) (n_42 c_42 : Nat) (x_104 : Int), Q10j h'_12 h'_1 (some (Q10o x_95 x_96 x_97 x_98 a_38 n_38 c_38 a_39 n_39 c_39 x_99 x_100 x_101 x_102 x_103 a_40 n_40 c_40 a_41 n_41 c_41 (Value.slice a_42 n_42 c_42) x_104)) (∃ (x_105 : Bool) (h'_13 : AHeap), Q10g 18 [Q10n (Q10o x x_86 x_87 x_88 a n c a_34 n_34 c_34 x_89 x_90 x_91 x_92 x_93 a_35 n_35 c_35 a_36 n_36 c_36 (Value.slice a_37 n_37 c_37) x_94), Q10n (Q10o x_95 x_96 x_97 x_98 a_38 n_38 c_38 a_39 n_39 c_39 x_99 x_100 x_101 x_102 x_103 a_40 n_40 c_40 a_41 n_41 c_41 (Value.slice a_42 n_42 c_42) x_104)] h'_12 (Value.bool x_105) h'_13 (bs (not x_105) (Q Q10k h'_13) (∃ (x x_106 : Int) (x_107 : Bool) (x_108 : Int) (a : Option Addr) (n c : Nat) (a_43 : Option Addr) (n_43 c_43 : Nat) (x_109 x_110 x_111 x_112 : Int) (x_113 : ByteArray) (a_44 : Option Addr) (n_44 c_44 : Nat) (a_45 : Option Addr) (n_45 c_45 : Nat) (a_46 : Option Addr) (n_46 c_46 : Nat) (x_114 : Int), Q10j h'_13 h' (some (Q10o x x_106 x_107 x_108 a n c a_43 n_43 c_43 x_109 x_110 x_111 x_112 x_113 a_44 n_44 c_44 a_45 n_45 c_45 (Value.slice a_46 n_46 c_46) x_114)) (∃ (x_115 : Int) (h'_14 : AHeap), Q10g 19 [Q10n (Q10o x x_106 x_107 x_108 a n c a_43 n_43 c_43 x_109 x_110 x_111 x_112 x_113 a_44 n_44 c_44 a_45 n_45 c_45 (Value.slice a_46 n_46 c_46) x_114), Q10m] h'_13 (Q10l x_115) h'_14 (∃ (x x_116 : Int) (x_117 : Bool) (x_118 : Int) (a : Option Addr) (n c : Nat) (a_47 : Option Addr) (n_47 c_47 : Nat) (x_119 x_120 x_121 x_122 : Int) (x_123 : ByteArray) (a_48 : Option Addr) (n_48 c_48 : Nat) (a_49 : Option Addr) (n_49 c_49 : Nat) (a_50 : Option Addr) (n_50 c_50 : Nat) (x_124 : Int), Q10j h'_14 h' (some (Q10o x x_116 x_117 x_118 a n c a_47 n_47 c_47 x_119 x_120 x_121 x_122 x_123 a_48 n_48 c_48 a_49 n_49 c_49 (Value.slice a_50 n_50 c_50) x_124)) (∃ (x_125 : Int) (h'_15 : AHeap), Q10g 20 [Q10n (Q10o x x_116 x_117 x_118 a n c a_47 n_47 c_47 x_119 x_120 x_121 x_122 x_123 a_48 n_48 c_48 a_49 n_49 c_49 (Value.slice a_50 n_50 c_50) x_124), Q10m] h'_14 (Q10l x_125) h'_15 (bs (decide (x_125 < 0)) (Q Q10k h'_15) (bs (not (decide (x_125 = x_115))) (Q Q10k h'_15) (∃ (x x_126 : Int) (x_127 : Bool) (x_128 : Int) (a : Option Addr) (n c : Nat) (a_51 : Option Addr) (n_51 c_51 : Nat) (x_129 x_130 x_131 x_132 : Int) (x_133 : ByteArray) (a_52 : Option Addr) (n_52 c_52 : Nat) (a_53 : Option Addr) (n_53 c_53 : Nat) (h'_16 : AHeap), Q10g 9 [Q10z a0 a0 a0 a0 v0_1 v0_2 a0 a0 a0 a0 a0 v0_3 v0_4] (Q10v h'_15 [Q10y]) (Q10q x x_126 x_127 x_128 a n c a_51 n_51 c_51 x_129 x_130 x_131 x_132 x_133 a_52 n_52 c_52 a_53 n_53 c_53) h'_16 (Q10u a1 a1 a1 a1 a1 v1_1 = Q10u a1 a1 a1 a1 a1 v1_1 ∧ Q10h h'_16 h'_15 (Q10v h'_15 [Q10y]) (∃ (x_134 x_135 x_136 x_137 : Int) (x_138 : ByteArray) (a_54 : Option Addr) (n_54 c_54 : Nat) (h'_17 : AHeap), Q10g 23 [Q10u a1 a1 a1 a1 a1 v1_1] h'_16 (Q10p x_134 x_135 x_136 x_137 x_138 a_54 n_54 c_54) h'_17 (Q10h h'_17 h'_15 h'_16 (∃ (x_139 x_140 : Int) (x_141 : Bool) (x_142 : Int) (a_55 : Option Addr) (n_55 c_55 : Nat) (a_56 : Option Addr) (n_56 c_56 : Nat) (x_143 x_144 x_145 x_146 : Int) (x_147 : ByteArray) (a_57 : Option Addr) (n_57 c_57 : Nat) (a_58 : Option Addr) (n_58 c_58 : Nat) (a_59 : Option Addr) (n_59 c_59 : Nat) (x_148 : Int) (h'_18 : AHeap), Q10g 24 [Q10q x x_126 x_127 x_128 a n c a_51 n_51 c_51 x_129 x_130 x_131 x_132 x_133 a_52 n_52 c_52 a_53 n_53 c_53, Q10p x_134 x_135 x_136 x_137 x_138 a_54 n_54 c_54] h'_17 (Q10n (Q10o x_139 x_140 x_141 x_142 a_55 n_55 c_55 a_56 n_56 c_56 x_143 x_144 x_145 x_146 x_147 a_57 n_57 c_57 a_58 n_58 c_58 (Value.slice a_59 n_59 c_59) x_148)) h'_18 (Q10h h'_18 h'_15 h'_17 (∃ (h'_19 : AHeap), AHeap.wr h'_18 (AHeap.n h'_15) Q10i Q10i (Q10o x_139 x_140 x_141 x_142 a_55 n_55 c_55 a_56 n_56 c_56 x_143 x_144 x_145 x_146 x_147 a_57 n_57 c_57 a_58 n_58 c_58 (Value.slice a_59 n_59 c_59) x_148) = some h'_19 ∧ (∃ (x x_149 : Int) (x_150 : Bool) (x_151 : Int) (a : Option Addr) (n c : Nat) (a_60 : Option Addr) (n_60 c_60 : Nat) (x_152 x_153 x_154 x_155 : Int) (x_156 : ByteArray) (a_61 : Option Addr) (n_61 c_61 : Nat) (a_62 : Option Addr) (n_62 c_62 : Nat) (a_63 : Option Addr) (n_63 c_63 : Nat) (x_157 : Int), Q10j h'_19 h'_15 (some (Q10o x x_149 x_150 x_151 a n c a_60 n_60 c_60 x_152 x_153 x_154 x_155 x_156 a_61 n_61 c_61 a_62 n_62 c_62 (Value.slice a_63 n_63 c_63) x_157)) (∃ (x_158 x_159 : Int) (x_160 : Bool) (x_161 : Int) (a_64 : Option Addr) (n_64 c_64 : Nat) (a_65 : Option Addr) (n_65 c_65 : Nat) (x_162 x_163 x_164 x_165 : Int) (x_166 : ByteArray) (a_66 : Option Addr) (n_66 c_66 : Nat) (a_67 : Option Addr) (n_67 c_67 : Nat) (a_68 : Option Addr) (n_68 c_68 : Nat) (x_167 : Int), Q10j h'_19 h'_1 (some (Q10o x_158 x_159 x_160 x_161 a_64 n_64 c_64 a_65 n_65 c_65 x_162 x_163 x_164 x_165 x_166 a_66 n_66 c_66 a_67 n_67 c_67 (Value.slice a_68 n_68 c_68) x_167)) (∃ (x_168 : Bool) (h'_20 : AHeap), Q10g 18 [Q10n (Q10o x x_149 x_150 x_151 a n c a_60 n_60 c_60 x_152 x_153 x_154 x_155 x_156 a_61 n_61 c_61 a_62 n_62 c_62 (Value.slice a_63 n_63 c_63) x_157), Q10n (Q10o x_158 x_159 x_160 x_161 a_64 n_64 c_64 a_65 n_65 c_65 x_162 x_163 x_164 x_165 x_166 a_66 n_66 c_66 a_67 n_67 c_67 (Value.slice a_68 n_68 c_68) x_167)] h'_19 (Value.bool x_168) h'_20 (bs (not x_168) (Q Q10k h'_20) (∃ (x x_169 : Int) (x_170 : Bool) (x_171 : Int) (a : Option Addr) (n c : Nat) (a_69 : Option Addr) (n_69 c_69 : Nat) (x_172 x_173 x_174 x_175 : Int) (x_176 : ByteArray) (a_70 : Option Addr) (n_70 c_70 : Nat) (a_71 : Option Addr) (n_71 c_71 : Nat) (a_72 : Option Addr) (n_72 c_72 : Nat) (x_177 : Int), Q10j h'_20 h' (some (Q10o x x_169 x_170 x_171 a n c a_69 n_69 c_69 x_172 x_173 x_174 x_175 x_176 a_70 n_70 c_70 a_71 n_71 c_71 (Value.slice a_72 n_72 c_72) x_177)) (∃ (x_178 : Int) (h' : AHeap), Q10g 20 [Q10n (Q10o x x_169 x_170 x_171 a n c a_69 n_69 c_69 x_172 x_173 x_174 x_175 x_176 a_70 n_70 c_70 a_71 n_71 c_71 (Value.slice a_72 n_72 c_72) x_177), Q10m] h'_20 (Q10l x_178) h' (bs (decide (x_178 < 0)) (Q Q10k h') (bs (not (decide (x_178 = x_115))) (Q Q10k h') (Q (Value.bool true) h')))))))))))))))))))))))))))))))))))))))))))))))))))))))) = _) ?_; delta Q10g Q10h Q10i Q10j Q10k Q10l Q10m Q10n Q10o Q10p Q10q Q10r Q10s Q10t Q10u Q10v Q10w Q10x Q10y Q10z)
  refine ⟨_, _, szReplica_spec h a0 1048576 _ _ _ _ s0_1 s0_2 s0_3 s0_4 (by omega) ok0, bs_d (fun _ => HQ _ _ rfl) (fun q0 => ?_)⟩
  have z0 := replicaSh.sz_le a0 1048576 (by omega)
  have sm0 := replicaSh.sz_small a0 1048576 (by omega) (by omega) (by omega)
  have hcv0 : (replicaSh.cv a0 : Int) ≤ 200000000 := by have := Sh.cv_le replicaSh (by decide) a0 1048576 (by omega) (by omega); omega
  refine ⟨_, _, szSay_spec h a1 (replicaSh.sz a0 1048576) _ s1_1 (by omega) ok1, bs_d (fun _ => HQ _ _ rfl) (fun q1 => ?_)⟩
  have z1 := saySh.sz_le a1 (replicaSh.sz a0 1048576) (by omega)
  have sm1 := saySh.sz_small a1 (replicaSh.sz a0 1048576) (by omega) (by omega) (by omega)
  have hcv1 : (saySh.cv a1 : Int) ≤ 200000000 := by have := Sh.cv_le saySh (by decide) a1 (replicaSh.sz a0 1048576) (by omega) (by omega); omega
  have okT : replicaOutSh.ok T := by rw [hT]; exact hearM_ok a0 ok0 sm0 a1 ok1 sm1
  have cnT : (replicaOutSh.cv T : Int) ≤ 900000000000 := by rw [hT]; exact hearM_cn a0 ok0 sm0 hcv0 a1 ok1 sm1 hcv1
  obtain ⟨g1, hg1⟩ : ∃ g : AHeap, g = h.push ⟨[zTHear], 15, true⟩ := ⟨_, rfl⟩
  have w1 : g1.wf := by rw [hg1]; exact hw.push _
  have k1 : h.Le g1 := by rw [hg1]; exact .push hw _
  have eW : g1.get h.n = some ⟨[zTHear], 15, true⟩ := by rw [hg1]; exact AHeap.get_push_eq
  have np1 : g1.n = h.n + 1 := by rw [hg1]; rfl
  have nn1 := k1.n
  have l0_1 := k1
  rw [← hg1]
  have eo := eW
  obtain ⟨_, g2, C1, k2, w2, y1_1, y1_2, y1_3, y1_4, ids1, rfl, r1, f1⟩ := toReplica_spec g1 a0 _ _ _ _ (s0_1.mono l0_1) (s0_2.mono l0_1) (s0_3.mono l0_1) (s0_4.mono l0_1) w1 sm0
  obtain ⟨z1_1, z1_2, z1_3, z1_4, d1_1, d1_2, d1_3, d1_4, ez, ei, p1_1, p1_2, p1_3, p1_4⟩ := ro_replica.1 r1
  cases ez
  subst ei
  try simp only [List.nil_append, List.append_nil] at f1
  obtain ⟨u1_1, e1_1, rfl⟩ := p1_1.sl.isSlice
  obtain ⟨u1_2, e1_2, rfl⟩ := p1_2.sl.isSlice
  obtain ⟨u1_3, e1_3, rfl⟩ := p1_3.sl.isSlice
  obtain ⟨u1_4, e1_4, rfl⟩ := p1_4.sl.isSlice
  have nn2 := k2.n
  have eW := k2.get _ _ eW
  have l0_2 := l0_1.trans k2
  refine ⟨_, _, _, _, _, _, _, _, _, _, _, _, _, _, _, _, _, _, _, _, _, _, C1, (by first | rfl | exact keepq k2 eo), (by first | rfl | exact keepq k2 eo), ?_⟩
  have eo := eW
  obtain ⟨_, g3, C2, k3, w3, y2_1, ids2, rfl, r2, f2⟩ := toSay_spec g2 a1 _ (s1_1.mono l0_2) w2 sm1
  obtain ⟨z2_1, d2_1, ez, ei, p2_1⟩ := ro_say.1 r2
  cases ez
  subst ei
  try simp only [List.nil_append, List.append_nil] at f2
  obtain ⟨u2_1, e2_1, rfl⟩ := p2_1.sl.isSlice
  have nn3 := k3.n
  have eW := k3.get _ _ eW
  have l0_3 := l0_2.trans k3
  have p1_1 := So.le k3 p1_1
  have p1_2 := So.le k3 p1_2
  have p1_3 := So.le k3 p1_3
  have p1_4 := So.le k3 p1_4
  refine ⟨_, _, _, _, _, _, _, _, _, C2, (by first | rfl | exact keepq k3 eo), ?_⟩
  obtain ⟨_, g4, CW, k4, w4, W1, W2, W3, W4, W5, JW1, JW2, JW3, JW4, JW5, rfl, RW1, RW2, RW3, RW4, RW5, fW⟩ := xsHear g3 w3 a0 _ _ _ _ p1_1.sl p1_2.sl p1_3.sl p1_4.sl ok0 sm0 a1 _ p2_1.sl ok1 sm1
  rw [← hT] at CW RW1 RW2 RW3 RW4 RW5
  obtain ⟨oW1, cW1, rfl⟩ := RW1.sl.isSlice
  obtain ⟨oW2, cW2, rfl⟩ := RW2.sl.isSlice
  obtain ⟨oW3, cW3, rfl⟩ := RW3.sl.isSlice
  obtain ⟨oW4, cW4, rfl⟩ := RW4.sl.isSlice
  obtain ⟨oW5, cW5, rfl⟩ := RW5.sl.isSlice
  have eo := eW
  have nn4 := k4.n
  have eW := k4.get _ _ eW
  have l0_4 := l0_3.trans k4
  refine ⟨_, _, _, _, _, _, _, _, _, _, _, _, _, _, _, _, _, _, _, _, _, _, _, _, _, _, CW, (by first | rfl | exact keepq k4 eo), ?_⟩
  have wr5 : g4.wr h.n 0 0 (rTHear T oW1 cW1 oW2 cW2 oW3 cW3 oW4 cW4 oW5 cW5) = some (g4.put h.n (some ⟨[(rTHear T oW1 cW1 oW2 cW2 oW3 cW3 oW4 cW4 oW5 cW5)], 15, true⟩)) := by unfold AHeap.wr; rw [eW]; rfl
  have O5 : Out [h.n] g4 (g4.put h.n (some ⟨[(rTHear T oW1 cW1 oW2 cW2 oW3 cW3 oW4 cW4 oW5 cW5)], 15, true⟩)) := Out.put eW rfl
  have w5 := w4.put (w4.lt eW) (some (AObj.mk [(rTHear T oW1 cW1 oW2 cW2 oW3 cW3 oW4 cW4 oW5 cW5)] 15 true))
  have q5 : (g4.put h.n (some ⟨[(rTHear T oW1 cW1 oW2 cW2 oW3 cW3 oW4 cW4 oW5 cW5)], 15, true⟩)).get h.n = some ⟨[(rTHear T oW1 cW1 oW2 cW2 oW3 cW3 oW4 cW4 oW5 cW5)], 15, true⟩ := AHeap.get_put_eq
  refine ⟨_, wr5, ?_⟩
  obtain ⟨g5, hg5⟩ : ∃ g, g = g4.put h.n (some (AObj.mk [(rTHear T oW1 cW1 oW2 cW2 oW3 cW3 oW4 cW4 oW5 cW5)] 15 true)) := ⟨_, rfl⟩
  rw [← hg5] at O5 w5 q5 ⊢
  have nn5 := O5.shp.n
  have l0_5 := leOut l0_4 hw O5 (fun l hl => by rw [List.mem_singleton.1 hl]; omega)
  have RW1 := So.out RW1 O5 (fun l hl hm => by have h1 := List.mem_singleton.1 hm; have h2 := fW.bd l (by simp [hl]); omega)
  have RW2 := So.out RW2 O5 (fun l hl hm => by have h1 := List.mem_singleton.1 hm; have h2 := fW.bd l (by simp [hl]); omega)
  have RW3 := So.out RW3 O5 (fun l hl hm => by have h1 := List.mem_singleton.1 hm; have h2 := fW.bd l (by simp [hl]); omega)
  have RW4 := So.out RW4 O5 (fun l hl hm => by have h1 := List.mem_singleton.1 hm; have h2 := fW.bd l (by simp [hl]); omega)
  have RW5 := So.out RW5 O5 (fun l hl hm => by have h1 := List.mem_singleton.1 hm; have h2 := fW.bd l (by simp [hl]); omega)
  have eW := q5
  obtain ⟨_, g6, C3, k6, w6, y3_1, y3_2, y3_3, y3_4, ids3, rfl, r3, f3⟩ := toReplica_spec g5 a0 _ _ _ _ (s0_1.mono l0_5) (s0_2.mono l0_5) (s0_3.mono l0_5) (s0_4.mono l0_5) w5 sm0
  obtain ⟨z3_1, z3_2, z3_3, z3_4, d3_1, d3_2, d3_3, d3_4, ez, ei, p3_1, p3_2, p3_3, p3_4⟩ := ro_replica.1 r3
  cases ez
  subst ei
  try simp only [List.nil_append, List.append_nil] at f3
  obtain ⟨u3_1, e3_1, rfl⟩ := p3_1.sl.isSlice
  obtain ⟨u3_2, e3_2, rfl⟩ := p3_2.sl.isSlice
  obtain ⟨u3_3, e3_3, rfl⟩ := p3_3.sl.isSlice
  obtain ⟨u3_4, e3_4, rfl⟩ := p3_4.sl.isSlice
  have nn6 := k6.n
  have eW := k6.get _ _ eW
  have l0_6 := l0_5.trans k6
  have RW1 := So.le k6 RW1
  have RW2 := So.le k6 RW2
  have RW3 := So.le k6 RW3
  have RW4 := So.le k6 RW4
  have RW5 := So.le k6 RW5
  refine ⟨_, _, _, _, _, _, _, _, _, _, _, _, _, _, _, _, _, _, _, _, _, _, C3, ?_⟩
  obtain ⟨_, g7, C4, k7, w7, y4_1, ids4, rfl, r4, f4⟩ := toSay_spec g6 a1 _ (s1_1.mono l0_6) w6 sm1
  obtain ⟨z4_1, d4_1, ez, ei, p4_1⟩ := ro_say.1 r4
  cases ez
  subst ei
  try simp only [List.nil_append, List.append_nil] at f4
  obtain ⟨u4_1, e4_1, rfl⟩ := p4_1.sl.isSlice
  have nn7 := k7.n
  have eW := k7.get _ _ eW
  have l0_7 := l0_6.trans k7
  have RW1 := So.le k7 RW1
  have RW2 := So.le k7 RW2
  have RW3 := So.le k7 RW3
  have RW4 := So.le k7 RW4
  have RW5 := So.le k7 RW5
  have p3_1 := So.le k7 p3_1
  have p3_2 := So.le k7 p3_2
  have p3_3 := So.le k7 p3_3
  have p3_4 := So.le k7 p3_4
  refine ⟨_, _, _, _, _, _, _, _, _, C4, ?_⟩
  obtain ⟨_, g8, CG, k8, w8, G1, G2, G3, G4, G5, JG1, JG2, JG3, JG4, JG5, rfl, RG1, RG2, RG3, RG4, RG5, fG⟩ := xiHear g7 w7 a0 _ _ _ _ p3_1.sl p3_2.sl p3_3.sl p3_4.sl ok0 sm0 a1 _ p4_1.sl ok1 sm1
  rw [← hT] at CG RG1 RG2 RG3 RG4 RG5
  obtain ⟨oG1, cG1, rfl⟩ := RG1.sl.isSlice
  obtain ⟨oG2, cG2, rfl⟩ := RG2.sl.isSlice
  obtain ⟨oG3, cG3, rfl⟩ := RG3.sl.isSlice
  obtain ⟨oG4, cG4, rfl⟩ := RG4.sl.isSlice
  obtain ⟨oG5, cG5, rfl⟩ := RG5.sl.isSlice
  have nn8 := k8.n
  have eW := k8.get _ _ eW
  have l0_8 := l0_7.trans k8
  have RW1 := So.le k8 RW1
  have RW2 := So.le k8 RW2
  have RW3 := So.le k8 RW3
  have RW4 := So.le k8 RW4
  have RW5 := So.le k8 RW5
  have p3_1 := So.le k8 p3_1
  have p3_2 := So.le k8 p3_2
  have p3_3 := So.le k8 p3_3
  have p3_4 := So.le k8 p3_4
  have p4_1 := So.le k8 p4_1
  refine ⟨_, _, _, _, _, _, _, _, _, _, _, _, _, _, _, _, _, _, _, _, _, _, _, _, _, _, CG, ?_⟩
  obtain ⟨g9, hg9⟩ : ∃ g : AHeap, g = g8.push ⟨[zTHear], 15, true⟩ := ⟨_, rfl⟩
  have w9 : g9.wf := by rw [hg9]; exact w8.push _
  have k9 : g8.Le g9 := by rw [hg9]; exact .push w8 _
  have eG : g9.get g8.n = some ⟨[zTHear], 15, true⟩ := by rw [hg9]; exact AHeap.get_push_eq
  have np9 : g9.n = g8.n + 1 := by rw [hg9]; rfl
  have nn9 := k9.n
  have eW := k9.get _ _ eW
  have l0_9 := l0_8.trans k9
  have RW1 := So.le k9 RW1
  have RW2 := So.le k9 RW2
  have RW3 := So.le k9 RW3
  have RW4 := So.le k9 RW4
  have RW5 := So.le k9 RW5
  have p3_1 := So.le k9 p3_1
  have p3_2 := So.le k9 p3_2
  have p3_3 := So.le k9 p3_3
  have p3_4 := So.le k9 p3_4
  have p4_1 := So.le k9 p4_1
  have RG1 := So.le k9 RG1
  have RG2 := So.le k9 RG2
  have RG3 := So.le k9 RG3
  have RG4 := So.le k9 RG4
  have RG5 := So.le k9 RG5
  rw [← hg9]
  have wr10 : g9.wr g8.n 0 0 (rTHear T oG1 cG1 oG2 cG2 oG3 cG3 oG4 cG4 oG5 cG5) = some (g9.put g8.n (some ⟨[(rTHear T oG1 cG1 oG2 cG2 oG3 cG3 oG4 cG4 oG5 cG5)], 15, true⟩)) := by unfold AHeap.wr; rw [eG]; rfl
  have O10 : Out [g8.n] g9 (g9.put g8.n (some ⟨[(rTHear T oG1 cG1 oG2 cG2 oG3 cG3 oG4 cG4 oG5 cG5)], 15, true⟩)) := Out.put eG rfl
  have w10 := w9.put (w9.lt eG) (some (AObj.mk [(rTHear T oG1 cG1 oG2 cG2 oG3 cG3 oG4 cG4 oG5 cG5)] 15 true))
  have q10 : (g9.put g8.n (some ⟨[(rTHear T oG1 cG1 oG2 cG2 oG3 cG3 oG4 cG4 oG5 cG5)], 15, true⟩)).get g8.n = some ⟨[(rTHear T oG1 cG1 oG2 cG2 oG3 cG3 oG4 cG4 oG5 cG5)], 15, true⟩ := AHeap.get_put_eq
  refine ⟨_, wr10, ?_⟩
  obtain ⟨g10, hg10⟩ : ∃ g, g = g9.put g8.n (some (AObj.mk [(rTHear T oG1 cG1 oG2 cG2 oG3 cG3 oG4 cG4 oG5 cG5)] 15 true)) := ⟨_, rfl⟩
  rw [← hg10] at O10 w10 q10 ⊢
  have nn10 := O10.shp.n
  have l0_10 := leOut l0_9 hw O10 (fun l hl => by rw [List.mem_singleton.1 hl]; omega)
  have RW1 := So.out RW1 O10 (fun l hl hm => by have h1 := List.mem_singleton.1 hm; have h2 := fW.bd l (by simp [hl]); omega)
  have RW2 := So.out RW2 O10 (fun l hl hm => by have h1 := List.mem_singleton.1 hm; have h2 := fW.bd l (by simp [hl]); omega)
  have RW3 := So.out RW3 O10 (fun l hl hm => by have h1 := List.mem_singleton.1 hm; have h2 := fW.bd l (by simp [hl]); omega)
  have RW4 := So.out RW4 O10 (fun l hl hm => by have h1 := List.mem_singleton.1 hm; have h2 := fW.bd l (by simp [hl]); omega)
  have RW5 := So.out RW5 O10 (fun l hl hm => by have h1 := List.mem_singleton.1 hm; have h2 := fW.bd l (by simp [hl]); omega)
  have p3_1 := So.out p3_1 O10 (fun l hl hm => by have h1 := List.mem_singleton.1 hm; have h2 := f3.bd l (by simp [hl]); omega)
  have p3_2 := So.out p3_2 O10 (fun l hl hm => by have h1 := List.mem_singleton.1 hm; have h2 := f3.bd l (by simp [hl]); omega)
  have p3_3 := So.out p3_3 O10 (fun l hl hm => by have h1 := List.mem_singleton.1 hm; have h2 := f3.bd l (by simp [hl]); omega)
  have p3_4 := So.out p3_4 O10 (fun l hl hm => by have h1 := List.mem_singleton.1 hm; have h2 := f3.bd l (by simp [hl]); omega)
  have p4_1 := So.out p4_1 O10 (fun l hl hm => by have h1 := List.mem_singleton.1 hm; have h2 := f4.bd l (by simp [hl]); omega)
  have RG1 := So.out RG1 O10 (fun l hl hm => by have h1 := List.mem_singleton.1 hm; have h2 := fG.bd l (by simp [hl]); omega)
  have RG2 := So.out RG2 O10 (fun l hl hm => by have h1 := List.mem_singleton.1 hm; have h2 := fG.bd l (by simp [hl]); omega)
  have RG3 := So.out RG3 O10 (fun l hl hm => by have h1 := List.mem_singleton.1 hm; have h2 := fG.bd l (by simp [hl]); omega)
  have RG4 := So.out RG4 O10 (fun l hl hm => by have h1 := List.mem_singleton.1 hm; have h2 := fG.bd l (by simp [hl]); omega)
  have RG5 := So.out RG5 O10 (fun l hl hm => by have h1 := List.mem_singleton.1 hm; have h2 := fG.bd l (by simp [hl]); omega)
  have eW := O10.get _ _ (fun hm => by have h1 := List.mem_singleton.1 hm; omega) eW
  have eG := q10
  have E1 := eqReplicaOut_spec g10 T T _ _ _ _ _ RG1.sl RG2.sl RG3.sl RG4.sl RG5.sl _ _ _ _ _ RW1.sl RW2.sl RW3.sl RW4.sl RW5.sl okT
  rw [eqb_self] at E1
  refine ⟨_, _, _, _, _, _, _, _, _, _, _, _, _, _, _, _, _, _, _, _, _, _, _, _, _, (by unfold AHeap.ld; rw [eG]; rfl), _, _, _, _, _, _, _, _, _, _, _, _, _, _, _, _, _, _, _, _, _, _, _, _, _, (by unfold AHeap.ld; rw [eW]; rfl), _, _, E1, bs_nb (fun e => by cases e) (fun _ => ?_)⟩
  obtain ⟨_, g11, C5, k11, w11, y5_1, y5_2, y5_3, y5_4, ids5, rfl, r5, f5⟩ := toReplica_spec g10 a0 _ _ _ _ (s0_1.mono l0_10) (s0_2.mono l0_10) (s0_3.mono l0_10) (s0_4.mono l0_10) w10 sm0
  obtain ⟨z5_1, z5_2, z5_3, z5_4, d5_1, d5_2, d5_3, d5_4, ez, ei, p5_1, p5_2, p5_3, p5_4⟩ := ro_replica.1 r5
  cases ez
  subst ei
  try simp only [List.nil_append, List.append_nil] at f5
  obtain ⟨u5_1, e5_1, rfl⟩ := p5_1.sl.isSlice
  obtain ⟨u5_2, e5_2, rfl⟩ := p5_2.sl.isSlice
  obtain ⟨u5_3, e5_3, rfl⟩ := p5_3.sl.isSlice
  obtain ⟨u5_4, e5_4, rfl⟩ := p5_4.sl.isSlice
  have nn11 := k11.n
  have eW := k11.get _ _ eW
  have eG := k11.get _ _ eG
  have l0_11 := l0_10.trans k11
  have RW1 := So.le k11 RW1
  have RW2 := So.le k11 RW2
  have RW3 := So.le k11 RW3
  have RW4 := So.le k11 RW4
  have RW5 := So.le k11 RW5
  have p3_1 := So.le k11 p3_1
  have p3_2 := So.le k11 p3_2
  have p3_3 := So.le k11 p3_3
  have p3_4 := So.le k11 p3_4
  have p4_1 := So.le k11 p4_1
  have RG1 := So.le k11 RG1
  have RG2 := So.le k11 RG2
  have RG3 := So.le k11 RG3
  have RG4 := So.le k11 RG4
  have RG5 := So.le k11 RG5
  have E2 := eqReplica_spec g11 a0 a0 _ _ _ _ p3_1.sl p3_2.sl p3_3.sl p3_4.sl _ _ _ _ p5_1.sl p5_2.sl p5_3.sl p5_4.sl ok0
  rw [eqb_self] at E2
  refine ⟨_, _, _, _, _, _, _, _, _, _, _, _, _, _, _, _, _, _, _, _, _, _, C5, rfl, _, _, E2, bs_nb (fun e => by cases e) (fun _ => ?_)⟩
  obtain ⟨_, g12, C6, k12, w12, y6_1, ids6, rfl, r6, f6⟩ := toSay_spec g11 a1 _ (s1_1.mono l0_11) w11 sm1
  obtain ⟨z6_1, d6_1, ez, ei, p6_1⟩ := ro_say.1 r6
  cases ez
  subst ei
  try simp only [List.nil_append, List.append_nil] at f6
  obtain ⟨u6_1, e6_1, rfl⟩ := p6_1.sl.isSlice
  have nn12 := k12.n
  have eW := k12.get _ _ eW
  have eG := k12.get _ _ eG
  have l0_12 := l0_11.trans k12
  have RW1 := So.le k12 RW1
  have RW2 := So.le k12 RW2
  have RW3 := So.le k12 RW3
  have RW4 := So.le k12 RW4
  have RW5 := So.le k12 RW5
  have p3_1 := So.le k12 p3_1
  have p3_2 := So.le k12 p3_2
  have p3_3 := So.le k12 p3_3
  have p3_4 := So.le k12 p3_4
  have p4_1 := So.le k12 p4_1
  have RG1 := So.le k12 RG1
  have RG2 := So.le k12 RG2
  have RG3 := So.le k12 RG3
  have RG4 := So.le k12 RG4
  have RG5 := So.le k12 RG5
  have E3 := eqSay_spec g12 a1 a1 _ p4_1.sl _ p6_1.sl ok1
  rw [eqb_self] at E3
  refine ⟨_, _, _, _, _, _, _, _, _, C6, rfl, _, _, E3, bs_nb (fun e => by cases e) (fun _ => ?_)⟩
  have mk0 := Sh.mkv_cv replicaSh a0 1
  obtain ⟨_, g13, M0, rfl, w13, O0, p3_1, p3_2, p3_3, p3_4⟩ := mkReplica g12 w12 a0 _ _ _ _ _ _ _ _ p3_1 p3_2 p3_3 p3_4 f3.nd 1 (by omega) (by omega)
  have nn13 := O0.shp.n
  have l0_13 := leOut l0_12 hw O0 (fun l hl => by have h1 := (f3.bd l hl).1; omega)
  have RW1 := So.out RW1 O0 (fun l hl hm => by have h1 := f3.bd l hm; have h2 := fW.bd l (by simp [hl]); omega)
  have RW2 := So.out RW2 O0 (fun l hl hm => by have h1 := f3.bd l hm; have h2 := fW.bd l (by simp [hl]); omega)
  have RW3 := So.out RW3 O0 (fun l hl hm => by have h1 := f3.bd l hm; have h2 := fW.bd l (by simp [hl]); omega)
  have RW4 := So.out RW4 O0 (fun l hl hm => by have h1 := f3.bd l hm; have h2 := fW.bd l (by simp [hl]); omega)
  have RW5 := So.out RW5 O0 (fun l hl hm => by have h1 := f3.bd l hm; have h2 := fW.bd l (by simp [hl]); omega)
  have p4_1 := So.out p4_1 O0 (fun l hl hm => by have h1 := f3.bd l hm; have h2 := f4.bd l (by simp [hl]); omega)
  have RG1 := So.out RG1 O0 (fun l hl hm => by have h1 := f3.bd l hm; have h2 := fG.bd l (by simp [hl]); omega)
  have RG2 := So.out RG2 O0 (fun l hl hm => by have h1 := f3.bd l hm; have h2 := fG.bd l (by simp [hl]); omega)
  have RG3 := So.out RG3 O0 (fun l hl hm => by have h1 := f3.bd l hm; have h2 := fG.bd l (by simp [hl]); omega)
  have RG4 := So.out RG4 O0 (fun l hl hm => by have h1 := f3.bd l hm; have h2 := fG.bd l (by simp [hl]); omega)
  have RG5 := So.out RG5 O0 (fun l hl hm => by have h1 := f3.bd l hm; have h2 := fG.bd l (by simp [hl]); omega)
  have eW := O0.get _ _ (fun hm => by have h1 := f3.bd _ hm; omega) eW
  have eG := O0.get _ _ (fun hm => by have h1 := f3.bd _ hm; omega) eG
  refine ⟨_, _, M0, ?_⟩
  have mk1 := Sh.mkv_cv saySh a1 (replicaSh.mkv a0 1).2
  obtain ⟨_, g14, M1, rfl, w14, O1, p4_1⟩ := mkSay g13 w13 a1 _ _ p4_1 f4.nd (replicaSh.mkv a0 1).2 (by omega) (by omega)
  have nn14 := O1.shp.n
  have l0_14 := leOut l0_13 hw O1 (fun l hl => by have h1 := (f4.bd l hl).1; omega)
  have RW1 := So.out RW1 O1 (fun l hl hm => by have h1 := f4.bd l hm; have h2 := fW.bd l (by simp [hl]); omega)
  have RW2 := So.out RW2 O1 (fun l hl hm => by have h1 := f4.bd l hm; have h2 := fW.bd l (by simp [hl]); omega)
  have RW3 := So.out RW3 O1 (fun l hl hm => by have h1 := f4.bd l hm; have h2 := fW.bd l (by simp [hl]); omega)
  have RW4 := So.out RW4 O1 (fun l hl hm => by have h1 := f4.bd l hm; have h2 := fW.bd l (by simp [hl]); omega)
  have RW5 := So.out RW5 O1 (fun l hl hm => by have h1 := f4.bd l hm; have h2 := fW.bd l (by simp [hl]); omega)
  have RG1 := So.out RG1 O1 (fun l hl hm => by have h1 := f4.bd l hm; have h2 := fG.bd l (by simp [hl]); omega)
  have RG2 := So.out RG2 O1 (fun l hl hm => by have h1 := f4.bd l hm; have h2 := fG.bd l (by simp [hl]); omega)
  have RG3 := So.out RG3 O1 (fun l hl hm => by have h1 := f4.bd l hm; have h2 := fG.bd l (by simp [hl]); omega)
  have RG4 := So.out RG4 O1 (fun l hl hm => by have h1 := f4.bd l hm; have h2 := fG.bd l (by simp [hl]); omega)
  have RG5 := So.out RG5 O1 (fun l hl hm => by have h1 := f4.bd l hm; have h2 := fG.bd l (by simp [hl]); omega)
  have eW := O1.get _ _ (fun hm => by have h1 := f4.bd _ hm; omega) eW
  have eG := O1.get _ _ (fun hm => by have h1 := f4.bd _ hm; omega) eG
  refine ⟨_, _, M1, ?_⟩
  refine bs_d (fun e => by omega) (fun _ => ?_)
  have E4 := eqReplicaOut_spec g14 T T _ _ _ _ _ RG1.sl RG2.sl RG3.sl RG4.sl RG5.sl _ _ _ _ _ RW1.sl RW2.sl RW3.sl RW4.sl RW5.sl okT
  rw [eqb_self] at E4
  refine ⟨_, _, _, _, _, _, _, _, _, _, _, _, _, _, _, _, _, _, _, _, _, _, _, _, _, (by unfold AHeap.ld; rw [eG]; rfl), _, _, _, _, _, _, _, _, _, _, _, _, _, _, _, _, _, _, _, _, _, _, _, _, _, (by unfold AHeap.ld; rw [eW]; rfl), _, _, E4, bs_nb (fun e => by cases e) (fun _ => ?_)⟩
  have LDG : g14.ld g8.n 0 0 15 = some (rTHear T oG1 cG1 oG2 cG2 oG3 cG3 oG4 cG4 oG5 cG5) := by unfold AHeap.ld; rw [eG]; rfl
  have mkG := Sh.mkv_cv replicaOutSh T 1
  obtain ⟨_, g15, MG, rfl, w15, OG, RG1, RG2, RG3, RG4, RG5⟩ := mkReplicaOut g14 w14 T _ _ _ _ _ _ _ _ _ _ RG1 RG2 RG3 RG4 RG5 fG.nd 1 (by omega) (by omega)
  have nn15 := OG.shp.n
  have l0_15 := leOut l0_14 hw OG (fun l hl => by have h1 := (fG.bd l hl).1; omega)
  have RW1 := So.out RW1 OG (fun l hl hm => by have h1 := fG.bd l hm; have h2 := fW.bd l (by simp [hl]); omega)
  have RW2 := So.out RW2 OG (fun l hl hm => by have h1 := fG.bd l hm; have h2 := fW.bd l (by simp [hl]); omega)
  have RW3 := So.out RW3 OG (fun l hl hm => by have h1 := fG.bd l hm; have h2 := fW.bd l (by simp [hl]); omega)
  have RW4 := So.out RW4 OG (fun l hl hm => by have h1 := fG.bd l hm; have h2 := fW.bd l (by simp [hl]); omega)
  have RW5 := So.out RW5 OG (fun l hl hm => by have h1 := fG.bd l hm; have h2 := fW.bd l (by simp [hl]); omega)
  have eW := OG.get _ _ (fun hm => by have h1 := fG.bd _ hm; omega) eW
  have eG := OG.get _ _ (fun hm => by have h1 := fG.bd _ hm; omega) eG
  refine ⟨_, _, _, _, _, _, _, _, _, _, _, _, _, _, _, _, _, _, _, _, _, _, _, _, _, LDG, _, _, MG, ?_⟩
  have LDG : g15.ld g8.n 0 0 15 = some (rTHear T oG1 cG1 oG2 cG2 oG3 cG3 oG4 cG4 oG5 cG5) := by unfold AHeap.ld; rw [eG]; rfl
  obtain ⟨_, g16, Q1, rfl, w16, k16⟩ := hdReplicaOut g15 w15 T _ _ _ _ _ 1 (rd_replicaOut.2 ⟨_, _, _, _, _, rfl, RG1.sl, RG2.sl, RG3.sl, RG4.sl, RG5.sl⟩) (by omega) (by omega)
  have nn16 := k16.n
  have eW := k16.get _ _ eW
  have eG := k16.get _ _ eG
  have l0_16 := l0_15.trans k16
  have RW1 := So.le k16 RW1
  have RW2 := So.le k16 RW2
  have RW3 := So.le k16 RW3
  have RW4 := So.le k16 RW4
  have RW5 := So.le k16 RW5
  have RG1 := So.le k16 RG1
  have RG2 := So.le k16 RG2
  have RG3 := So.le k16 RG3
  have RG4 := So.le k16 RG4
  have RG5 := So.le k16 RG5
  refine ⟨_, _, _, _, _, _, _, _, _, _, _, _, _, _, _, _, _, _, _, _, _, _, _, _, _, LDG, _, _, Q1, bs_d (fun e => absurd e (by omega)) (fun _ => bs_dn (fun e => absurd rfl e) (fun _ => ?_))⟩
  obtain ⟨g17, hg17⟩ : ∃ g : AHeap, g = g16.push ⟨[zTHear], 15, true⟩ := ⟨_, rfl⟩
  have w17 : g17.wf := by rw [hg17]; exact w16.push _
  have k17 : g16.Le g17 := by rw [hg17]; exact .push w16 _
  have eH : g17.get g16.n = some ⟨[zTHear], 15, true⟩ := by rw [hg17]; exact AHeap.get_push_eq
  have np17 : g17.n = g16.n + 1 := by rw [hg17]; rfl
  have nn17 := k17.n
  have eW := k17.get _ _ eW
  have eG := k17.get _ _ eG
  have l0_17 := l0_16.trans k17
  have RW1 := So.le k17 RW1
  have RW2 := So.le k17 RW2
  have RW3 := So.le k17 RW3
  have RW4 := So.le k17 RW4
  have RW5 := So.le k17 RW5
  have RG1 := So.le k17 RG1
  have RG2 := So.le k17 RG2
  have RG3 := So.le k17 RG3
  have RG4 := So.le k17 RG4
  have RG5 := So.le k17 RG5
  rw [← hg17]
  have eo := eH
  obtain ⟨_, g18, C7, k18, w18, y7_1, y7_2, y7_3, y7_4, ids7, rfl, r7, f7⟩ := toReplica_spec g17 a0 _ _ _ _ (s0_1.mono l0_17) (s0_2.mono l0_17) (s0_3.mono l0_17) (s0_4.mono l0_17) w17 sm0
  obtain ⟨z7_1, z7_2, z7_3, z7_4, d7_1, d7_2, d7_3, d7_4, ez, ei, p7_1, p7_2, p7_3, p7_4⟩ := ro_replica.1 r7
  cases ez
  subst ei
  try simp only [List.nil_append, List.append_nil] at f7
  obtain ⟨u7_1, e7_1, rfl⟩ := p7_1.sl.isSlice
  obtain ⟨u7_2, e7_2, rfl⟩ := p7_2.sl.isSlice
  obtain ⟨u7_3, e7_3, rfl⟩ := p7_3.sl.isSlice
  obtain ⟨u7_4, e7_4, rfl⟩ := p7_4.sl.isSlice
  have nn18 := k18.n
  have eW := k18.get _ _ eW
  have eG := k18.get _ _ eG
  have eH := k18.get _ _ eH
  have l0_18 := l0_17.trans k18
  have RW1 := So.le k18 RW1
  have RW2 := So.le k18 RW2
  have RW3 := So.le k18 RW3
  have RW4 := So.le k18 RW4
  have RW5 := So.le k18 RW5
  have RG1 := So.le k18 RG1
  have RG2 := So.le k18 RG2
  have RG3 := So.le k18 RG3
  have RG4 := So.le k18 RG4
  have RG5 := So.le k18 RG5
  refine ⟨_, _, _, _, _, _, _, _, _, _, _, _, _, _, _, _, _, _, _, _, _, _, C7, (by first | rfl | exact keepq k18 eo), (by first | rfl | exact keepq k18 eo), ?_⟩
  have eo := eH
  obtain ⟨_, g19, C8, k19, w19, y8_1, ids8, rfl, r8, f8⟩ := toSay_spec g18 a1 _ (s1_1.mono l0_18) w18 sm1
  obtain ⟨z8_1, d8_1, ez, ei, p8_1⟩ := ro_say.1 r8
  cases ez
  subst ei
  try simp only [List.nil_append, List.append_nil] at f8
  obtain ⟨u8_1, e8_1, rfl⟩ := p8_1.sl.isSlice
  have nn19 := k19.n
  have eW := k19.get _ _ eW
  have eG := k19.get _ _ eG
  have eH := k19.get _ _ eH
  have l0_19 := l0_18.trans k19
  have RW1 := So.le k19 RW1
  have RW2 := So.le k19 RW2
  have RW3 := So.le k19 RW3
  have RW4 := So.le k19 RW4
  have RW5 := So.le k19 RW5
  have RG1 := So.le k19 RG1
  have RG2 := So.le k19 RG2
  have RG3 := So.le k19 RG3
  have RG4 := So.le k19 RG4
  have RG5 := So.le k19 RG5
  have p7_1 := So.le k19 p7_1
  have p7_2 := So.le k19 p7_2
  have p7_3 := So.le k19 p7_3
  have p7_4 := So.le k19 p7_4
  refine ⟨_, _, _, _, _, _, _, _, _, C8, (by first | rfl | exact keepq k19 eo), ?_⟩
  obtain ⟨_, g20, CH, k20, w20, H1, H2, H3, H4, H5, JH1, JH2, JH3, JH4, JH5, rfl, RH1, RH2, RH3, RH4, RH5, fH⟩ := xiHear g19 w19 a0 _ _ _ _ p7_1.sl p7_2.sl p7_3.sl p7_4.sl ok0 sm0 a1 _ p8_1.sl ok1 sm1
  rw [← hT] at CH RH1 RH2 RH3 RH4 RH5
  obtain ⟨oH1, cH1, rfl⟩ := RH1.sl.isSlice
  obtain ⟨oH2, cH2, rfl⟩ := RH2.sl.isSlice
  obtain ⟨oH3, cH3, rfl⟩ := RH3.sl.isSlice
  obtain ⟨oH4, cH4, rfl⟩ := RH4.sl.isSlice
  obtain ⟨oH5, cH5, rfl⟩ := RH5.sl.isSlice
  have eo := eH
  have nn20 := k20.n
  have eW := k20.get _ _ eW
  have eG := k20.get _ _ eG
  have eH := k20.get _ _ eH
  have l0_20 := l0_19.trans k20
  have RW1 := So.le k20 RW1
  have RW2 := So.le k20 RW2
  have RW3 := So.le k20 RW3
  have RW4 := So.le k20 RW4
  have RW5 := So.le k20 RW5
  have RG1 := So.le k20 RG1
  have RG2 := So.le k20 RG2
  have RG3 := So.le k20 RG3
  have RG4 := So.le k20 RG4
  have RG5 := So.le k20 RG5
  refine ⟨_, _, _, _, _, _, _, _, _, _, _, _, _, _, _, _, _, _, _, _, _, _, _, _, _, _, CH, (by first | rfl | exact keepq k20 eo), ?_⟩
  have wr21 : g20.wr g16.n 0 0 (rTHear T oH1 cH1 oH2 cH2 oH3 cH3 oH4 cH4 oH5 cH5) = some (g20.put g16.n (some ⟨[(rTHear T oH1 cH1 oH2 cH2 oH3 cH3 oH4 cH4 oH5 cH5)], 15, true⟩)) := by unfold AHeap.wr; rw [eH]; rfl
  have O21 : Out [g16.n] g20 (g20.put g16.n (some ⟨[(rTHear T oH1 cH1 oH2 cH2 oH3 cH3 oH4 cH4 oH5 cH5)], 15, true⟩)) := Out.put eH rfl
  have w21 := w20.put (w20.lt eH) (some (AObj.mk [(rTHear T oH1 cH1 oH2 cH2 oH3 cH3 oH4 cH4 oH5 cH5)] 15 true))
  have q21 : (g20.put g16.n (some ⟨[(rTHear T oH1 cH1 oH2 cH2 oH3 cH3 oH4 cH4 oH5 cH5)], 15, true⟩)).get g16.n = some ⟨[(rTHear T oH1 cH1 oH2 cH2 oH3 cH3 oH4 cH4 oH5 cH5)], 15, true⟩ := AHeap.get_put_eq
  refine ⟨_, wr21, ?_⟩
  obtain ⟨g21, hg21⟩ : ∃ g, g = g20.put g16.n (some (AObj.mk [(rTHear T oH1 cH1 oH2 cH2 oH3 cH3 oH4 cH4 oH5 cH5)] 15 true)) := ⟨_, rfl⟩
  rw [← hg21] at O21 w21 q21 ⊢
  have nn21 := O21.shp.n
  have l0_21 := leOut l0_20 hw O21 (fun l hl => by rw [List.mem_singleton.1 hl]; omega)
  have RW1 := So.out RW1 O21 (fun l hl hm => by have h1 := List.mem_singleton.1 hm; have h2 := fW.bd l (by simp [hl]); omega)
  have RW2 := So.out RW2 O21 (fun l hl hm => by have h1 := List.mem_singleton.1 hm; have h2 := fW.bd l (by simp [hl]); omega)
  have RW3 := So.out RW3 O21 (fun l hl hm => by have h1 := List.mem_singleton.1 hm; have h2 := fW.bd l (by simp [hl]); omega)
  have RW4 := So.out RW4 O21 (fun l hl hm => by have h1 := List.mem_singleton.1 hm; have h2 := fW.bd l (by simp [hl]); omega)
  have RW5 := So.out RW5 O21 (fun l hl hm => by have h1 := List.mem_singleton.1 hm; have h2 := fW.bd l (by simp [hl]); omega)
  have RG1 := So.out RG1 O21 (fun l hl hm => by have h1 := List.mem_singleton.1 hm; have h2 := fG.bd l (by simp [hl]); omega)
  have RG2 := So.out RG2 O21 (fun l hl hm => by have h1 := List.mem_singleton.1 hm; have h2 := fG.bd l (by simp [hl]); omega)
  have RG3 := So.out RG3 O21 (fun l hl hm => by have h1 := List.mem_singleton.1 hm; have h2 := fG.bd l (by simp [hl]); omega)
  have RG4 := So.out RG4 O21 (fun l hl hm => by have h1 := List.mem_singleton.1 hm; have h2 := fG.bd l (by simp [hl]); omega)
  have RG5 := So.out RG5 O21 (fun l hl hm => by have h1 := List.mem_singleton.1 hm; have h2 := fG.bd l (by simp [hl]); omega)
  have RH1 := So.out RH1 O21 (fun l hl hm => by have h1 := List.mem_singleton.1 hm; have h2 := fH.bd l (by simp [hl]); omega)
  have RH2 := So.out RH2 O21 (fun l hl hm => by have h1 := List.mem_singleton.1 hm; have h2 := fH.bd l (by simp [hl]); omega)
  have RH3 := So.out RH3 O21 (fun l hl hm => by have h1 := List.mem_singleton.1 hm; have h2 := fH.bd l (by simp [hl]); omega)
  have RH4 := So.out RH4 O21 (fun l hl hm => by have h1 := List.mem_singleton.1 hm; have h2 := fH.bd l (by simp [hl]); omega)
  have RH5 := So.out RH5 O21 (fun l hl hm => by have h1 := List.mem_singleton.1 hm; have h2 := fH.bd l (by simp [hl]); omega)
  have eW := O21.get _ _ (fun hm => by have h1 := List.mem_singleton.1 hm; omega) eW
  have eG := O21.get _ _ (fun hm => by have h1 := List.mem_singleton.1 hm; omega) eG
  have eH := q21
  have E5 := eqReplicaOut_spec g21 T T _ _ _ _ _ RH1.sl RH2.sl RH3.sl RH4.sl RH5.sl _ _ _ _ _ RW1.sl RW2.sl RW3.sl RW4.sl RW5.sl okT
  rw [eqb_self] at E5
  refine ⟨_, _, _, _, _, _, _, _, _, _, _, _, _, _, _, _, _, _, _, _, _, _, _, _, _, (by unfold AHeap.ld; rw [eH]; rfl), _, _, _, _, _, _, _, _, _, _, _, _, _, _, _, _, _, _, _, _, _, _, _, _, _, (by unfold AHeap.ld; rw [eW]; rfl), _, _, E5, bs_nb (fun e => by cases e) (fun _ => ?_)⟩
  have LDG : g21.ld g8.n 0 0 15 = some (rTHear T oG1 cG1 oG2 cG2 oG3 cG3 oG4 cG4 oG5 cG5) := by unfold AHeap.ld; rw [eG]; rfl
  obtain ⟨_, g22, Q2, rfl, w22, k22⟩ := hdReplicaOut g21 w21 T _ _ _ _ _ 1 (rd_replicaOut.2 ⟨_, _, _, _, _, rfl, RG1.sl, RG2.sl, RG3.sl, RG4.sl, RG5.sl⟩) (by omega) (by omega)
  have nn22 := k22.n
  have eW := k22.get _ _ eW
  have eG := k22.get _ _ eG
  have eH := k22.get _ _ eH
  have l0_22 := l0_21.trans k22
  have RW1 := So.le k22 RW1
  have RW2 := So.le k22 RW2
  have RW3 := So.le k22 RW3
  have RW4 := So.le k22 RW4
  have RW5 := So.le k22 RW5
  have RG1 := So.le k22 RG1
  have RG2 := So.le k22 RG2
  have RG3 := So.le k22 RG3
  have RG4 := So.le k22 RG4
  have RG5 := So.le k22 RG5
  have RH1 := So.le k22 RH1
  have RH2 := So.le k22 RH2
  have RH3 := So.le k22 RH3
  have RH4 := So.le k22 RH4
  have RH5 := So.le k22 RH5
  refine ⟨_, _, _, _, _, _, _, _, _, _, _, _, _, _, _, _, _, _, _, _, _, _, _, _, _, LDG, _, _, Q2, bs_d (fun e => absurd e (by omega)) (fun _ => bs_dn (fun e => absurd rfl e) (fun _ => ?_))⟩
  exact HQ _ _ rfl
end Go.Proofs.YtpgfjadjhliohaaGreat
