import Derived.Test.YtcdpfpfbilfpoaaGreatDoorFe
import Derived.Test.YtcdpfpfbilfpoaaGreatDoorProg
set_option linter.unusedSimpArgs false
set_option linter.unusedVariables false
namespace Go.Proofs.YtcdpfpfbilfpoaaGreatDoor
open Go.RowKit Tryz
noncomputable section
def S_s_l11All : Sums := ⟨tblS [(42, run_s_l01Split), (43, run_s_l11Fresh), (15, run_s_RunLine)], tblM [], false⟩
theorem SO_s_l11All : SumsOK prog S_s_l11All := ⟨tblS_ok ⟨⟨call42, sound_s_l01Split⟩, ⟨call43, sound_s_l11Fresh⟩, ⟨call15, sound_s_RunLine⟩, ⟨⟩⟩, tM⟩
def T_s_l11All_0 (text : ByteArray) (v24_0 v24_1 : Int) (v24_2 v24_3 : Int) (v24_4 v24_5 : Int) (v24_6 v24_7 : Int) (out : ByteArray) (i : Int) : Tab := ⟨[.val (.string text), .junk, .ptr 8 0, .val (.string (bs [])), .val (.bool false), .sub 48 0 ((wI ((((s_l01Split text 10).1 : Nat) : Int) - 1)).toNat) 1, .ptr 24 0, .val (.string out), .val (.int .i64 i), .junk, .junk, .val (.string text), .row 48, .row 48, .row 48, .val (.int .i64 (((s_l01Split text 10).1 : Nat) : Int)), .val (.int .i64 (wI ((((s_l01Split text 10).1 : Nat) : Int) - 1))), .ptr 48 (((wI ((((s_l01Split text 10).1 : Nat) : Int) - 1)).toNat) * 1), .val (.string (((s_l01Split text 10).2).getD (((wI ((((s_l01Split text 10).1 : Nat) : Int) - 1)).toNat) * 1) ByteArray.empty)), .val (.bool (eqS (((s_l01Split text 10).2).getD (((wI ((((s_l01Split text 10).1 : Nat) : Int) - 1)).toNat) * 1) ByteArray.empty) (bs []))), .row 48, .row 48, .val (.int .i64 (((s_l01Split text 10).1 : Nat) : Int)), .val (.int .i64 (wI ((((s_l01Split text 10).1 : Nat) : Int) - 1))), .sub 48 0 ((wI ((((s_l01Split text 10).1 : Nat) : Int) - 1)).toNat) 1, .val (.string text), .val (.int .i64 ((text.size : Nat) : Int)), .val (.bool (decide (((text.size : Nat) : Int) > 4000))), .val (.bool false), .sub 48 0 ((wI ((((s_l01Split text 10).1 : Nat) : Int) - 1)).toNat) 1, .val (.int .i64 (((wI ((((s_l01Split text 10).1 : Nat) : Int) - 1)).toNat : Nat) : Int)), .val (.bool (decide ((((wI ((((s_l01Split text 10).1 : Nat) : Int) - 1)).toNat : Nat) : Int) > 40))), .val (.bool (decide ((((wI ((((s_l01Split text 10).1 : Nat) : Int) - 1)).toNat : Nat) : Int) > 40))), .junk, .val (.agg ⟨[.int .i64 ((s_l11Fresh 7).1), .int .i64 ((s_l11Fresh 7).2.1), .int .i64 ((s_l11Fresh 7).2.2.1), .int .i64 ((s_l11Fresh 7).2.2.2.1), .int .i64 ((s_l11Fresh 7).2.2.2.2.1), .int .i64 ((s_l11Fresh 7).2.2.2.2.2.1), .int .i64 ((s_l11Fresh 7).2.2.2.2.2.2.1), .int .i64 ((s_l11Fresh 7).2.2.2.2.2.2.2)]⟩), .junk, .junk, .junk, .junk, .junk, .junk, .junk, .junk, .junk, .junk, .junk, .junk, .junk, .junk, .junk, .junk, .junk, .junk, .junk, .junk, .junk, .junk, .junk, .junk, .junk, .junk, .junk], [(8, .box 28 [.val (.int .i64 0), .val (.int .i64 0), .val (.int .i64 0), .val (.int .i64 0), .val (.int .i64 0), .val (.int .i64 0), .val (.int .i64 0), .val (.int .i64 0)]), (24, .box 28 [.val (.int .i64 v24_0), .val (.int .i64 v24_1), .val (.int .i64 v24_2), .val (.int .i64 v24_3), .val (.int .i64 v24_4), .val (.int .i64 v24_5), .val (.int .i64 v24_6), .val (.int .i64 v24_7)]), (48, .row 9 1 ((s_l01Split text 10).1) (.strs ((s_l01Split text 10).2)))]⟩
def T_s_l11All_1 (text : ByteArray) (v24_0 v24_1 : Int) (v24_2 v24_3 : Int) (v24_4 v24_5 : Int) (v24_6 v24_7 : Int) (out : ByteArray) (i : Int) : Tab := ⟨[.val (.string text), .junk, .ptr 8 0, .val (.string (bs [])), .val (.bool false), .row 48, .ptr 24 0, .val (.string out), .val (.int .i64 i), .junk, .junk, .val (.string text), .row 48, .row 48, .row 48, .val (.int .i64 (((s_l01Split text 10).1 : Nat) : Int)), .val (.int .i64 (wI ((((s_l01Split text 10).1 : Nat) : Int) - 1))), .ptr 48 (((wI ((((s_l01Split text 10).1 : Nat) : Int) - 1)).toNat) * 1), .val (.string (((s_l01Split text 10).2).getD (((wI ((((s_l01Split text 10).1 : Nat) : Int) - 1)).toNat) * 1) ByteArray.empty)), .val (.bool (eqS (((s_l01Split text 10).2).getD (((wI ((((s_l01Split text 10).1 : Nat) : Int) - 1)).toNat) * 1) ByteArray.empty) (bs []))), .junk, .junk, .junk, .junk, .junk, .val (.string text), .val (.int .i64 ((text.size : Nat) : Int)), .val (.bool (decide (((text.size : Nat) : Int) > 4000))), .val (.bool false), .row 48, .val (.int .i64 (((s_l01Split text 10).1 : Nat) : Int)), .val (.bool (decide ((((s_l01Split text 10).1 : Nat) : Int) > 40))), .val (.bool (decide ((((s_l01Split text 10).1 : Nat) : Int) > 40))), .junk, .val (.agg ⟨[.int .i64 ((s_l11Fresh 7).1), .int .i64 ((s_l11Fresh 7).2.1), .int .i64 ((s_l11Fresh 7).2.2.1), .int .i64 ((s_l11Fresh 7).2.2.2.1), .int .i64 ((s_l11Fresh 7).2.2.2.2.1), .int .i64 ((s_l11Fresh 7).2.2.2.2.2.1), .int .i64 ((s_l11Fresh 7).2.2.2.2.2.2.1), .int .i64 ((s_l11Fresh 7).2.2.2.2.2.2.2)]⟩), .junk, .junk, .junk, .junk, .junk, .junk, .junk, .junk, .junk, .junk, .junk, .junk, .junk, .junk, .junk, .junk, .junk, .junk, .junk, .junk, .junk, .junk, .junk, .junk, .junk, .junk, .junk], [(8, .box 28 [.val (.int .i64 0), .val (.int .i64 0), .val (.int .i64 0), .val (.int .i64 0), .val (.int .i64 0), .val (.int .i64 0), .val (.int .i64 0), .val (.int .i64 0)]), (24, .box 28 [.val (.int .i64 v24_0), .val (.int .i64 v24_1), .val (.int .i64 v24_2), .val (.int .i64 v24_3), .val (.int .i64 v24_4), .val (.int .i64 v24_5), .val (.int .i64 v24_6), .val (.int .i64 v24_7)]), (48, .row 9 1 ((s_l01Split text 10).1) (.strs ((s_l01Split text 10).2)))]⟩
def X_s_l11All_0 (P : Program) (fu : Nat) (text : ByteArray) (f : Nat) (v24_0 v24_1 : Int) (v24_2 v24_3 : Int) (v24_4 v24_5 : Int) (v24_6 v24_7 : Int) (out : ByteArray) (i : Int) : Option ((D8i) × ByteArray × Bool) := loopK (exec P S_s_l11All 62 (fun _ => fu + 100) (Code.sub [1, 1, 1, 1, 1, 0, 1, 0, 0] (bodyF P 22))) f (T_s_l11All_0 text v24_0 v24_1 v24_2 v24_3 v24_4 v24_5 v24_6 v24_7 out i) (kBlock 0 (kSeq (fun zs9 => exec P S_s_l11All 62 (fun _ => fu + 100) (Code.sub [1, 1, 1, 1, 1, 1] (bodyF P 22)) zs9 (finT P 22 dec_a8_s_b)) (finT P 22 dec_a8_s_b)))
def B_s_l11All_0 (text : ByteArray) (rec0 : Int → Int → Int → Int → Int → Int → Int → Int → ByteArray → Int → Option ((D8i) × ByteArray × Bool)) (v24_0 v24_1 : Int) (v24_2 v24_3 : Int) (v24_4 v24_5 : Int) (v24_6 v24_7 : Int) (out : ByteArray) (i : Int) : Option ((D8i) × ByteArray × Bool) :=
 (if (decide (i < (((wI ((((s_l01Split text 10).1 : Nat) : Int) - 1)).toNat : Nat) : Int))) = true then (if (decide (0 ≤ i) && decide (i < (((wI ((((s_l01Split text 10).1 : Nat) : Int) - 1)).toNat : Nat) : Int))) = true then (if (Nat.ble (0 + (i.toNat * 1) + 1) (((s_l01Split text 10).2).length)) = true then (if (eqS (((s_l01Split text 10).2).getD (0 + (i.toNat * 1)) ByteArray.empty) (bs [])) = true then rec0 v24_0 v24_1 v24_2 v24_3 v24_4 v24_5 v24_6 v24_7 out (wI (i + 1)) else (if (decide (0 ≤ i) && decide (i < (((wI ((((s_l01Split text 10).1 : Nat) : Int) - 1)).toNat : Nat) : Int))) = true then (if (Nat.ble (0 + (i.toNat * 1) + 1) (((s_l01Split text 10).2).length)) = true then (if (ok_s_RunLine (v24_0, v24_1, v24_2, v24_3, v24_4, v24_5, v24_6, v24_7) (((s_l01Split text 10).2).getD (0 + (i.toNat * 1)) ByteArray.empty)) = true then (if (Nat.ble (out.size + ((s_RunLine (v24_0, v24_1, v24_2, v24_3, v24_4, v24_5, v24_6, v24_7) (((s_l01Split text 10).2).getD (0 + (i.toNat * 1)) ByteArray.empty)).2).size) 9223372036854775807) = true then (if (Nat.ble ((out ++ ((s_RunLine (v24_0, v24_1, v24_2, v24_3, v24_4, v24_5, v24_6, v24_7) (((s_l01Split text 10).2).getD (0 + (i.toNat * 1)) ByteArray.empty)).2)).size + (bs [10]).size) 9223372036854775807) = true then rec0 (((s_RunLine (v24_0, v24_1, v24_2, v24_3, v24_4, v24_5, v24_6, v24_7) (((s_l01Split text 10).2).getD (0 + (i.toNat * 1)) ByteArray.empty)).1).1) (((s_RunLine (v24_0, v24_1, v24_2, v24_3, v24_4, v24_5, v24_6, v24_7) (((s_l01Split text 10).2).getD (0 + (i.toNat * 1)) ByteArray.empty)).1).2.1) (((s_RunLine (v24_0, v24_1, v24_2, v24_3, v24_4, v24_5, v24_6, v24_7) (((s_l01Split text 10).2).getD (0 + (i.toNat * 1)) ByteArray.empty)).1).2.2.1) (((s_RunLine (v24_0, v24_1, v24_2, v24_3, v24_4, v24_5, v24_6, v24_7) (((s_l01Split text 10).2).getD (0 + (i.toNat * 1)) ByteArray.empty)).1).2.2.2.1) (((s_RunLine (v24_0, v24_1, v24_2, v24_3, v24_4, v24_5, v24_6, v24_7) (((s_l01Split text 10).2).getD (0 + (i.toNat * 1)) ByteArray.empty)).1).2.2.2.2.1) (((s_RunLine (v24_0, v24_1, v24_2, v24_3, v24_4, v24_5, v24_6, v24_7) (((s_l01Split text 10).2).getD (0 + (i.toNat * 1)) ByteArray.empty)).1).2.2.2.2.2.1) (((s_RunLine (v24_0, v24_1, v24_2, v24_3, v24_4, v24_5, v24_6, v24_7) (((s_l01Split text 10).2).getD (0 + (i.toNat * 1)) ByteArray.empty)).1).2.2.2.2.2.2.1) (((s_RunLine (v24_0, v24_1, v24_2, v24_3, v24_4, v24_5, v24_6, v24_7) (((s_l01Split text 10).2).getD (0 + (i.toNat * 1)) ByteArray.empty)).1).2.2.2.2.2.2.2) ((out ++ ((s_RunLine (v24_0, v24_1, v24_2, v24_3, v24_4, v24_5, v24_6, v24_7) (((s_l01Split text 10).2).getD (0 + (i.toNat * 1)) ByteArray.empty)).2)) ++ (bs [10])) (wI (i + 1)) else none) else none) else none) else none) else none)) else none) else none) else some ((v24_0, v24_1, v24_2, v24_3, v24_4, v24_5, v24_6, v24_7), out, true))
def L_s_l11All_0 (fu : Nat) (text : ByteArray) : Nat → Int → Int → Int → Int → Int → Int → Int → Int → ByteArray → Int → Option ((D8i) × ByteArray × Bool)
 | 0, _, _, _, _, _, _, _, _, _, _ => none
 | f + 1, v24_0, v24_1, v24_2, v24_3, v24_4, v24_5, v24_6, v24_7, out, i => B_s_l11All_0 text (L_s_l11All_0 fu text f) v24_0 v24_1 v24_2 v24_3 v24_4 v24_5 v24_6 v24_7 out i
theorem loop_s_l11All_0 (fu : Nat) (text : ByteArray) : ∀ (f : Nat) (v24_0 v24_1 : Int) (v24_2 v24_3 : Int) (v24_4 v24_5 : Int) (v24_6 v24_7 : Int) (out : ByteArray) (i : Int), X_s_l11All_0 prog fu text f v24_0 v24_1 v24_2 v24_3 v24_4 v24_5 v24_6 v24_7 out i = L_s_l11All_0 fu text f v24_0 v24_1 v24_2 v24_3 v24_4 v24_5 v24_6 v24_7 out i := by
 intro f
 induction f with
 | zero => intros; rfl
 | succ f ih =>
  intro v24_0 v24_1 v24_2 v24_3 v24_4 v24_5 v24_6 v24_7 out i
  have h1 : X_s_l11All_0 prog fu text (f + 1) v24_0 v24_1 v24_2 v24_3 v24_4 v24_5 v24_6 v24_7 out i = B_s_l11All_0 text (X_s_l11All_0 prog fu text f) v24_0 v24_1 v24_2 v24_3 v24_4 v24_5 v24_6 v24_7 out i := by kernel_rfl
  have h2 : X_s_l11All_0 prog fu text f = L_s_l11All_0 fu text f := by funext v24_0 v24_1 v24_2 v24_3 v24_4 v24_5 v24_6 v24_7 out i; exact ih v24_0 v24_1 v24_2 v24_3 v24_4 v24_5 v24_6 v24_7 out i
  rw [h1, h2]
  rfl
def X_s_l11All_1 (P : Program) (fu : Nat) (text : ByteArray) (f : Nat) (v24_0 v24_1 : Int) (v24_2 v24_3 : Int) (v24_4 v24_5 : Int) (v24_6 v24_7 : Int) (out : ByteArray) (i : Int) : Option ((D8i) × ByteArray × Bool) := loopK (exec P S_s_l11All 62 (fun _ => fu + 100) (Code.sub [1, 1, 1, 1, 1, 0, 1, 0, 0] (bodyF P 22))) f (T_s_l11All_1 text v24_0 v24_1 v24_2 v24_3 v24_4 v24_5 v24_6 v24_7 out i) (kBlock 0 (kSeq (fun zs9 => exec P S_s_l11All 62 (fun _ => fu + 100) (Code.sub [1, 1, 1, 1, 1, 1] (bodyF P 22)) zs9 (finT P 22 dec_a8_s_b)) (finT P 22 dec_a8_s_b)))
def B_s_l11All_1 (text : ByteArray) (rec1 : Int → Int → Int → Int → Int → Int → Int → Int → ByteArray → Int → Option ((D8i) × ByteArray × Bool)) (v24_0 v24_1 : Int) (v24_2 v24_3 : Int) (v24_4 v24_5 : Int) (v24_6 v24_7 : Int) (out : ByteArray) (i : Int) : Option ((D8i) × ByteArray × Bool) :=
 (if (decide (i < (((s_l01Split text 10).1 : Nat) : Int))) = true then (if (decide (0 ≤ i) && decide (i < (((s_l01Split text 10).1 : Nat) : Int))) = true then (if (Nat.ble (i.toNat * 1 + 1) (((s_l01Split text 10).2).length)) = true then (if (eqS (((s_l01Split text 10).2).getD (i.toNat * 1) ByteArray.empty) (bs [])) = true then rec1 v24_0 v24_1 v24_2 v24_3 v24_4 v24_5 v24_6 v24_7 out (wI (i + 1)) else (if (decide (0 ≤ i) && decide (i < (((s_l01Split text 10).1 : Nat) : Int))) = true then (if (Nat.ble (i.toNat * 1 + 1) (((s_l01Split text 10).2).length)) = true then (if (ok_s_RunLine (v24_0, v24_1, v24_2, v24_3, v24_4, v24_5, v24_6, v24_7) (((s_l01Split text 10).2).getD (i.toNat * 1) ByteArray.empty)) = true then (if (Nat.ble (out.size + ((s_RunLine (v24_0, v24_1, v24_2, v24_3, v24_4, v24_5, v24_6, v24_7) (((s_l01Split text 10).2).getD (i.toNat * 1) ByteArray.empty)).2).size) 9223372036854775807) = true then (if (Nat.ble ((out ++ ((s_RunLine (v24_0, v24_1, v24_2, v24_3, v24_4, v24_5, v24_6, v24_7) (((s_l01Split text 10).2).getD (i.toNat * 1) ByteArray.empty)).2)).size + (bs [10]).size) 9223372036854775807) = true then rec1 (((s_RunLine (v24_0, v24_1, v24_2, v24_3, v24_4, v24_5, v24_6, v24_7) (((s_l01Split text 10).2).getD (i.toNat * 1) ByteArray.empty)).1).1) (((s_RunLine (v24_0, v24_1, v24_2, v24_3, v24_4, v24_5, v24_6, v24_7) (((s_l01Split text 10).2).getD (i.toNat * 1) ByteArray.empty)).1).2.1) (((s_RunLine (v24_0, v24_1, v24_2, v24_3, v24_4, v24_5, v24_6, v24_7) (((s_l01Split text 10).2).getD (i.toNat * 1) ByteArray.empty)).1).2.2.1) (((s_RunLine (v24_0, v24_1, v24_2, v24_3, v24_4, v24_5, v24_6, v24_7) (((s_l01Split text 10).2).getD (i.toNat * 1) ByteArray.empty)).1).2.2.2.1) (((s_RunLine (v24_0, v24_1, v24_2, v24_3, v24_4, v24_5, v24_6, v24_7) (((s_l01Split text 10).2).getD (i.toNat * 1) ByteArray.empty)).1).2.2.2.2.1) (((s_RunLine (v24_0, v24_1, v24_2, v24_3, v24_4, v24_5, v24_6, v24_7) (((s_l01Split text 10).2).getD (i.toNat * 1) ByteArray.empty)).1).2.2.2.2.2.1) (((s_RunLine (v24_0, v24_1, v24_2, v24_3, v24_4, v24_5, v24_6, v24_7) (((s_l01Split text 10).2).getD (i.toNat * 1) ByteArray.empty)).1).2.2.2.2.2.2.1) (((s_RunLine (v24_0, v24_1, v24_2, v24_3, v24_4, v24_5, v24_6, v24_7) (((s_l01Split text 10).2).getD (i.toNat * 1) ByteArray.empty)).1).2.2.2.2.2.2.2) ((out ++ ((s_RunLine (v24_0, v24_1, v24_2, v24_3, v24_4, v24_5, v24_6, v24_7) (((s_l01Split text 10).2).getD (i.toNat * 1) ByteArray.empty)).2)) ++ (bs [10])) (wI (i + 1)) else none) else none) else none) else none) else none)) else none) else none) else some ((v24_0, v24_1, v24_2, v24_3, v24_4, v24_5, v24_6, v24_7), out, true))
def L_s_l11All_1 (fu : Nat) (text : ByteArray) : Nat → Int → Int → Int → Int → Int → Int → Int → Int → ByteArray → Int → Option ((D8i) × ByteArray × Bool)
 | 0, _, _, _, _, _, _, _, _, _, _ => none
 | f + 1, v24_0, v24_1, v24_2, v24_3, v24_4, v24_5, v24_6, v24_7, out, i => B_s_l11All_1 text (L_s_l11All_1 fu text f) v24_0 v24_1 v24_2 v24_3 v24_4 v24_5 v24_6 v24_7 out i
theorem loop_s_l11All_1 (fu : Nat) (text : ByteArray) : ∀ (f : Nat) (v24_0 v24_1 : Int) (v24_2 v24_3 : Int) (v24_4 v24_5 : Int) (v24_6 v24_7 : Int) (out : ByteArray) (i : Int), X_s_l11All_1 prog fu text f v24_0 v24_1 v24_2 v24_3 v24_4 v24_5 v24_6 v24_7 out i = L_s_l11All_1 fu text f v24_0 v24_1 v24_2 v24_3 v24_4 v24_5 v24_6 v24_7 out i := by
 intro f
 induction f with
 | zero => intros; rfl
 | succ f ih =>
  intro v24_0 v24_1 v24_2 v24_3 v24_4 v24_5 v24_6 v24_7 out i
  have h1 : X_s_l11All_1 prog fu text (f + 1) v24_0 v24_1 v24_2 v24_3 v24_4 v24_5 v24_6 v24_7 out i = B_s_l11All_1 text (X_s_l11All_1 prog fu text f) v24_0 v24_1 v24_2 v24_3 v24_4 v24_5 v24_6 v24_7 out i := by kernel_rfl
  have h2 : X_s_l11All_1 prog fu text f = L_s_l11All_1 fu text f := by funext v24_0 v24_1 v24_2 v24_3 v24_4 v24_5 v24_6 v24_7 out i; exact ih v24_0 v24_1 v24_2 v24_3 v24_4 v24_5 v24_6 v24_7 out i
  rw [h1, h2]
  rfl
def G_s_l11All (text : ByteArray) (lo0 : Int → Int → Int → Int → Int → Int → Int → Int → ByteArray → Int → Option ((D8i) × ByteArray × Bool)) (lo1 : Int → Int → Int → Int → Int → Int → Int → Int → ByteArray → Int → Option ((D8i) × ByteArray × Bool)) : Option ((D8i) × ByteArray × Bool) :=
 (if (cutOK text 10) = true then (if (decide (0 ≤ wI ((((s_l01Split text 10).1 : Nat) : Int) - 1)) && decide (wI ((((s_l01Split text 10).1 : Nat) : Int) - 1) < (((s_l01Split text 10).1 : Nat) : Int))) = true then (if (Nat.ble (((wI ((((s_l01Split text 10).1 : Nat) : Int) - 1)).toNat) * 1 + 1) (((s_l01Split text 10).2).length)) = true then (if (eqS (((s_l01Split text 10).2).getD (((wI ((((s_l01Split text 10).1 : Nat) : Int) - 1)).toNat) * 1) ByteArray.empty) (bs [])) = true then (if (decide (0 ≤ 0) && decide (0 ≤ (wI ((((s_l01Split text 10).1 : Nat) : Int) - 1))) && decide ((wI ((((s_l01Split text 10).1 : Nat) : Int) - 1)) ≤ (((s_l01Split text 10).1 : Nat) : Int))) = true then (if (decide (((text.size : Nat) : Int) > 4000)) = true then some ((0, 0, 0, 0, 0, 0, 0, 0), bs [], false) else (if (decide ((((wI ((((s_l01Split text 10).1 : Nat) : Int) - 1)).toNat : Nat) : Int) > 40)) = true then some ((0, 0, 0, 0, 0, 0, 0, 0), bs [], false) else lo0 ((s_l11Fresh 7).1) ((s_l11Fresh 7).2.1) ((s_l11Fresh 7).2.2.1) ((s_l11Fresh 7).2.2.2.1) ((s_l11Fresh 7).2.2.2.2.1) ((s_l11Fresh 7).2.2.2.2.2.1) ((s_l11Fresh 7).2.2.2.2.2.2.1) ((s_l11Fresh 7).2.2.2.2.2.2.2) (bs []) 0)) else none) else (if (decide (((text.size : Nat) : Int) > 4000)) = true then some ((0, 0, 0, 0, 0, 0, 0, 0), bs [], false) else (if (decide ((((s_l01Split text 10).1 : Nat) : Int) > 40)) = true then some ((0, 0, 0, 0, 0, 0, 0, 0), bs [], false) else lo1 ((s_l11Fresh 7).1) ((s_l11Fresh 7).2.1) ((s_l11Fresh 7).2.2.1) ((s_l11Fresh 7).2.2.2.1) ((s_l11Fresh 7).2.2.2.2.1) ((s_l11Fresh 7).2.2.2.2.2.1) ((s_l11Fresh 7).2.2.2.2.2.2.1) ((s_l11Fresh 7).2.2.2.2.2.2.2) (bs []) 0))) else none) else none) else none)
def Fo_s_l11All (fu : Nat) (text : ByteArray) : Option ((D8i) × ByteArray × Bool) := G_s_l11All text (L_s_l11All_0 fu text (fu + 100)) (L_s_l11All_1 fu text (fu + 100))
theorem eq_s_l11All (fu : Nat) (text : ByteArray) : eF fu S_s_l11All 22 62 dec_a8_s_b [.v (.string text)] = Fo_s_l11All fu text := by
 have h1 : eF fu S_s_l11All 22 62 dec_a8_s_b [.v (.string text)] = G_s_l11All text (X_s_l11All_0 prog fu text (fu + 100)) (X_s_l11All_1 prog fu text (fu + 100)) := by kernel_rfl
 have c0 : X_s_l11All_0 prog fu text (fu + 100) = L_s_l11All_0 fu text (fu + 100) := by funext v24_0 v24_1 v24_2 v24_3 v24_4 v24_5 v24_6 v24_7 out i; exact loop_s_l11All_0 fu text (fu + 100) v24_0 v24_1 v24_2 v24_3 v24_4 v24_5 v24_6 v24_7 out i
 have c1 : X_s_l11All_1 prog fu text (fu + 100) = L_s_l11All_1 fu text (fu + 100) := by funext v24_0 v24_1 v24_2 v24_3 v24_4 v24_5 v24_6 v24_7 out i; exact loop_s_l11All_1 fu text (fu + 100) v24_0 v24_1 v24_2 v24_3 v24_4 v24_5 v24_6 v24_7 out i
 rw [h1, c0, c1]
 rfl
def ok_s_l11All : (ByteArray) → (Bool) := shut fun (text : ByteArray) => (Fo_s_l11All 1000000 text).isSome
def s_l11All : (ByteArray) → ((D8i) × ByteArray × Bool) := shut fun (text : ByteArray) => (Fo_s_l11All 1000000 text).getD ((0, 0, 0, 0, 0, 0, 0, 0), .empty, false)
theorem ok_s_l11All_of {text : ByteArray} {r : (D8i) × ByteArray × Bool} (e : Fo_s_l11All 1000000 text = some r) : ok_s_l11All text = true := by
 unfold ok_s_l11All
 rw [shut_eq, e]
 rfl
theorem s_l11All_of {text : ByteArray} {r : (D8i) × ByteArray × Bool} (e : Fo_s_l11All 1000000 text = some r) : s_l11All text = r := by
 unfold s_l11All
 rw [shut_eq, e]
 rfl
theorem tot_s_l11All (text : ByteArray) (hp : (ok_s_l11All text) = true) : Fo_s_l11All 1000000 text = some (s_l11All text) := by
 unfold ok_s_l11All at hp
 rw [shut_eq] at hp
 unfold s_l11All
 rw [shut_eq]
 exact of_isSome hp
def run_s_l11All : RunP
 | [.v (.string text)] => some (ok_s_l11All text, enc_a8_s_b (s_l11All text))
 | _ => none
theorem sound_s_l11All : Sound prog 22 run_s_l11All := by
 refine sound_1 de_a8_s_b SO_s_l11All (by kernel_rfl) func22 ntmps22 rfl (by kernel_rfl) fun q r E => ?_
 unfold run_s_l11All at E
 split at E
 ·obtain ⟨hp, rfl⟩ := so2 E
  rename_i text
  exact ⟨_, _, rfl, (eq_s_l11All _ text).trans (tot_s_l11All text hp)⟩
 ·cases E

def S_s_Console : Sums := ⟨tblS [(22, run_s_l11All)], tblM [], false⟩
theorem SO_s_Console : SumsOK prog S_s_Console := ⟨tblS_ok ⟨⟨call22, sound_s_l11All⟩, ⟨⟩⟩, tM⟩
def Fo_s_Console (text : ByteArray) : Option (ByteArray) :=
 (if (ok_s_l11All text) = true then some ((s_l11All text).2.1) else none)
theorem eq_s_Console (text : ByteArray) : eT S_s_Console 7 13 dec_s [.v (.string text)] = Fo_s_Console text := by
 kernel_rfl
def ok_s_Console : (ByteArray) → (Bool) := shut fun (text : ByteArray) => (Fo_s_Console text).isSome
def s_Console : (ByteArray) → (ByteArray) := shut fun (text : ByteArray) => (Fo_s_Console text).getD .empty
theorem ok_s_Console_of {text r : ByteArray} (e : Fo_s_Console text = some r) : ok_s_Console text = true := by
 unfold ok_s_Console
 rw [shut_eq, e]
 rfl
theorem s_Console_of {text r : ByteArray} (e : Fo_s_Console text = some r) : s_Console text = r := by
 unfold s_Console
 rw [shut_eq, e]
 rfl
theorem tot_s_Console (text : ByteArray) (hp : (ok_s_Console text) = true) : Fo_s_Console text = some (s_Console text) := by
 unfold ok_s_Console at hp
 rw [shut_eq] at hp
 unfold s_Console
 rw [shut_eq]
 exact of_isSome hp
def run_s_Console : RunP
 | [.v (.string text)] => some (ok_s_Console text, enc_s (s_Console text))
 | _ => none
theorem sound_s_Console : Sound prog 7 run_s_Console := by
 refine sound_1 de_s SO_s_Console (by kernel_rfl) func7 ntmps7 rfl (by kernel_rfl) fun q r E => ?_
 unfold run_s_Console at E
 split at E
 ·obtain ⟨hp, rfl⟩ := so2 E
  rename_i text
  exact ⟨_, _, rfl, (eq_s_Console text).trans (tot_s_Console text hp)⟩
 ·cases E

def S_s_DeskAfter : Sums := ⟨tblS [(22, run_s_l11All)], tblM [], false⟩
theorem SO_s_DeskAfter : SumsOK prog S_s_DeskAfter := ⟨tblS_ok ⟨⟨call22, sound_s_l11All⟩, ⟨⟩⟩, tM⟩
def Fo_s_DeskAfter (text : ByteArray) : Option ((D8i) × Bool) :=
 (if (ok_s_l11All text) = true then some (((s_l11All text).1), (s_l11All text).2.2) else none)
theorem eq_s_DeskAfter (text : ByteArray) : eT S_s_DeskAfter 9 15 dec_a8_b [.v (.string text)] = Fo_s_DeskAfter text := by
 kernel_rfl
def ok_s_DeskAfter : (ByteArray) → (Bool) := shut fun (text : ByteArray) => (Fo_s_DeskAfter text).isSome
def s_DeskAfter : (ByteArray) → ((D8i) × Bool) := shut fun (text : ByteArray) => (Fo_s_DeskAfter text).getD ((0, 0, 0, 0, 0, 0, 0, 0), false)
theorem ok_s_DeskAfter_of {text : ByteArray} {r : (D8i) × Bool} (e : Fo_s_DeskAfter text = some r) : ok_s_DeskAfter text = true := by
 unfold ok_s_DeskAfter
 rw [shut_eq, e]
 rfl
theorem s_DeskAfter_of {text : ByteArray} {r : (D8i) × Bool} (e : Fo_s_DeskAfter text = some r) : s_DeskAfter text = r := by
 unfold s_DeskAfter
 rw [shut_eq, e]
 rfl
theorem tot_s_DeskAfter (text : ByteArray) (hp : (ok_s_DeskAfter text) = true) : Fo_s_DeskAfter text = some (s_DeskAfter text) := by
 unfold ok_s_DeskAfter at hp
 rw [shut_eq] at hp
 unfold s_DeskAfter
 rw [shut_eq]
 exact of_isSome hp
def run_s_DeskAfter : RunP
 | [.v (.string text)] => some (ok_s_DeskAfter text, enc_a8_b (s_DeskAfter text))
 | _ => none
theorem sound_s_DeskAfter : Sound prog 9 run_s_DeskAfter := by
 refine sound_1 de_a8_b SO_s_DeskAfter (by kernel_rfl) func9 ntmps9 rfl (by kernel_rfl) fun q r E => ?_
 unfold run_s_DeskAfter at E
 split at E
 ·obtain ⟨hp, rfl⟩ := so2 E
  rename_i text
  exact ⟨_, _, rfl, (eq_s_DeskAfter text).trans (tot_s_DeskAfter text hp)⟩
 ·cases E

end

end Go.Proofs.YtcdpfpfbilfpoaaGreatDoor
