import Derived.Test.YtcdpfpfbilfpoaaGreatDoorFf
import Derived.Test.YtcdpfpfbilfpoaaGreatDoorProg
set_option linter.unusedSimpArgs false
set_option linter.unusedVariables false
namespace Go.Proofs.YtcdpfpfbilfpoaaGreatDoor
open Go.RowKit Tryz
noncomputable section

def S_i_console : Sums := ⟨tblS [(44, run_i_linesOf), (19, run_i_NewDesk), (14, run_i_RunLine)], tblM [], false⟩
theorem SO_i_console : SumsOK prog S_i_console := ⟨tblS_ok ⟨⟨call44, sound_i_linesOf⟩, ⟨call19, sound_i_NewDesk⟩, ⟨call14, sound_i_RunLine⟩, ⟨⟩⟩, tM⟩
def T_i_console_0 (text : ByteArray) (v28_0 v28_1 : Int) (v28_2 v28_3 : Int) (v28_4 v28_5 : Int) (v28_6 v28_7 t24 : Int) (out : ByteArray) : Tab := ⟨[.val (.string text), .junk, .ptr 8 0, .val (.string (bs [])), .val (.bool false), .row 60, .val (.bool ((i_linesOf text).2)), .ptr 28 0, .val (.string out), .junk, .junk, .junk, .junk, .junk, .val (.string text), .junk, .row 60, .val (.bool ((i_linesOf text).2)), .val (.bool ((i_linesOf text).2)), .val (.bool (!((i_linesOf text).2))), .junk, .val (.agg ⟨[.int .i64 i_NewDesk.1, .int .i64 i_NewDesk.2.1, .int .i64 i_NewDesk.2.2.1, .int .i64 i_NewDesk.2.2.2.1, .int .i64 i_NewDesk.2.2.2.2.1, .int .i64 i_NewDesk.2.2.2.2.2.1, .int .i64 i_NewDesk.2.2.2.2.2.2.1, .int .i64 i_NewDesk.2.2.2.2.2.2.2]⟩), .row 60, .val (.int .i64 ((((i_linesOf text).1).1 : Nat) : Int)), .val (.int .i64 t24), .junk, .junk, .junk, .junk, .junk, .junk, .junk, .junk, .junk, .junk, .junk, .junk, .junk, .junk, .junk, .junk, .junk, .junk, .junk], [(8, .box 28 [.val (.int .i64 0), .val (.int .i64 0), .val (.int .i64 0), .val (.int .i64 0), .val (.int .i64 0), .val (.int .i64 0), .val (.int .i64 0), .val (.int .i64 0)]), (28, .box 28 [.val (.int .i64 v28_0), .val (.int .i64 v28_1), .val (.int .i64 v28_2), .val (.int .i64 v28_3), .val (.int .i64 v28_4), .val (.int .i64 v28_5), .val (.int .i64 v28_6), .val (.int .i64 v28_7)]), (60, .row 9 1 (((i_linesOf text).1).1) (.strs (((i_linesOf text).1).2)))]⟩
def X_i_console_0 (P : Program) (fu : Nat) (text : ByteArray) (f : Nat) (v28_0 v28_1 : Int) (v28_2 v28_3 : Int) (v28_4 v28_5 : Int) (v28_6 v28_7 t24 : Int) (out : ByteArray) : Option ((D8i) × ByteArray × Bool) := loopK (exec P S_i_console 44 (fun _ => fu + 100) (Code.sub [1, 1, 1, 1, 0, 1, 0, 0] (bodyF P 23))) f (T_i_console_0 text v28_0 v28_1 v28_2 v28_3 v28_4 v28_5 v28_6 v28_7 t24 out) (kBlock 0 (kSeq (fun zs9 => exec P S_i_console 44 (fun _ => fu + 100) (Code.sub [1, 1, 1, 1, 1] (bodyF P 23)) zs9 (finT P 23 dec_a8_s_b)) (finT P 23 dec_a8_s_b)))
def B_i_console_0 (text : ByteArray) (rec0 : Int → Int → Int → Int → Int → Int → Int → Int → Int → ByteArray → Option ((D8i) × ByteArray × Bool)) (v28_0 v28_1 : Int) (v28_2 v28_3 : Int) (v28_4 v28_5 : Int) (v28_6 v28_7 t24 : Int) (out : ByteArray) : Option ((D8i) × ByteArray × Bool) :=
 (if (decide (t24 < ((((i_linesOf text).1).1 : Nat) : Int))) = true then (if (decide (0 ≤ t24) && decide (t24 < ((((i_linesOf text).1).1 : Nat) : Int))) = true then (if (Nat.ble (t24.toNat * 1 + 1) ((((i_linesOf text).1).2).length)) = true then (if (eqS ((((i_linesOf text).1).2).getD (t24.toNat * 1) ByteArray.empty) (bs [])) = true then rec0 v28_0 v28_1 v28_2 v28_3 v28_4 v28_5 v28_6 v28_7 (wI (t24 + 1)) out else (if (ok_i_RunLine (v28_0, v28_1, v28_2, v28_3, v28_4, v28_5, v28_6, v28_7) ((((i_linesOf text).1).2).getD (t24.toNat * 1) ByteArray.empty)) = true then (if (Nat.ble (((i_RunLine (v28_0, v28_1, v28_2, v28_3, v28_4, v28_5, v28_6, v28_7) ((((i_linesOf text).1).2).getD (t24.toNat * 1) ByteArray.empty)).2).size + (bs [10]).size) 9223372036854775807) = true then (if (Nat.ble (out.size + (((i_RunLine (v28_0, v28_1, v28_2, v28_3, v28_4, v28_5, v28_6, v28_7) ((((i_linesOf text).1).2).getD (t24.toNat * 1) ByteArray.empty)).2) ++ (bs [10])).size) 9223372036854775807) = true then rec0 (((i_RunLine (v28_0, v28_1, v28_2, v28_3, v28_4, v28_5, v28_6, v28_7) ((((i_linesOf text).1).2).getD (t24.toNat * 1) ByteArray.empty)).1).1) (((i_RunLine (v28_0, v28_1, v28_2, v28_3, v28_4, v28_5, v28_6, v28_7) ((((i_linesOf text).1).2).getD (t24.toNat * 1) ByteArray.empty)).1).2.1) (((i_RunLine (v28_0, v28_1, v28_2, v28_3, v28_4, v28_5, v28_6, v28_7) ((((i_linesOf text).1).2).getD (t24.toNat * 1) ByteArray.empty)).1).2.2.1) (((i_RunLine (v28_0, v28_1, v28_2, v28_3, v28_4, v28_5, v28_6, v28_7) ((((i_linesOf text).1).2).getD (t24.toNat * 1) ByteArray.empty)).1).2.2.2.1) (((i_RunLine (v28_0, v28_1, v28_2, v28_3, v28_4, v28_5, v28_6, v28_7) ((((i_linesOf text).1).2).getD (t24.toNat * 1) ByteArray.empty)).1).2.2.2.2.1) (((i_RunLine (v28_0, v28_1, v28_2, v28_3, v28_4, v28_5, v28_6, v28_7) ((((i_linesOf text).1).2).getD (t24.toNat * 1) ByteArray.empty)).1).2.2.2.2.2.1) (((i_RunLine (v28_0, v28_1, v28_2, v28_3, v28_4, v28_5, v28_6, v28_7) ((((i_linesOf text).1).2).getD (t24.toNat * 1) ByteArray.empty)).1).2.2.2.2.2.2.1) (((i_RunLine (v28_0, v28_1, v28_2, v28_3, v28_4, v28_5, v28_6, v28_7) ((((i_linesOf text).1).2).getD (t24.toNat * 1) ByteArray.empty)).1).2.2.2.2.2.2.2) (wI (t24 + 1)) (out ++ (((i_RunLine (v28_0, v28_1, v28_2, v28_3, v28_4, v28_5, v28_6, v28_7) ((((i_linesOf text).1).2).getD (t24.toNat * 1) ByteArray.empty)).2) ++ (bs [10]))) else none) else none) else none)) else none) else none) else some ((v28_0, v28_1, v28_2, v28_3, v28_4, v28_5, v28_6, v28_7), out, true))
def L_i_console_0 (fu : Nat) (text : ByteArray) : Nat → Int → Int → Int → Int → Int → Int → Int → Int → Int → ByteArray → Option ((D8i) × ByteArray × Bool)
 | 0, _, _, _, _, _, _, _, _, _, _ => none
 | f + 1, v28_0, v28_1, v28_2, v28_3, v28_4, v28_5, v28_6, v28_7, t24, out => B_i_console_0 text (L_i_console_0 fu text f) v28_0 v28_1 v28_2 v28_3 v28_4 v28_5 v28_6 v28_7 t24 out
theorem loop_i_console_0 (fu : Nat) (text : ByteArray) : ∀ (f : Nat) (v28_0 v28_1 : Int) (v28_2 v28_3 : Int) (v28_4 v28_5 : Int) (v28_6 v28_7 t24 : Int) (out : ByteArray), X_i_console_0 prog fu text f v28_0 v28_1 v28_2 v28_3 v28_4 v28_5 v28_6 v28_7 t24 out = L_i_console_0 fu text f v28_0 v28_1 v28_2 v28_3 v28_4 v28_5 v28_6 v28_7 t24 out := by
 intro f
 induction f with
 | zero => intros; rfl
 | succ f ih =>
  intro v28_0 v28_1 v28_2 v28_3 v28_4 v28_5 v28_6 v28_7 t24 out
  have h1 : X_i_console_0 prog fu text (f + 1) v28_0 v28_1 v28_2 v28_3 v28_4 v28_5 v28_6 v28_7 t24 out = B_i_console_0 text (X_i_console_0 prog fu text f) v28_0 v28_1 v28_2 v28_3 v28_4 v28_5 v28_6 v28_7 t24 out := by kernel_rfl
  have h2 : X_i_console_0 prog fu text f = L_i_console_0 fu text f := by funext v28_0 v28_1 v28_2 v28_3 v28_4 v28_5 v28_6 v28_7 t24 out; exact ih v28_0 v28_1 v28_2 v28_3 v28_4 v28_5 v28_6 v28_7 t24 out
  rw [h1, h2]
  rfl
def G_i_console (text : ByteArray) (lo0 : Int → Int → Int → Int → Int → Int → Int → Int → Int → ByteArray → Option ((D8i) × ByteArray × Bool)) : Option ((D8i) × ByteArray × Bool) :=
 (if (linesOK text) = true then (if (!((i_linesOf text).2)) = true then some ((0, 0, 0, 0, 0, 0, 0, 0), bs [], false) else lo0 i_NewDesk.1 i_NewDesk.2.1 i_NewDesk.2.2.1 i_NewDesk.2.2.2.1 i_NewDesk.2.2.2.2.1 i_NewDesk.2.2.2.2.2.1 i_NewDesk.2.2.2.2.2.2.1 i_NewDesk.2.2.2.2.2.2.2 0 (bs [])) else none)
def Fo_i_console (fu : Nat) (text : ByteArray) : Option ((D8i) × ByteArray × Bool) := G_i_console text (L_i_console_0 fu text (fu + 100))
theorem eq_i_console (fu : Nat) (text : ByteArray) : eF fu S_i_console 23 44 dec_a8_s_b [.v (.string text)] = Fo_i_console fu text := by
 have h1 : eF fu S_i_console 23 44 dec_a8_s_b [.v (.string text)] = G_i_console text (X_i_console_0 prog fu text (fu + 100)) := by kernel_rfl
 have c0 : X_i_console_0 prog fu text (fu + 100) = L_i_console_0 fu text (fu + 100) := by funext v28_0 v28_1 v28_2 v28_3 v28_4 v28_5 v28_6 v28_7 t24 out; exact loop_i_console_0 fu text (fu + 100) v28_0 v28_1 v28_2 v28_3 v28_4 v28_5 v28_6 v28_7 t24 out
 rw [h1, c0]
 rfl
def ok_i_console : (ByteArray) → (Bool) := shut fun (text : ByteArray) => (Fo_i_console 1000000 text).isSome
def i_console : (ByteArray) → ((D8i) × ByteArray × Bool) := shut fun (text : ByteArray) => (Fo_i_console 1000000 text).getD ((0, 0, 0, 0, 0, 0, 0, 0), .empty, false)
theorem ok_i_console_of {text : ByteArray} {r : (D8i) × ByteArray × Bool} (e : Fo_i_console 1000000 text = some r) : ok_i_console text = true := by
 unfold ok_i_console
 rw [shut_eq, e]
 rfl
theorem i_console_of {text : ByteArray} {r : (D8i) × ByteArray × Bool} (e : Fo_i_console 1000000 text = some r) : i_console text = r := by
 unfold i_console
 rw [shut_eq, e]
 rfl
theorem tot_i_console (text : ByteArray) (hp : (ok_i_console text) = true) : Fo_i_console 1000000 text = some (i_console text) := by
 unfold ok_i_console at hp
 rw [shut_eq] at hp
 unfold i_console
 rw [shut_eq]
 exact of_isSome hp
def run_i_console : RunP
 | [.v (.string text)] => some (ok_i_console text, enc_a8_s_b (i_console text))
 | _ => none
theorem sound_i_console : Sound prog 23 run_i_console := by
 refine sound_1 de_a8_s_b SO_i_console (by kernel_rfl) func23 ntmps23 rfl (by kernel_rfl) fun q r E => ?_
 unfold run_i_console at E
 split at E
 ·obtain ⟨hp, rfl⟩ := so2 E
  rename_i text
  exact ⟨_, _, rfl, (eq_i_console _ text).trans (tot_i_console text hp)⟩
 ·cases E

def S_i_Console : Sums := ⟨tblS [(23, run_i_console)], tblM [], false⟩
theorem SO_i_Console : SumsOK prog S_i_Console := ⟨tblS_ok ⟨⟨call23, sound_i_console⟩, ⟨⟩⟩, tM⟩
def Fo_i_Console (text : ByteArray) : Option (ByteArray) :=
 (if (ok_i_console text) = true then some ((i_console text).2.1) else none)
theorem eq_i_Console (text : ByteArray) : eT S_i_Console 8 13 dec_s [.v (.string text)] = Fo_i_Console text := by
 kernel_rfl
def ok_i_Console : (ByteArray) → (Bool) := shut fun (text : ByteArray) => (Fo_i_Console text).isSome
def i_Console : (ByteArray) → (ByteArray) := shut fun (text : ByteArray) => (Fo_i_Console text).getD .empty
theorem ok_i_Console_of {text r : ByteArray} (e : Fo_i_Console text = some r) : ok_i_Console text = true := by
 unfold ok_i_Console
 rw [shut_eq, e]
 rfl
theorem i_Console_of {text r : ByteArray} (e : Fo_i_Console text = some r) : i_Console text = r := by
 unfold i_Console
 rw [shut_eq, e]
 rfl
theorem tot_i_Console (text : ByteArray) (hp : (ok_i_Console text) = true) : Fo_i_Console text = some (i_Console text) := by
 unfold ok_i_Console at hp
 rw [shut_eq] at hp
 unfold i_Console
 rw [shut_eq]
 exact of_isSome hp
def run_i_Console : RunP
 | [.v (.string text)] => some (ok_i_Console text, enc_s (i_Console text))
 | _ => none
theorem sound_i_Console : Sound prog 8 run_i_Console := by
 refine sound_1 de_s SO_i_Console (by kernel_rfl) func8 ntmps8 rfl (by kernel_rfl) fun q r E => ?_
 unfold run_i_Console at E
 split at E
 ·obtain ⟨hp, rfl⟩ := so2 E
  rename_i text
  exact ⟨_, _, rfl, (eq_i_Console text).trans (tot_i_Console text hp)⟩
 ·cases E

def S_i_DeskAfter : Sums := ⟨tblS [(23, run_i_console)], tblM [], false⟩
theorem SO_i_DeskAfter : SumsOK prog S_i_DeskAfter := ⟨tblS_ok ⟨⟨call23, sound_i_console⟩, ⟨⟩⟩, tM⟩
def Fo_i_DeskAfter (text : ByteArray) : Option ((D8i) × Bool) :=
 (if (ok_i_console text) = true then some (((i_console text).1), (i_console text).2.2) else none)
theorem eq_i_DeskAfter (text : ByteArray) : eT S_i_DeskAfter 10 15 dec_a8_b [.v (.string text)] = Fo_i_DeskAfter text := by
 kernel_rfl
def ok_i_DeskAfter : (ByteArray) → (Bool) := shut fun (text : ByteArray) => (Fo_i_DeskAfter text).isSome
def i_DeskAfter : (ByteArray) → ((D8i) × Bool) := shut fun (text : ByteArray) => (Fo_i_DeskAfter text).getD ((0, 0, 0, 0, 0, 0, 0, 0), false)
theorem ok_i_DeskAfter_of {text : ByteArray} {r : (D8i) × Bool} (e : Fo_i_DeskAfter text = some r) : ok_i_DeskAfter text = true := by
 unfold ok_i_DeskAfter
 rw [shut_eq, e]
 rfl
theorem i_DeskAfter_of {text : ByteArray} {r : (D8i) × Bool} (e : Fo_i_DeskAfter text = some r) : i_DeskAfter text = r := by
 unfold i_DeskAfter
 rw [shut_eq, e]
 rfl
theorem tot_i_DeskAfter (text : ByteArray) (hp : (ok_i_DeskAfter text) = true) : Fo_i_DeskAfter text = some (i_DeskAfter text) := by
 unfold ok_i_DeskAfter at hp
 rw [shut_eq] at hp
 unfold i_DeskAfter
 rw [shut_eq]
 exact of_isSome hp
def run_i_DeskAfter : RunP
 | [.v (.string text)] => some (ok_i_DeskAfter text, enc_a8_b (i_DeskAfter text))
 | _ => none
theorem sound_i_DeskAfter : Sound prog 10 run_i_DeskAfter := by
 refine sound_1 de_a8_b SO_i_DeskAfter (by kernel_rfl) func10 ntmps10 rfl (by kernel_rfl) fun q r E => ?_
 unfold run_i_DeskAfter at E
 split at E
 ·obtain ⟨hp, rfl⟩ := so2 E
  rename_i text
  exact ⟨_, _, rfl, (eq_i_DeskAfter text).trans (tot_i_DeskAfter text hp)⟩
 ·cases E

end

end Go.Proofs.YtcdpfpfbilfpoaaGreatDoor
