import Derived.Test.YtcdpfpfbilfpoaaGreatDoorTc
import Derived.Test.YtcdpfpfbilfpoaaGreatDoorTd
import Derived.Test.YtcdpfpfbilfpoaaGreatDoorTe
import Derived.Test.YtcdpfpfbilfpoaaGreatDoorFb
import Derived.Test.YtcdpfpfbilfpoaaGreatDoorFc
import Derived.Test.YtcdpfpfbilfpoaaGreatDoorFd
import Derived.Test.YtcdpfpfbilfpoaaGreatDoorProg
set_option linter.unusedSimpArgs false
set_option linter.unusedVariables false
namespace Go.Proofs.YtcdpfpfbilfpoaaGreatDoor
open Go.RowKit Tryz
noncomputable section
def S_i_IsDesk : Sums := ⟨tblS [(35, run_i_IsField), (36, run_i_isColour), (37, run_i_arePoints)], tblM [], false⟩
theorem SO_i_IsDesk : SumsOK prog S_i_IsDesk := ⟨tblS_ok ⟨⟨call35, sound_i_IsField⟩, ⟨call36, sound_i_isColour⟩, ⟨call37, sound_i_arePoints⟩, ⟨⟩⟩, tM⟩
def Fo_i_IsDesk (d : D8i) : Option (Bool) :=
 (if (i_IsField d.1) = true then (if (i_isColour d.2.1) = true then some (i_arePoints d.1 [(d.2.2.1, d.2.2.2.1), (d.2.2.2.2.1, d.2.2.2.2.2.1), d.2.2.2.2.2.2]) else some false) else some false)
theorem eq_i_IsDesk (d : D8i) : eT S_i_IsDesk 17 18 dec_b [.v (.agg ⟨[.int .i64 d.1, .int .i64 d.2.1, .int .i64 d.2.2.1, .int .i64 d.2.2.2.1, .int .i64 d.2.2.2.2.1, .int .i64 d.2.2.2.2.2.1, .int .i64 d.2.2.2.2.2.2.1, .int .i64 d.2.2.2.2.2.2.2]⟩)] = Fo_i_IsDesk d := by
 kernel_rfl
def i_IsDesk (d : D8i) : Bool :=
 (if (i_IsField d.1) = true then (if (i_isColour d.2.1) = true then (i_arePoints d.1 [(d.2.2.1, d.2.2.2.1), (d.2.2.2.2.1, d.2.2.2.2.2.1), d.2.2.2.2.2.2]) else false) else false)
theorem tot_i_IsDesk (d : D8i) : Fo_i_IsDesk d = some (i_IsDesk d) := by
 unfold Fo_i_IsDesk i_IsDesk
 (try simp only [wI_eq])
 repeat' (first | with_reducible rfl | refine ite_opt (fun _ => ?_) (fun _ => ?_) | rfl)
def run_i_IsDesk : RunP
 | [.v (.agg ⟨[.int .i64 d0, .int .i64 d1, .int .i64 d2, .int .i64 d3, .int .i64 d4, .int .i64 d5, .int .i64 d6, .int .i64 d7]⟩)] => some (true, enc_b (i_IsDesk (d0, d1, d2, d3, d4, d5, d6, d7)))
 | _ => none
theorem sound_i_IsDesk : Sound prog 17 run_i_IsDesk := by
 refine sound_1 de_b SO_i_IsDesk (by kernel_rfl) func17 ntmps17 rfl (by kernel_rfl) fun q r E => ?_
 unfold run_i_IsDesk at E
 split at E
 ·obtain ⟨hp, rfl⟩ := so2 E
  rename_i d0 d1 d2 d3 d4 d5 d6 d7
  exact ⟨_, _, rfl, (eq_i_IsDesk (d0, d1, d2, d3, d4, d5, d6, d7)).trans (tot_i_IsDesk (d0, d1, d2, d3, d4, d5, d6, d7))⟩
 ·cases E

def S_i_change_c1 : Sums := ⟨tblS [(55, run_i_pointText)], tblM [], false⟩
theorem SO_i_change_c1 : SumsOK prog S_i_change_c1 := ⟨tblS_ok ⟨⟨call55, sound_i_pointText⟩, ⟨⟩⟩, tM⟩
def Fo_i_change_c1 (x : P2) (code : Int) (c0s : D8i) : Option (ByteArray × Int × Bool × D8i) :=
 (if (num2 x) = true then some ((i_pointText x), code, true, c0s.1, c0s.2.1, x.1, x.2, c0s.2.2.2.2) else none)
theorem eq_i_change_c1 (x : P2) (code : Int) (c0s : D8i) : execC prog S_i_change_c1 54 16 (fun _ => 1000000) dec_P28_s_i_b 28 [.v (.int .i64 c0s.1), .v (.int .i64 c0s.2.1), .v (.int .i64 c0s.2.2.1), .v (.int .i64 c0s.2.2.2.1), .v (.int .i64 c0s.2.2.2.2.1), .v (.int .i64 c0s.2.2.2.2.2.1), .v (.int .i64 c0s.2.2.2.2.2.2.1), .v (.int .i64 c0s.2.2.2.2.2.2.2)] [.v (.agg ⟨[.int .i64 x.1, .int .i64 x.2]⟩), .v (.int .i64 code)] = Fo_i_change_c1 x code c0s := by
 kernel_rfl
def ok_i_change_c1 : (Int × Int) → (Int) → (D8i) → (Bool) := shut fun (x : P2) (code : Int) (c0s : D8i) => (Fo_i_change_c1 x code c0s).isSome
def i_change_c1 : (Int × Int) → (Int) → (D8i) → (ByteArray × Int × Bool × D8i) := shut fun (x : P2) (code : Int) (c0s : D8i) => (Fo_i_change_c1 x code c0s).getD (.empty, 0, false, 0, 0, 0, 0, 0, 0, 0, 0)
theorem ok_i_change_c1_of {x : P2} {code : Int} {c0s : D8i} {r : ByteArray × Int × Bool × D8i} (e : Fo_i_change_c1 x code c0s = some r) : ok_i_change_c1 x code c0s = true := by
 unfold ok_i_change_c1
 rw [shut_eq, e]
 rfl
theorem i_change_c1_of {x : P2} {code : Int} {c0s : D8i} {r : ByteArray × Int × Bool × D8i} (e : Fo_i_change_c1 x code c0s = some r) : i_change_c1 x code c0s = r := by
 unfold i_change_c1
 rw [shut_eq, e]
 rfl
theorem tot_i_change_c1 (x : P2) (code : Int) (c0s : D8i) (hp : (ok_i_change_c1 x code c0s) = true) : Fo_i_change_c1 x code c0s = some (i_change_c1 x code c0s) := by
 unfold ok_i_change_c1 at hp
 rw [shut_eq] at hp
 unfold i_change_c1
 rw [shut_eq]
 exact of_isSome hp
def run_i_change_c1 : PRun
 | 28, [.v (.int .i64 c0_0), .v (.int .i64 c0_1), .v (.int .i64 c0_2), .v (.int .i64 c0_3), .v (.int .i64 c0_4), .v (.int .i64 c0_5), .v (.int .i64 c0_6), .v (.int .i64 c0_7)], [.v (.agg ⟨[.int .i64 x0, .int .i64 x1]⟩), .v (.int .i64 code)] => some (ok_i_change_c1 (x0, x1) code (c0_0, c0_1, c0_2, c0_3, c0_4, c0_5, c0_6, c0_7), enc_P28_s_i_b (i_change_c1 (x0, x1) code (c0_0, c0_1, c0_2, c0_3, c0_4, c0_5, c0_6, c0_7)))
 | _, _, _ => none
theorem sound_i_change_c1 : SoundC prog 54 run_i_change_c1 := by
 refine soundC_of de_P28_s_i_b SO_i_change_c1 (by kernel_rfl) func54 ntmps54 rfl (by kernel_rfl) ?_
 intro e bcs pvs rs bcs' hrun
 unfold run_i_change_c1 at hrun
 split at hrun
 ·simp only [Option.some.injEq, Prod.mk.injEq] at hrun
  obtain ⟨hp, hrun⟩ := hrun
  rename_i c0_0 c0_1 c0_2 c0_3 c0_4 c0_5 c0_6 c0_7 x0 x1 code
  exact ⟨_, i_change_c1 (x0, x1) code (c0_0, c0_1, c0_2, c0_3, c0_4, c0_5, c0_6, c0_7), by first | exact hrun.symm | exact (Prod.ext hrun.1 hrun.2).symm, (eq_i_change_c1 (x0, x1) code (c0_0, c0_1, c0_2, c0_3, c0_4, c0_5, c0_6, c0_7)).trans (tot_i_change_c1 (x0, x1) code (c0_0, c0_1, c0_2, c0_3, c0_4, c0_5, c0_6, c0_7) hp)⟩
 ·cases hrun

def S_i_fresh : Sums := ⟨tblS [], tblM [], false⟩
theorem SO_i_fresh : SumsOK prog S_i_fresh := ⟨tblS_ok ⟨⟩, tM⟩
def Fo_i_fresh (p : Int) : Option (D8i) :=
 some (p, 0, 0, 0, 1, 0, 0, 1)
theorem eq_i_fresh (p : Int) : eT S_i_fresh 39 9 dec_a8 [pI p] = Fo_i_fresh p := by
 kernel_rfl
def i_fresh (p : Int) : D8i :=
 (p, 0, 0, 0, 1, 0, 0, 1)
theorem tot_i_fresh (p : Int) : Fo_i_fresh p = some (i_fresh p) := by
 unfold Fo_i_fresh i_fresh
 (try simp only [wI_eq])
 repeat' (first | with_reducible rfl | refine ite_opt (fun _ => ?_) (fun _ => ?_) | rfl)
def run_i_fresh : RunP
 | [.v (.int .i64 p)] => some (true, enc_a8 (i_fresh p))
 | _ => none
theorem sound_i_fresh : Sound prog 39 run_i_fresh := by
 refine sound_1 de_a8 SO_i_fresh (by kernel_rfl) func39 ntmps39 rfl (by kernel_rfl) fun q r E => ?_
 unfold run_i_fresh at E
 split at E
 ·obtain ⟨hp, rfl⟩ := so2 E
  rename_i p
  exact ⟨_, _, rfl, (eq_i_fresh p).trans (tot_i_fresh p)⟩
 ·cases E

def S_i_NewDesk : Sums := ⟨tblS [(39, run_i_fresh)], tblM [], false⟩
theorem SO_i_NewDesk : SumsOK prog S_i_NewDesk := ⟨tblS_ok ⟨⟨call39, sound_i_fresh⟩, ⟨⟩⟩, tM⟩
def Fo_i_NewDesk : Option (D8i) :=
 some (i_fresh 7)
theorem eq_i_NewDesk : eT S_i_NewDesk 19 2 dec_a8 [] = Fo_i_NewDesk := by
 kernel_rfl
def i_NewDesk : D8i :=
 (i_fresh 7)
theorem tot_i_NewDesk : Fo_i_NewDesk = some (i_NewDesk) := by
 unfold Fo_i_NewDesk i_NewDesk
 (try simp only [wI_eq])
 repeat' (first | with_reducible rfl | refine ite_opt (fun _ => ?_) (fun _ => ?_) | rfl)
def run_i_NewDesk : RunP
 | [] => some (true, enc_a8 (i_NewDesk))
 | _ => none
theorem sound_i_NewDesk : Sound prog 19 run_i_NewDesk := by
 refine sound_1 de_a8 SO_i_NewDesk (by kernel_rfl) func19 ntmps19 rfl (by kernel_rfl) fun q r E => ?_
 unfold run_i_NewDesk at E
 split at E
 ·obtain ⟨hp, rfl⟩ := so2 E
  exact ⟨_, _, rfl, (eq_i_NewDesk).trans (tot_i_NewDesk)⟩
 ·cases E

def S_i_ParsePoint : Sums := ⟨tblS [(35, run_i_IsField), (118, run_i_readNumbers)], tblM [], false⟩
theorem SO_i_ParsePoint : SumsOK prog S_i_ParsePoint := ⟨tblS_ok ⟨⟨call35, sound_i_IsField⟩, ⟨call118, sound_i_readNumbers⟩, ⟨⟩⟩, tM⟩
def Fo_i_ParsePoint (p : Int) (text : ByteArray) : Option ((Int × Int) × Int) :=
 (if (!(i_IsField p)) = true then some ((0, 0), 1) else (if (readOK p text 2) = true then (if (!((i_readNumbers p text 2).2)) = true then some ((0, 0), 6) else (if (decide (0 ≤ 0) && decide (0 < ((((i_readNumbers p text 2).1).1 : Nat) : Int))) = true then (if (Nat.ble (1) ((((i_readNumbers p text 2).1).2).length)) = true then (if (decide (0 ≤ 1) && decide (1 < ((((i_readNumbers p text 2).1).1 : Nat) : Int))) = true then (if (Nat.ble (2) ((((i_readNumbers p text 2).1).2).length)) = true then some (((((i_readNumbers p text 2).1).2).getD 0 0, (((i_readNumbers p text 2).1).2).getD 1 0), 0) else none) else none) else none) else none)) else none))
theorem eq_i_ParsePoint (p : Int) (text : ByteArray) : eT S_i_ParsePoint 62 28 dec_a2_i [pI p, .v (.string text)] = Fo_i_ParsePoint p text := by
 kernel_rfl
def ok_i_ParsePoint : (Int) → (ByteArray) → (Bool) := shut fun (p : Int) (text : ByteArray) => (Fo_i_ParsePoint p text).isSome
def i_ParsePoint : (Int) → (ByteArray) → ((Int × Int) × Int) := shut fun (p : Int) (text : ByteArray) => (Fo_i_ParsePoint p text).getD ((0, 0), 0)
theorem ok_i_ParsePoint_of {p : Int} {text : ByteArray} {r : (Int × Int) × Int} (e : Fo_i_ParsePoint p text = some r) : ok_i_ParsePoint p text = true := by
 unfold ok_i_ParsePoint
 rw [shut_eq, e]
 rfl
theorem i_ParsePoint_of {p : Int} {text : ByteArray} {r : (Int × Int) × Int} (e : Fo_i_ParsePoint p text = some r) : i_ParsePoint p text = r := by
 unfold i_ParsePoint
 rw [shut_eq, e]
 rfl
theorem tot_i_ParsePoint (p : Int) (text : ByteArray) (hp : (ok_i_ParsePoint p text) = true) : Fo_i_ParsePoint p text = some (i_ParsePoint p text) := by
 unfold ok_i_ParsePoint at hp
 rw [shut_eq] at hp
 unfold i_ParsePoint
 rw [shut_eq]
 exact of_isSome hp
def run_i_ParsePoint : RunP
 | [.v (.int .i64 p), .v (.string text)] => some (ok_i_ParsePoint p text, enc_a2_i (i_ParsePoint p text))
 | _ => none
theorem sound_i_ParsePoint : Sound prog 62 run_i_ParsePoint := by
 refine sound_1 de_a2_i SO_i_ParsePoint (by kernel_rfl) func62 ntmps62 rfl (by kernel_rfl) fun q r E => ?_
 unfold run_i_ParsePoint at E
 split at E
 ·obtain ⟨hp, rfl⟩ := so2 E
  rename_i p text
  exact ⟨_, _, rfl, (eq_i_ParsePoint p text).trans (tot_i_ParsePoint p text hp)⟩
 ·cases E

abbrev k32_0 (ds : D8i) (wn : Nat) (wl : List ByteArray) : ByteArray := (i_pointsText 3 [ds.2.2.2.2.1, ds.2.2.2.2.2.1, ds.2.2.2.2.2.2.1, ds.2.2.2.2.2.2.2, ds.2.2.1, ds.2.2.2.1])
abbrev k32_1 (ds : D8i) (wn : Nat) (wl : List ByteArray) : (Int × Int) × Int := (i_MidpointOf ds.1 (ds.2.2.1, ds.2.2.2.1) (ds.2.2.2.2.1, ds.2.2.2.2.2.1))
abbrev k32_2 (ds : D8i) (wn : Nat) (wl : List ByteArray) : ByteArray × Int × Bool × D8i := (i_change_c1 ((k32_1 ds wn wl).1) ((k32_1 ds wn wl).2) ds)
abbrev k32_3 (ds : D8i) (wn : Nat) (wl : List ByteArray) : (Int × Int × Int) × Int := (i_LineThrough ds.1 (ds.2.2.2.2.1, ds.2.2.2.2.2.1) ds.2.2.2.2.2.2)
abbrev k32_4 (ds : D8i) (wn : Nat) (wl : List ByteArray) : (Int × Int) × Int := (i_FootOf ds.1 ds.2.1 (ds.2.2.1, ds.2.2.2.1) ((k32_3 ds wn wl).1))
abbrev k32_5 (ds : D8i) (wn : Nat) (wl : List ByteArray) : ByteArray × Int × Bool × D8i := (i_change_c1 ((k32_4 ds wn wl).1) ((k32_4 ds wn wl).2) ds)
abbrev k32_6 (ds : D8i) (wn : Nat) (wl : List ByteArray) : (Int × Int) × Int := (i_CircumcentreOf ds.1 ds.2.1 (ds.2.2.1, ds.2.2.2.1) (ds.2.2.2.2.1, ds.2.2.2.2.2.1) ds.2.2.2.2.2.2)
abbrev k32_7 (ds : D8i) (wn : Nat) (wl : List ByteArray) : ByteArray × Int × Bool × D8i := (i_change_c1 ((k32_6 ds wn wl).1) ((k32_6 ds wn wl).2) ds)
abbrev k32_8 (ds : D8i) (wn : Nat) (wl : List ByteArray) : (Int × Int) × Int := (i_OrthocentreOf ds.1 ds.2.1 (ds.2.2.1, ds.2.2.2.1) (ds.2.2.2.2.1, ds.2.2.2.2.2.1) ds.2.2.2.2.2.2)
abbrev k32_9 (ds : D8i) (wn : Nat) (wl : List ByteArray) : ByteArray × Int × Bool × D8i := (i_change_c1 ((k32_8 ds wn wl).1) ((k32_8 ds wn wl).2) ds)
abbrev k32_10 (ds : D8i) (wn : Nat) (wl : List ByteArray) : (Int × Int) × Int := (i_ParsePoint ds.1 (wl.getD 1 ByteArray.empty))
abbrev k32_11 (ds : D8i) (wn : Nat) (wl : List ByteArray) : ByteArray := (i_pointText ((k32_10 ds wn wl).1))
abbrev k32_12 (ds : D8i) (wn : Nat) (wl : List ByteArray) : Int × Bool := (i_wordNumber (wl.getD 1 ByteArray.empty))
abbrev k32_13 (ds : D8i) (wn : Nat) (wl : List ByteArray) : Bool := (i_IsField ((k32_12 ds wn wl).1))
abbrev k32_14 (ds : D8i) (wn : Nat) (wl : List ByteArray) : D8i := (i_fresh ((k32_12 ds wn wl).1))
abbrev k32_15 (ds : D8i) (wn : Nat) (wl : List ByteArray) : Bool := (i_isColour ((k32_12 ds wn wl).1))
abbrev k32_16 (ds : D8i) (wn : Nat) (wl : List ByteArray) : (Int × Int) × Int := (i_CombinationOf ds.1 (ds.2.2.1, ds.2.2.2.1) (ds.2.2.2.2.1, ds.2.2.2.2.2.1) ((k32_12 ds wn wl).1))
abbrev k32_17 (ds : D8i) (wn : Nat) (wl : List ByteArray) : ByteArray × Int × Bool × D8i := (i_change_c1 ((k32_16 ds wn wl).1) ((k32_16 ds wn wl).2) ds)
def S_i_change : Sums := ⟨tblS [(56, run_i_pointsText), (57, run_i_MidpointOf), (58, run_i_LineThrough), (59, run_i_FootOf), (60, run_i_CircumcentreOf), (61, run_i_OrthocentreOf), (19, run_i_NewDesk), (62, run_i_ParsePoint), (55, run_i_pointText), (63, run_i_wordNumber), (35, run_i_IsField), (39, run_i_fresh), (36, run_i_isColour), (64, run_i_CombinationOf)], tblM [(54, .cap run_i_change_c1)], true⟩
theorem SO_i_change : SumsOK prog S_i_change := ⟨tblS_ok ⟨⟨call56, sound_i_pointsText⟩, ⟨call57, sound_i_MidpointOf⟩, ⟨call58, sound_i_LineThrough⟩, ⟨call59, sound_i_FootOf⟩, ⟨call60, sound_i_CircumcentreOf⟩, ⟨call61, sound_i_OrthocentreOf⟩, ⟨call19, sound_i_NewDesk⟩, ⟨call62, sound_i_ParsePoint⟩, ⟨call55, sound_i_pointText⟩, ⟨call63, sound_i_wordNumber⟩, ⟨call35, sound_i_IsField⟩, ⟨call39, sound_i_fresh⟩, ⟨call36, sound_i_isColour⟩, ⟨call64, sound_i_CombinationOf⟩, ⟨⟩⟩, tblM_ok ⟨⟨call54, sound_i_change_c1⟩, ⟨⟩⟩⟩
def Fo_i_change (ds : D8i) (wn : Nat) (wl : List ByteArray) : Option (ByteArray × Int × Bool × D8i) :=
 (if (((wn : Nat) : Int) == 1) = true then (if (decide (0 ≤ 0) && decide (0 < ((wn : Nat) : Int))) = true then (if (Nat.ble (1) wl.length) = true then (if (eqS (wl.getD 0 ByteArray.empty) (bs [116, 117, 114, 110])) = true then (if (ptsB 3 [ds.2.2.2.2.1, ds.2.2.2.2.2.1, ds.2.2.2.2.2.2.1, ds.2.2.2.2.2.2.2, ds.2.2.1, ds.2.2.2.1]) = true then some ((k32_0 ds wn wl), 0, true, ds.1, ds.2.1, ds.2.2.2.2.1, ds.2.2.2.2.2.1, ds.2.2.2.2.2.2.1, ds.2.2.2.2.2.2.2, ds.2.2.1, ds.2.2.2.1) else none) else (if (eqS (wl.getD 0 ByteArray.empty) (bs [109, 105, 100, 100, 108, 101])) = true then (if (ok_i_change_c1 ((k32_1 ds wn wl).1) ((k32_1 ds wn wl).2) ds) = true then some ((k32_2 ds wn wl)) else none) else (if (eqS (wl.getD 0 ByteArray.empty) (bs [102, 111, 111, 116])) = true then (if (((k32_3 ds wn wl).2) != 0) = true then some (bs [], (k32_3 ds wn wl).2, true, ds) else (if (ok_i_change_c1 ((k32_4 ds wn wl).1) ((k32_4 ds wn wl).2) ds) = true then some ((k32_5 ds wn wl)) else none)) else (if (eqS (wl.getD 0 ByteArray.empty) (bs [99, 101, 110, 116, 114, 101])) = true then (if (ok_i_change_c1 ((k32_6 ds wn wl).1) ((k32_6 ds wn wl).2) ds) = true then some ((k32_7 ds wn wl)) else none) else (if (eqS (wl.getD 0 ByteArray.empty) (bs [104, 105, 103, 104])) = true then (if (ok_i_change_c1 ((k32_8 ds wn wl).1) ((k32_8 ds wn wl).2) ds) = true then some ((k32_9 ds wn wl)) else none) else (if (eqS (wl.getD 0 ByteArray.empty) (bs [114, 101, 115, 101, 116])) = true then some (bs [111, 107], 0, true, i_NewDesk) else some (bs [], 0, false, ds))))))) else none) else none) else (if (decide (0 ≤ 0) && decide (0 < ((wn : Nat) : Int))) = true then (if (Nat.ble (1) wl.length) = true then (if (eqS (wl.getD 0 ByteArray.empty) (bs [102, 105, 114, 115, 116])) = true then (if (decide (0 ≤ 1) && decide (1 < ((wn : Nat) : Int))) = true then (if (Nat.ble (2) wl.length) = true then (if (ok_i_ParsePoint ds.1 (wl.getD 1 ByteArray.empty)) = true then (if (num2 ((k32_10 ds wn wl).1)) = true then some ((k32_11 ds wn wl), (k32_10 ds wn wl).2, true, ds.1, ds.2.1, ((k32_10 ds wn wl).1).1, ((k32_10 ds wn wl).1).2, ds.2.2.2.2) else none) else none) else none) else none) else (if (decide (0 ≤ 0) && decide (0 < ((wn : Nat) : Int))) = true then (if (Nat.ble (1) wl.length) = true then (if (eqS (wl.getD 0 ByteArray.empty) (bs [115, 101, 99, 111, 110, 100])) = true then (if (decide (0 ≤ 1) && decide (1 < ((wn : Nat) : Int))) = true then (if (Nat.ble (2) wl.length) = true then (if (ok_i_ParsePoint ds.1 (wl.getD 1 ByteArray.empty)) = true then (if (num2 ((k32_10 ds wn wl).1)) = true then some ((k32_11 ds wn wl), (k32_10 ds wn wl).2, true, ds.1, ds.2.1, ds.2.2.1, ds.2.2.2.1, ((k32_10 ds wn wl).1).1, ((k32_10 ds wn wl).1).2, ds.2.2.2.2.2.2) else none) else none) else none) else none) else (if (decide (0 ≤ 0) && decide (0 < ((wn : Nat) : Int))) = true then (if (Nat.ble (1) wl.length) = true then (if (eqS (wl.getD 0 ByteArray.empty) (bs [116, 104, 105, 114, 100])) = true then (if (decide (0 ≤ 1) && decide (1 < ((wn : Nat) : Int))) = true then (if (Nat.ble (2) wl.length) = true then (if (ok_i_ParsePoint ds.1 (wl.getD 1 ByteArray.empty)) = true then (if (num2 ((k32_10 ds wn wl).1)) = true then some ((k32_11 ds wn wl), (k32_10 ds wn wl).2, true, ds.1, ds.2.1, ds.2.2.1, ds.2.2.2.1, ds.2.2.2.2.1, ds.2.2.2.2.2.1, ((k32_10 ds wn wl).1)) else none) else none) else none) else none) else (if (decide (0 ≤ 1) && decide (1 < ((wn : Nat) : Int))) = true then (if (Nat.ble (2) wl.length) = true then (if (!((k32_12 ds wn wl).2)) = true then some (bs [], 6, true, ds) else (if (decide (0 ≤ 0) && decide (0 < ((wn : Nat) : Int))) = true then (if (Nat.ble (1) wl.length) = true then (if (eqS (wl.getD 0 ByteArray.empty) (bs [112, 114, 105, 109, 101])) = true then (if (!(k32_13 ds wn wl)) = true then some (bs [], 1, true, ds) else (if (decide (0 ≤ 1) && decide (1 < ((wn : Nat) : Int))) = true then (if (Nat.ble (2) wl.length) = true then some (wl.getD 1 ByteArray.empty, 0, true, (k32_14 ds wn wl)) else none) else none)) else (if (eqS (wl.getD 0 ByteArray.empty) (bs [99, 111, 108, 111, 117, 114])) = true then (if (!(k32_15 ds wn wl)) = true then some (bs [], 2, true, ds) else (if (decide (0 ≤ 1) && decide (1 < ((wn : Nat) : Int))) = true then (if (Nat.ble (2) wl.length) = true then some (wl.getD 1 ByteArray.empty, 0, true, ds.1, (k32_12 ds wn wl).1, ds.2.2) else none) else none)) else (if (eqS (wl.getD 0 ByteArray.empty) (bs [99, 111, 109, 98, 105, 110, 101])) = true then (if (ok_i_change_c1 ((k32_16 ds wn wl).1) ((k32_16 ds wn wl).2) ds) = true then some ((k32_17 ds wn wl)) else none) else some (bs [], 0, false, ds)))) else none) else none)) else none) else none)) else none) else none)) else none) else none)) else none) else none))
theorem eq_i_change (ds : D8i) (wn : Nat) (wl : List ByteArray) : execP prog S_i_change 32 217 (fun _ => 1000000) dec_P28_s_i_b 28 [.v (.int .i64 ds.1), .v (.int .i64 ds.2.1), .v (.int .i64 ds.2.2.1), .v (.int .i64 ds.2.2.2.1), .v (.int .i64 ds.2.2.2.2.1), .v (.int .i64 ds.2.2.2.2.2.1), .v (.int .i64 ds.2.2.2.2.2.2.1), .v (.int .i64 ds.2.2.2.2.2.2.2)] [.s wn (.strs wl)] = Fo_i_change ds wn wl := by
 kernel_rfl
def ok_i_change : (D8i) → (Nat) → (List ByteArray) → (Bool) := shut fun (ds : D8i) (wn : Nat) (wl : List ByteArray) => (Fo_i_change ds wn wl).isSome
def i_change : (D8i) → (Nat) → (List ByteArray) → (ByteArray × Int × Bool × D8i) := shut fun (ds : D8i) (wn : Nat) (wl : List ByteArray) => (Fo_i_change ds wn wl).getD (.empty, 0, false, 0, 0, 0, 0, 0, 0, 0, 0)
theorem ok_i_change_of {ds : D8i} {wn : Nat} {wl : List ByteArray} {r : ByteArray × Int × Bool × D8i} (e : Fo_i_change ds wn wl = some r) : ok_i_change ds wn wl = true := by
 unfold ok_i_change
 rw [shut_eq, e]
 rfl
theorem i_change_of {ds : D8i} {wn : Nat} {wl : List ByteArray} {r : ByteArray × Int × Bool × D8i} (e : Fo_i_change ds wn wl = some r) : i_change ds wn wl = r := by
 unfold i_change
 rw [shut_eq, e]
 rfl
theorem tot_i_change (ds : D8i) (wn : Nat) (wl : List ByteArray) (hp : (ok_i_change ds wn wl) = true) : Fo_i_change ds wn wl = some (i_change ds wn wl) := by
 unfold ok_i_change at hp
 rw [shut_eq] at hp
 unfold i_change
 rw [shut_eq]
 exact of_isSome hp
def run_i_change : PRun
 | 28, [.v (.int .i64 d_0), .v (.int .i64 d_1), .v (.int .i64 d_2), .v (.int .i64 d_3), .v (.int .i64 d_4), .v (.int .i64 d_5), .v (.int .i64 d_6), .v (.int .i64 d_7)], [.s wn (.strs wl)] => some (ok_i_change (d_0, d_1, d_2, d_3, d_4, d_5, d_6, d_7) wn wl, enc_P28_s_i_b (i_change (d_0, d_1, d_2, d_3, d_4, d_5, d_6, d_7) wn wl))
 | _, _, _ => none
theorem sound_i_change : SoundP prog 32 run_i_change := by
 refine soundP_of de_P28_s_i_b SO_i_change (by kernel_rfl) func32 ntmps32 rfl (by kernel_rfl) ?_
 intro e bcs pvs rs bcs' hrun
 unfold run_i_change at hrun
 split at hrun
 ·simp only [Option.some.injEq, Prod.mk.injEq] at hrun
  obtain ⟨hp, hrun⟩ := hrun
  rename_i d_0 d_1 d_2 d_3 d_4 d_5 d_6 d_7 wn wl
  exact ⟨_, i_change (d_0, d_1, d_2, d_3, d_4, d_5, d_6, d_7) wn wl, by first | exact hrun.symm | exact (Prod.ext hrun.1 hrun.2).symm, (eq_i_change (d_0, d_1, d_2, d_3, d_4, d_5, d_6, d_7) wn wl).trans (tot_i_change (d_0, d_1, d_2, d_3, d_4, d_5, d_6, d_7) wn wl hp)⟩
 ·cases hrun

def S_i_manyPoints : Sums := ⟨tblS [(56, run_i_pointsText)], tblM [], false⟩
theorem SO_i_manyPoints : SumsOK prog S_i_manyPoints := ⟨tblS_ok ⟨⟨call56, sound_i_pointsText⟩, ⟨⟩⟩, tM⟩
def Fo_i_manyPoints (ln : Nat) (ll : List Int) (code : Int) : Option (ByteArray × Int) :=
 (if (ptsB ln ll) = true then some ((i_pointsText ln ll), code) else none)
theorem eq_i_manyPoints (ln : Nat) (ll : List Int) (code : Int) : eT S_i_manyPoints 65 9 dec_s_i [.s ln (.ints ll), pI code] = Fo_i_manyPoints ln ll code := by
 kernel_rfl
def ok_i_manyPoints : (Nat) → (List Int) → (Int) → (Bool) := shut fun (ln : Nat) (ll : List Int) (code : Int) => (Fo_i_manyPoints ln ll code).isSome
def i_manyPoints : (Nat) → (List Int) → (Int) → (ByteArray × Int) := shut fun (ln : Nat) (ll : List Int) (code : Int) => (Fo_i_manyPoints ln ll code).getD (.empty, 0)
theorem ok_i_manyPoints_of {ln : Nat} {ll : List Int} {code : Int} {r : ByteArray × Int} (e : Fo_i_manyPoints ln ll code = some r) : ok_i_manyPoints ln ll code = true := by
 unfold ok_i_manyPoints
 rw [shut_eq, e]
 rfl
theorem i_manyPoints_of {ln : Nat} {ll : List Int} {code : Int} {r : ByteArray × Int} (e : Fo_i_manyPoints ln ll code = some r) : i_manyPoints ln ll code = r := by
 unfold i_manyPoints
 rw [shut_eq, e]
 rfl
theorem tot_i_manyPoints (ln : Nat) (ll : List Int) (code : Int) (hp : (ok_i_manyPoints ln ll code) = true) : Fo_i_manyPoints ln ll code = some (i_manyPoints ln ll code) := by
 unfold ok_i_manyPoints at hp
 rw [shut_eq] at hp
 unfold i_manyPoints
 rw [shut_eq]
 exact of_isSome hp
def run_i_manyPoints : RunP
 | [.s ln (.ints ll), .v (.int .i64 code)] => some (ok_i_manyPoints ln ll code, enc_s_i (i_manyPoints ln ll code))
 | _ => none
theorem sound_i_manyPoints : Sound prog 65 run_i_manyPoints := by
 refine sound_1 de_s_i SO_i_manyPoints (by kernel_rfl) func65 ntmps65 rfl (by kernel_rfl) fun q r E => ?_
 unfold run_i_manyPoints at E
 split at E
 ·obtain ⟨hp, rfl⟩ := so2 E
  rename_i ln ll code
  exact ⟨_, _, rfl, (eq_i_manyPoints ln ll code).trans (tot_i_manyPoints ln ll code hp)⟩
 ·cases E

def S_i_oneNumber : Sums := ⟨tblS [(85, run_i_numbersText)], tblM [], false⟩
theorem SO_i_oneNumber : SumsOK prog S_i_oneNumber := ⟨tblS_ok ⟨⟨call85, sound_i_numbersText⟩, ⟨⟩⟩, tM⟩
def Fo_i_oneNumber (n_ code : Int) : Option (ByteArray × Int) :=
 (if (numB 1 [n_] && Nat.ble (bs [32]).size 10) = true then some ((i_numbersText 1 [n_] (bs [32])), code) else none)
theorem eq_i_oneNumber (n_ code : Int) : eT S_i_oneNumber 67 10 dec_s_i [pI n_, pI code] = Fo_i_oneNumber n_ code := by
 kernel_rfl
def ok_i_oneNumber : (Int) → (Int) → (Bool) := shut fun (n_ code : Int) => (Fo_i_oneNumber n_ code).isSome
def i_oneNumber : (Int) → (Int) → (ByteArray × Int) := shut fun (n_ code : Int) => (Fo_i_oneNumber n_ code).getD (.empty, 0)
theorem ok_i_oneNumber_of {n_ code : Int} {r : ByteArray × Int} (e : Fo_i_oneNumber n_ code = some r) : ok_i_oneNumber n_ code = true := by
 unfold ok_i_oneNumber
 rw [shut_eq, e]
 rfl
theorem i_oneNumber_of {n_ code : Int} {r : ByteArray × Int} (e : Fo_i_oneNumber n_ code = some r) : i_oneNumber n_ code = r := by
 unfold i_oneNumber
 rw [shut_eq, e]
 rfl
theorem tot_i_oneNumber (n_ code : Int) (hp : (ok_i_oneNumber n_ code) = true) : Fo_i_oneNumber n_ code = some (i_oneNumber n_ code) := by
 unfold ok_i_oneNumber at hp
 rw [shut_eq] at hp
 unfold i_oneNumber
 rw [shut_eq]
 exact of_isSome hp
def run_i_oneNumber : RunP
 | [.v (.int .i64 n_), .v (.int .i64 code)] => some (ok_i_oneNumber n_ code, enc_s_i (i_oneNumber n_ code))
 | _ => none
theorem sound_i_oneNumber : Sound prog 67 run_i_oneNumber := by
 refine sound_1 de_s_i SO_i_oneNumber (by kernel_rfl) func67 ntmps67 rfl (by kernel_rfl) fun q r E => ?_
 unfold run_i_oneNumber at E
 split at E
 ·obtain ⟨hp, rfl⟩ := so2 E
  rename_i n_ code
  exact ⟨_, _, rfl, (eq_i_oneNumber n_ code).trans (tot_i_oneNumber n_ code hp)⟩
 ·cases E

def S_i_oneLine : Sums := ⟨tblS [(127, run_i_lineText)], tblM [], false⟩
theorem SO_i_oneLine : SumsOK prog S_i_oneLine := ⟨tblS_ok ⟨⟨call127, sound_i_lineText⟩, ⟨⟩⟩, tM⟩
def Fo_i_oneLine (l : P3) (code : Int) : Option (ByteArray × Int) :=
 (if (num3 l) = true then some ((i_lineText l), code) else none)
theorem eq_i_oneLine (l : P3) (code : Int) : eT S_i_oneLine 71 9 dec_s_i [pB l, pI code] = Fo_i_oneLine l code := by
 kernel_rfl
def ok_i_oneLine : (Int × Int × Int) → (Int) → (Bool) := shut fun (l : P3) (code : Int) => (Fo_i_oneLine l code).isSome
def i_oneLine : (Int × Int × Int) → (Int) → (ByteArray × Int) := shut fun (l : P3) (code : Int) => (Fo_i_oneLine l code).getD (.empty, 0)
theorem ok_i_oneLine_of {l : P3} {code : Int} {r : ByteArray × Int} (e : Fo_i_oneLine l code = some r) : ok_i_oneLine l code = true := by
 unfold ok_i_oneLine
 rw [shut_eq, e]
 rfl
theorem i_oneLine_of {l : P3} {code : Int} {r : ByteArray × Int} (e : Fo_i_oneLine l code = some r) : i_oneLine l code = r := by
 unfold i_oneLine
 rw [shut_eq, e]
 rfl
theorem tot_i_oneLine (l : P3) (code : Int) (hp : (ok_i_oneLine l code) = true) : Fo_i_oneLine l code = some (i_oneLine l code) := by
 unfold ok_i_oneLine at hp
 rw [shut_eq] at hp
 unfold i_oneLine
 rw [shut_eq]
 exact of_isSome hp
def run_i_oneLine : RunP
 | [.v (.agg ⟨[.int .i64 l0, .int .i64 l1, .int .i64 l2]⟩), .v (.int .i64 code)] => some (ok_i_oneLine (l0, l1, l2) code, enc_s_i (i_oneLine (l0, l1, l2) code))
 | _ => none
theorem sound_i_oneLine : Sound prog 71 run_i_oneLine := by
 refine sound_1 de_s_i SO_i_oneLine (by kernel_rfl) func71 ntmps71 rfl (by kernel_rfl) fun q r E => ?_
 unfold run_i_oneLine at E
 split at E
 ·obtain ⟨hp, rfl⟩ := so2 E
  rename_i l0 l1 l2 code
  exact ⟨_, _, rfl, (eq_i_oneLine (l0, l1, l2) code).trans (tot_i_oneLine (l0, l1, l2) code hp)⟩
 ·cases E

def S_i_manyLines : Sums := ⟨tblS [(130, run_i_linesText)], tblM [], false⟩
theorem SO_i_manyLines : SumsOK prog S_i_manyLines := ⟨tblS_ok ⟨⟨call130, sound_i_linesText⟩, ⟨⟩⟩, tM⟩
def Fo_i_manyLines (ln : Nat) (ll : List Int) (code : Int) : Option (ByteArray × Int) :=
 (if (lnsB ln ll) = true then some ((i_linesText ln ll), code) else none)
theorem eq_i_manyLines (ln : Nat) (ll : List Int) (code : Int) : eT S_i_manyLines 73 9 dec_s_i [.s ln (.ints ll), pI code] = Fo_i_manyLines ln ll code := by
 kernel_rfl
def ok_i_manyLines : (Nat) → (List Int) → (Int) → (Bool) := shut fun (ln : Nat) (ll : List Int) (code : Int) => (Fo_i_manyLines ln ll code).isSome
def i_manyLines : (Nat) → (List Int) → (Int) → (ByteArray × Int) := shut fun (ln : Nat) (ll : List Int) (code : Int) => (Fo_i_manyLines ln ll code).getD (.empty, 0)
theorem ok_i_manyLines_of {ln : Nat} {ll : List Int} {code : Int} {r : ByteArray × Int} (e : Fo_i_manyLines ln ll code = some r) : ok_i_manyLines ln ll code = true := by
 unfold ok_i_manyLines
 rw [shut_eq, e]
 rfl
theorem i_manyLines_of {ln : Nat} {ll : List Int} {code : Int} {r : ByteArray × Int} (e : Fo_i_manyLines ln ll code = some r) : i_manyLines ln ll code = r := by
 unfold i_manyLines
 rw [shut_eq, e]
 rfl
theorem tot_i_manyLines (ln : Nat) (ll : List Int) (code : Int) (hp : (ok_i_manyLines ln ll code) = true) : Fo_i_manyLines ln ll code = some (i_manyLines ln ll code) := by
 unfold ok_i_manyLines at hp
 rw [shut_eq] at hp
 unfold i_manyLines
 rw [shut_eq]
 exact of_isSome hp
def run_i_manyLines : RunP
 | [.s ln (.ints ll), .v (.int .i64 code)] => some (ok_i_manyLines ln ll code, enc_s_i (i_manyLines ln ll code))
 | _ => none
theorem sound_i_manyLines : Sound prog 73 run_i_manyLines := by
 refine sound_1 de_s_i SO_i_manyLines (by kernel_rfl) func73 ntmps73 rfl (by kernel_rfl) fun q r E => ?_
 unfold run_i_manyLines at E
 split at E
 ·obtain ⟨hp, rfl⟩ := so2 E
  rename_i ln ll code
  exact ⟨_, _, rfl, (eq_i_manyLines ln ll code).trans (tot_i_manyLines ln ll code hp)⟩
 ·cases E

def S_i_onePoint : Sums := ⟨tblS [(55, run_i_pointText)], tblM [], false⟩
theorem SO_i_onePoint : SumsOK prog S_i_onePoint := ⟨tblS_ok ⟨⟨call55, sound_i_pointText⟩, ⟨⟩⟩, tM⟩
def Fo_i_onePoint (a : P2) (code : Int) : Option (ByteArray × Int) :=
 (if (num2 a) = true then some ((i_pointText a), code) else none)
theorem eq_i_onePoint (a : P2) (code : Int) : eT S_i_onePoint 78 9 dec_s_i [pA a, pI code] = Fo_i_onePoint a code := by
 kernel_rfl
def ok_i_onePoint : (Int × Int) → (Int) → (Bool) := shut fun (a : P2) (code : Int) => (Fo_i_onePoint a code).isSome
def i_onePoint : (Int × Int) → (Int) → (ByteArray × Int) := shut fun (a : P2) (code : Int) => (Fo_i_onePoint a code).getD (.empty, 0)
theorem ok_i_onePoint_of {a : P2} {code : Int} {r : ByteArray × Int} (e : Fo_i_onePoint a code = some r) : ok_i_onePoint a code = true := by
 unfold ok_i_onePoint
 rw [shut_eq, e]
 rfl
theorem i_onePoint_of {a : P2} {code : Int} {r : ByteArray × Int} (e : Fo_i_onePoint a code = some r) : i_onePoint a code = r := by
 unfold i_onePoint
 rw [shut_eq, e]
 rfl
theorem tot_i_onePoint (a : P2) (code : Int) (hp : (ok_i_onePoint a code) = true) : Fo_i_onePoint a code = some (i_onePoint a code) := by
 unfold ok_i_onePoint at hp
 rw [shut_eq] at hp
 unfold i_onePoint
 rw [shut_eq]
 exact of_isSome hp
def run_i_onePoint : RunP
 | [.v (.agg ⟨[.int .i64 a0, .int .i64 a1]⟩), .v (.int .i64 code)] => some (ok_i_onePoint (a0, a1) code, enc_s_i (i_onePoint (a0, a1) code))
 | _ => none
theorem sound_i_onePoint : Sound prog 78 run_i_onePoint := by
 refine sound_1 de_s_i SO_i_onePoint (by kernel_rfl) func78 ntmps78 rfl (by kernel_rfl) fun q r E => ?_
 unfold run_i_onePoint at E
 split at E
 ·obtain ⟨hp, rfl⟩ := so2 E
  rename_i a0 a1 code
  exact ⟨_, _, rfl, (eq_i_onePoint (a0, a1) code).trans (tot_i_onePoint (a0, a1) code hp)⟩
 ·cases E

def S_i_manyNumbers : Sums := ⟨tblS [(69, run_i_longText)], tblM [], false⟩
theorem SO_i_manyNumbers : SumsOK prog S_i_manyNumbers := ⟨tblS_ok ⟨⟨call69, sound_i_longText⟩, ⟨⟩⟩, tM⟩
def Fo_i_manyNumbers (ln : Nat) (ll : List Int) (code : Int) : Option (ByteArray × Int) :=
 (if (numB ln ll) = true then some ((i_longText ln ll), code) else none)
theorem eq_i_manyNumbers (ln : Nat) (ll : List Int) (code : Int) : eT S_i_manyNumbers 88 9 dec_s_i [.s ln (.ints ll), pI code] = Fo_i_manyNumbers ln ll code := by
 kernel_rfl
def ok_i_manyNumbers : (Nat) → (List Int) → (Int) → (Bool) := shut fun (ln : Nat) (ll : List Int) (code : Int) => (Fo_i_manyNumbers ln ll code).isSome
def i_manyNumbers : (Nat) → (List Int) → (Int) → (ByteArray × Int) := shut fun (ln : Nat) (ll : List Int) (code : Int) => (Fo_i_manyNumbers ln ll code).getD (.empty, 0)
theorem ok_i_manyNumbers_of {ln : Nat} {ll : List Int} {code : Int} {r : ByteArray × Int} (e : Fo_i_manyNumbers ln ll code = some r) : ok_i_manyNumbers ln ll code = true := by
 unfold ok_i_manyNumbers
 rw [shut_eq, e]
 rfl
theorem i_manyNumbers_of {ln : Nat} {ll : List Int} {code : Int} {r : ByteArray × Int} (e : Fo_i_manyNumbers ln ll code = some r) : i_manyNumbers ln ll code = r := by
 unfold i_manyNumbers
 rw [shut_eq, e]
 rfl
theorem tot_i_manyNumbers (ln : Nat) (ll : List Int) (code : Int) (hp : (ok_i_manyNumbers ln ll code) = true) : Fo_i_manyNumbers ln ll code = some (i_manyNumbers ln ll code) := by
 unfold ok_i_manyNumbers at hp
 rw [shut_eq] at hp
 unfold i_manyNumbers
 rw [shut_eq]
 exact of_isSome hp
def run_i_manyNumbers : RunP
 | [.s ln (.ints ll), .v (.int .i64 code)] => some (ok_i_manyNumbers ln ll code, enc_s_i (i_manyNumbers ln ll code))
 | _ => none
theorem sound_i_manyNumbers : Sound prog 88 run_i_manyNumbers := by
 refine sound_1 de_s_i SO_i_manyNumbers (by kernel_rfl) func88 ntmps88 rfl (by kernel_rfl) fun q r E => ?_
 unfold run_i_manyNumbers at E
 split at E
 ·obtain ⟨hp, rfl⟩ := so2 E
  rename_i ln ll code
  exact ⟨_, _, rfl, (eq_i_manyNumbers ln ll code).trans (tot_i_manyNumbers ln ll code hp)⟩
 ·cases E

abbrev k33_0 (ds : D8i) (wn : Nat) (wl : List ByteArray) : Int × Bool := (i_wordNumber (wl.getD 1 ByteArray.empty))
abbrev k33_1 (ds : D8i) (wn : Nat) (wl : List ByteArray) : (Nat × List Int) × Int := (i_PointsAt ds.1 ds.2.1 (ds.2.2.1, ds.2.2.2.1) ((k33_0 ds wn wl).1))
abbrev k33_2 (ds : D8i) (wn : Nat) (wl : List ByteArray) : ByteArray × Int := (i_manyPoints (((k33_1 ds wn wl).1).1) (((k33_1 ds wn wl).1).2) ((k33_1 ds wn wl).2))
abbrev k33_3 (ds : D8i) (wn : Nat) (wl : List ByteArray) : Int × Int := (i_CountAt ds.1 ds.2.1 ((k33_0 ds wn wl).1))
abbrev k33_4 (ds : D8i) (wn : Nat) (wl : List ByteArray) : ByteArray × Int := (i_oneNumber ((k33_3 ds wn wl).1) ((k33_3 ds wn wl).2))
abbrev k33_5 (ds : D8i) (wn : Nat) (wl : List ByteArray) : ByteArray := (i_pointsText 3 [ds.2.2.1, ds.2.2.2.1, ds.2.2.2.2.1, ds.2.2.2.2.2.1, ds.2.2.2.2.2.2.1, ds.2.2.2.2.2.2.2])
abbrev k33_6 (ds : D8i) (wn : Nat) (wl : List ByteArray) : Int × Int := (i_DoubledArea ds.1 (ds.2.2.1, ds.2.2.2.1) (ds.2.2.2.2.1, ds.2.2.2.2.2.1) ds.2.2.2.2.2.2)
abbrev k33_7 (ds : D8i) (wn : Nat) (wl : List ByteArray) : ByteArray × Int := (i_oneNumber ((k33_6 ds wn wl).1) ((k33_6 ds wn wl).2))
abbrev k33_8 (ds : D8i) (wn : Nat) (wl : List ByteArray) : (Int × Int × Int) × Int := (i_LineThrough ds.1 (ds.2.2.2.2.1, ds.2.2.2.2.2.1) ds.2.2.2.2.2.2)
abbrev k33_9 (ds : D8i) (wn : Nat) (wl : List ByteArray) : ByteArray × Int := (i_oneLine ((k33_8 ds wn wl).1) ((k33_8 ds wn wl).2))
abbrev k33_10 (ds : D8i) (wn : Nat) (wl : List ByteArray) : Int := (i_quadrance ds.1 ds.2.1 (ds.2.2.2.2.1, ds.2.2.2.2.2.1) ds.2.2.2.2.2.2)
abbrev k33_11 (ds : D8i) (wn : Nat) (wl : List ByteArray) : Int := (i_quadrance ds.1 ds.2.1 (ds.2.2.1, ds.2.2.2.1) ds.2.2.2.2.2.2)
abbrev k33_12 (ds : D8i) (wn : Nat) (wl : List ByteArray) : Int := (i_quadrance ds.1 ds.2.1 (ds.2.2.1, ds.2.2.2.1) (ds.2.2.2.2.1, ds.2.2.2.2.2.1))
abbrev k33_13 (ds : D8i) (wn : Nat) (wl : List ByteArray) : ByteArray := (i_longText 3 [(k33_10 ds wn wl), (k33_11 ds wn wl), (k33_12 ds wn wl)])
abbrev k33_14 (ds : D8i) (wn : Nat) (wl : List ByteArray) : (Nat × List Int) × Int := (i_NullLines ds.1 ds.2.1 (ds.2.2.1, ds.2.2.2.1))
abbrev k33_15 (ds : D8i) (wn : Nat) (wl : List ByteArray) : ByteArray × Int := (i_manyLines (((k33_14 ds wn wl).1).1) (((k33_14 ds wn wl).1).2) ((k33_14 ds wn wl).2))
abbrev k33_16 (ds : D8i) (wn : Nat) (wl : List ByteArray) : Bool := (i_isRight ds.1 ds.2.1 (ds.2.2.1, ds.2.2.2.1) (ds.2.2.2.2.1, ds.2.2.2.2.2.1) ds.2.2.2.2.2.2)
abbrev k33_17 (ds : D8i) (wn : Nat) (wl : List ByteArray) : Int × Int := (i_SpreadAt ds.1 ds.2.1 (ds.2.2.1, ds.2.2.2.1) (ds.2.2.2.2.1, ds.2.2.2.2.2.1) ds.2.2.2.2.2.2)
abbrev k33_18 (ds : D8i) (wn : Nat) (wl : List ByteArray) : ByteArray × Int := (i_oneNumber ((k33_17 ds wn wl).1) ((k33_17 ds wn wl).2))
abbrev k33_19 (ds : D8i) (wn : Nat) (wl : List ByteArray) : Int × Int := (i_QuadreaOf ds.1 ds.2.1 (ds.2.2.1, ds.2.2.2.1) (ds.2.2.2.2.1, ds.2.2.2.2.2.1) ds.2.2.2.2.2.2)
abbrev k33_20 (ds : D8i) (wn : Nat) (wl : List ByteArray) : ByteArray × Int := (i_oneNumber ((k33_19 ds wn wl).1) ((k33_19 ds wn wl).2))
abbrev k33_21 (ds : D8i) (wn : Nat) (wl : List ByteArray) : (Int × Int) × Int := (i_CentroidOf ds.1 (ds.2.2.1, ds.2.2.2.1) (ds.2.2.2.2.1, ds.2.2.2.2.2.1) ds.2.2.2.2.2.2)
abbrev k33_22 (ds : D8i) (wn : Nat) (wl : List ByteArray) : ByteArray × Int := (i_onePoint ((k33_21 ds wn wl).1) ((k33_21 ds wn wl).2))
abbrev k33_23 (ds : D8i) (wn : Nat) (wl : List ByteArray) : (Int × Int × Int) × Int := (i_MedianOf ds.1 (ds.2.2.1, ds.2.2.2.1) (ds.2.2.2.2.1, ds.2.2.2.2.2.1) ds.2.2.2.2.2.2)
abbrev k33_24 (ds : D8i) (wn : Nat) (wl : List ByteArray) : ByteArray × Int := (i_oneLine ((k33_23 ds wn wl).1) ((k33_23 ds wn wl).2))
abbrev k33_25 (ds : D8i) (wn : Nat) (wl : List ByteArray) : (Int × Int × Int) × Int := (i_AltitudeOf ds.1 ds.2.1 (ds.2.2.1, ds.2.2.2.1) (ds.2.2.2.2.1, ds.2.2.2.2.2.1) ds.2.2.2.2.2.2)
abbrev k33_26 (ds : D8i) (wn : Nat) (wl : List ByteArray) : ByteArray × Int := (i_oneLine ((k33_25 ds wn wl).1) ((k33_25 ds wn wl).2))
abbrev k33_27 (ds : D8i) (wn : Nat) (wl : List ByteArray) : (Int × Int × Int) × Int := (i_EulerLineOf ds.1 ds.2.1 (ds.2.2.1, ds.2.2.2.1) (ds.2.2.2.2.1, ds.2.2.2.2.2.1) ds.2.2.2.2.2.2)
abbrev k33_28 (ds : D8i) (wn : Nat) (wl : List ByteArray) : ByteArray × Int := (i_oneLine ((k33_27 ds wn wl).1) ((k33_27 ds wn wl).2))
abbrev k33_29 (ds : D8i) (wn : Nat) (wl : List ByteArray) : (Nat × List Int) × Int := (i_OrthicPoints ds.1 ds.2.1 (ds.2.2.1, ds.2.2.2.1) (ds.2.2.2.2.1, ds.2.2.2.2.2.1) ds.2.2.2.2.2.2)
abbrev k33_30 (ds : D8i) (wn : Nat) (wl : List ByteArray) : ByteArray × Int := (i_manyPoints (((k33_29 ds wn wl).1).1) (((k33_29 ds wn wl).1).2) ((k33_29 ds wn wl).2))
abbrev k33_31 (ds : D8i) (wn : Nat) (wl : List ByteArray) : (Int × Int × Int) × Int := (i_CircleThrough ds.1 ds.2.1 (ds.2.2.1, ds.2.2.2.1) (ds.2.2.2.2.1, ds.2.2.2.2.2.1) ds.2.2.2.2.2.2)
abbrev k33_32 (ds : D8i) (wn : Nat) (wl : List ByteArray) : ByteArray := (i_pointText (((k33_31 ds wn wl).1).1, ((k33_31 ds wn wl).1).2.1))
abbrev k33_33 (ds : D8i) (wn : Nat) (wl : List ByteArray) : ByteArray := (i_numbersText 1 [((k33_31 ds wn wl).1).2.2] (bs [32]))
abbrev k33_34 (ds : D8i) (wn : Nat) (wl : List ByteArray) : (Nat × List Int) × Int := (i_OmegaPoints ds.1 (ds.2.2.1, ds.2.2.2.1) (ds.2.2.2.2.1, ds.2.2.2.2.2.1) ds.2.2.2.2.2.2)
abbrev k33_35 (ds : D8i) (wn : Nat) (wl : List ByteArray) : ByteArray × Int := (i_manyPoints (((k33_34 ds wn wl).1).1) (((k33_34 ds wn wl).1).2) ((k33_34 ds wn wl).2))
abbrev k33_36 (ds : D8i) (wn : Nat) (wl : List ByteArray) : (Nat × List Int) × Int := (i_ThreeEulerLines ds.1 (ds.2.2.1, ds.2.2.2.1) (ds.2.2.2.2.1, ds.2.2.2.2.2.1) ds.2.2.2.2.2.2)
abbrev k33_37 (ds : D8i) (wn : Nat) (wl : List ByteArray) : ByteArray × Int := (i_manyLines (((k33_36 ds wn wl).1).1) (((k33_36 ds wn wl).1).2) ((k33_36 ds wn wl).2))
abbrev k33_38 (ds : D8i) (wn : Nat) (wl : List ByteArray) : (Nat × List Int) × Int := (i_RightColours ds.1 (ds.2.2.1, ds.2.2.2.1) (ds.2.2.2.2.1, ds.2.2.2.2.2.1) ds.2.2.2.2.2.2)
abbrev k33_39 (ds : D8i) (wn : Nat) (wl : List ByteArray) : ByteArray × Int := (i_manyNumbers (((k33_38 ds wn wl).1).1) (((k33_38 ds wn wl).1).2) ((k33_38 ds wn wl).2))
abbrev k33_40 (ds : D8i) (wn : Nat) (wl : List ByteArray) : ByteArray × Int := (i_manyNumbers (((i_UnitCounts ds.1).1).1) (((i_UnitCounts ds.1).1).2) ((i_UnitCounts ds.1).2))
def S_i_answer : Sums := ⟨tblS [(63, run_i_wordNumber), (66, run_i_PointsAt), (65, run_i_manyPoints), (68, run_i_CountAt), (67, run_i_oneNumber), (56, run_i_pointsText), (69, run_i_longText), (70, run_i_DoubledArea), (58, run_i_LineThrough), (71, run_i_oneLine), (72, run_i_quadrance), (74, run_i_NullLines), (73, run_i_manyLines), (75, run_i_isRight), (76, run_i_SpreadAt), (77, run_i_QuadreaOf), (79, run_i_CentroidOf), (78, run_i_onePoint), (80, run_i_MedianOf), (81, run_i_AltitudeOf), (82, run_i_EulerLineOf), (83, run_i_OrthicPoints), (84, run_i_CircleThrough), (55, run_i_pointText), (85, run_i_numbersText), (86, run_i_OmegaPoints), (87, run_i_ThreeEulerLines), (89, run_i_RightColours), (88, run_i_manyNumbers), (90, run_i_UnitCounts)], tblM [], false⟩
theorem SO_i_answer : SumsOK prog S_i_answer := ⟨tblS_ok ⟨⟨call63, sound_i_wordNumber⟩, ⟨call66, sound_i_PointsAt⟩, ⟨call65, sound_i_manyPoints⟩, ⟨call68, sound_i_CountAt⟩, ⟨call67, sound_i_oneNumber⟩, ⟨call56, sound_i_pointsText⟩, ⟨call69, sound_i_longText⟩, ⟨call70, sound_i_DoubledArea⟩, ⟨call58, sound_i_LineThrough⟩, ⟨call71, sound_i_oneLine⟩, ⟨call72, sound_i_quadrance⟩, ⟨call74, sound_i_NullLines⟩, ⟨call73, sound_i_manyLines⟩, ⟨call75, sound_i_isRight⟩, ⟨call76, sound_i_SpreadAt⟩, ⟨call77, sound_i_QuadreaOf⟩, ⟨call79, sound_i_CentroidOf⟩, ⟨call78, sound_i_onePoint⟩, ⟨call80, sound_i_MedianOf⟩, ⟨call81, sound_i_AltitudeOf⟩, ⟨call82, sound_i_EulerLineOf⟩, ⟨call83, sound_i_OrthicPoints⟩, ⟨call84, sound_i_CircleThrough⟩, ⟨call55, sound_i_pointText⟩, ⟨call85, sound_i_numbersText⟩, ⟨call86, sound_i_OmegaPoints⟩, ⟨call87, sound_i_ThreeEulerLines⟩, ⟨call89, sound_i_RightColours⟩, ⟨call88, sound_i_manyNumbers⟩, ⟨call90, sound_i_UnitCounts⟩, ⟨⟩⟩, tM⟩
def Fo_i_answer (ds : D8i) (wn : Nat) (wl : List ByteArray) : Option (ByteArray × Int × D8i) :=
 (if (((wn : Nat) : Int) == 2) = true then (if (decide (0 ≤ 1) && decide (1 < ((wn : Nat) : Int))) = true then (if (Nat.ble (2) wl.length) = true then (if (decide (0 ≤ 0) && decide (0 < ((wn : Nat) : Int))) = true then (if (Nat.ble (1) wl.length) = true then (if (eqS (wl.getD 0 ByteArray.empty) (bs [97, 116])) = true then (if (ok_i_manyPoints (((k33_1 ds wn wl).1).1) (((k33_1 ds wn wl).1).2) ((k33_1 ds wn wl).2)) = true then some ((k33_2 ds wn wl).1, (k33_2 ds wn wl).2, ds) else none) else (if (eqS (wl.getD 0 ByteArray.empty) (bs [99, 111, 117, 110, 116])) = true then (if (ok_i_oneNumber ((k33_3 ds wn wl).1) ((k33_3 ds wn wl).2)) = true then some ((k33_4 ds wn wl).1, (k33_4 ds wn wl).2, ds) else none) else some (bs [], 6, ds))) else none) else none) else none) else none) else (if (decide (0 ≤ 0) && decide (0 < ((wn : Nat) : Int))) = true then (if (Nat.ble (1) wl.length) = true then (if (eqS (wl.getD 0 ByteArray.empty) (bs [115, 104, 111, 119])) = true then (if (ptsB 3 [ds.2.2.1, ds.2.2.2.1, ds.2.2.2.2.1, ds.2.2.2.2.2.1, ds.2.2.2.2.2.2.1, ds.2.2.2.2.2.2.2]) = true then some ((k33_5 ds wn wl), 0, ds) else none) else (if (eqS (wl.getD 0 ByteArray.empty) (bs [102, 105, 101, 108, 100])) = true then (if (numB 2 [ds.1, ds.2.1]) = true then some ((i_longText 2 [ds.1, ds.2.1]), 0, ds) else none) else (if (eqS (wl.getD 0 ByteArray.empty) (bs [97, 114, 101, 97])) = true then (if (ok_i_oneNumber ((k33_6 ds wn wl).1) ((k33_6 ds wn wl).2)) = true then some ((k33_7 ds wn wl).1, (k33_7 ds wn wl).2, ds) else none) else (if (eqS (wl.getD 0 ByteArray.empty) (bs [115, 105, 100, 101])) = true then (if (ok_i_oneLine ((k33_8 ds wn wl).1) ((k33_8 ds wn wl).2)) = true then some ((k33_9 ds wn wl).1, (k33_9 ds wn wl).2, ds) else none) else (if (eqS (wl.getD 0 ByteArray.empty) (bs [113, 117, 97, 100, 114, 97, 110, 99, 101, 115])) = true then (if (prB ds.1) = true then (if (prB ds.1) = true then (if (prB ds.1) = true then (if (numB 3 [(k33_10 ds wn wl), (k33_11 ds wn wl), (k33_12 ds wn wl)]) = true then some ((k33_13 ds wn wl), 0, ds) else none) else none) else none) else none) else (if (eqS (wl.getD 0 ByteArray.empty) (bs [110, 117, 108, 108])) = true then (if (ok_i_manyLines (((k33_14 ds wn wl).1).1) (((k33_14 ds wn wl).1).2) ((k33_14 ds wn wl).2)) = true then some ((k33_15 ds wn wl).1, (k33_15 ds wn wl).2, ds) else none) else (if (eqS (wl.getD 0 ByteArray.empty) (bs [114, 105, 103, 104, 116])) = true then (if (prB ds.1) = true then (if (k33_16 ds wn wl) = true then some (bs [121, 101, 115], 0, ds) else some (bs [110, 111], 0, ds)) else none) else (if (eqS (wl.getD 0 ByteArray.empty) (bs [115, 112, 114, 101, 97, 100])) = true then (if (ok_i_oneNumber ((k33_17 ds wn wl).1) ((k33_17 ds wn wl).2)) = true then some ((k33_18 ds wn wl).1, (k33_18 ds wn wl).2, ds) else none) else (if (eqS (wl.getD 0 ByteArray.empty) (bs [113, 117, 97, 100, 114, 101, 97])) = true then (if (ok_i_oneNumber ((k33_19 ds wn wl).1) ((k33_19 ds wn wl).2)) = true then some ((k33_20 ds wn wl).1, (k33_20 ds wn wl).2, ds) else none) else (if (eqS (wl.getD 0 ByteArray.empty) (bs [99, 101, 110, 116, 114, 111, 105, 100])) = true then (if (ok_i_onePoint ((k33_21 ds wn wl).1) ((k33_21 ds wn wl).2)) = true then some ((k33_22 ds wn wl).1, (k33_22 ds wn wl).2, ds) else none) else (if (eqS (wl.getD 0 ByteArray.empty) (bs [109, 101, 100, 105, 97, 110])) = true then (if (ok_i_oneLine ((k33_23 ds wn wl).1) ((k33_23 ds wn wl).2)) = true then some ((k33_24 ds wn wl).1, (k33_24 ds wn wl).2, ds) else none) else (if (eqS (wl.getD 0 ByteArray.empty) (bs [97, 108, 116, 105, 116, 117, 100, 101])) = true then (if (ok_i_oneLine ((k33_25 ds wn wl).1) ((k33_25 ds wn wl).2)) = true then some ((k33_26 ds wn wl).1, (k33_26 ds wn wl).2, ds) else none) else (if (eqS (wl.getD 0 ByteArray.empty) (bs [101, 117, 108, 101, 114])) = true then (if (ok_i_oneLine ((k33_27 ds wn wl).1) ((k33_27 ds wn wl).2)) = true then some ((k33_28 ds wn wl).1, (k33_28 ds wn wl).2, ds) else none) else (if (eqS (wl.getD 0 ByteArray.empty) (bs [111, 114, 116, 104, 105, 99])) = true then (if (ok_i_manyPoints (((k33_29 ds wn wl).1).1) (((k33_29 ds wn wl).1).2) ((k33_29 ds wn wl).2)) = true then some ((k33_30 ds wn wl).1, (k33_30 ds wn wl).2, ds) else none) else (if (eqS (wl.getD 0 ByteArray.empty) (bs [99, 105, 114, 99, 108, 101])) = true then (if (num2 (((k33_31 ds wn wl).1).1, ((k33_31 ds wn wl).1).2.1)) = true then (if (Nat.ble ((k33_32 ds wn wl).size + (bs [32]).size) 9223372036854775807) = true then (if (numB 1 [((k33_31 ds wn wl).1).2.2] && Nat.ble (bs [32]).size 10) = true then (if (Nat.ble (((k33_32 ds wn wl) ++ (bs [32])).size + (k33_33 ds wn wl).size) 9223372036854775807) = true then some (((k33_32 ds wn wl) ++ (bs [32])) ++ (k33_33 ds wn wl), (k33_31 ds wn wl).2, ds) else none) else none) else none) else none) else (if (eqS (wl.getD 0 ByteArray.empty) (bs [111, 109, 101, 103, 97])) = true then (if (ok_i_manyPoints (((k33_34 ds wn wl).1).1) (((k33_34 ds wn wl).1).2) ((k33_34 ds wn wl).2)) = true then some ((k33_35 ds wn wl).1, (k33_35 ds wn wl).2, ds) else none) else (if (eqS (wl.getD 0 ByteArray.empty) (bs [101, 117, 108, 101, 114, 115])) = true then (if (ok_i_manyLines (((k33_36 ds wn wl).1).1) (((k33_36 ds wn wl).1).2) ((k33_36 ds wn wl).2)) = true then some ((k33_37 ds wn wl).1, (k33_37 ds wn wl).2, ds) else none) else (if (eqS (wl.getD 0 ByteArray.empty) (bs [114, 105, 103, 104, 116, 115])) = true then (if (ok_i_manyNumbers (((k33_38 ds wn wl).1).1) (((k33_38 ds wn wl).1).2) ((k33_38 ds wn wl).2)) = true then some ((k33_39 ds wn wl).1, (k33_39 ds wn wl).2, ds) else none) else (if (eqS (wl.getD 0 ByteArray.empty) (bs [117, 110, 105, 116, 115])) = true then (if (ok_i_manyNumbers (((i_UnitCounts ds.1).1).1) (((i_UnitCounts ds.1).1).2) ((i_UnitCounts ds.1).2)) = true then some ((k33_40 ds wn wl).1, (k33_40 ds wn wl).2, ds) else none) else some (bs [], 6, ds)))))))))))))))))))) else none) else none))
theorem eq_i_answer (ds : D8i) (wn : Nat) (wl : List ByteArray) : execP prog S_i_answer 33 306 (fun _ => 1000000) dec_P28_s_i 28 [.v (.int .i64 ds.1), .v (.int .i64 ds.2.1), .v (.int .i64 ds.2.2.1), .v (.int .i64 ds.2.2.2.1), .v (.int .i64 ds.2.2.2.2.1), .v (.int .i64 ds.2.2.2.2.2.1), .v (.int .i64 ds.2.2.2.2.2.2.1), .v (.int .i64 ds.2.2.2.2.2.2.2)] [.s wn (.strs wl)] = Fo_i_answer ds wn wl := by
 kernel_rfl
def ok_i_answer : (D8i) → (Nat) → (List ByteArray) → (Bool) := shut fun (ds : D8i) (wn : Nat) (wl : List ByteArray) => (Fo_i_answer ds wn wl).isSome
def i_answer : (D8i) → (Nat) → (List ByteArray) → (ByteArray × Int × D8i) := shut fun (ds : D8i) (wn : Nat) (wl : List ByteArray) => (Fo_i_answer ds wn wl).getD (.empty, 0, 0, 0, 0, 0, 0, 0, 0, 0)
theorem ok_i_answer_of {ds : D8i} {wn : Nat} {wl : List ByteArray} {r : ByteArray × Int × D8i} (e : Fo_i_answer ds wn wl = some r) : ok_i_answer ds wn wl = true := by
 unfold ok_i_answer
 rw [shut_eq, e]
 rfl
theorem i_answer_of {ds : D8i} {wn : Nat} {wl : List ByteArray} {r : ByteArray × Int × D8i} (e : Fo_i_answer ds wn wl = some r) : i_answer ds wn wl = r := by
 unfold i_answer
 rw [shut_eq, e]
 rfl
theorem tot_i_answer (ds : D8i) (wn : Nat) (wl : List ByteArray) (hp : (ok_i_answer ds wn wl) = true) : Fo_i_answer ds wn wl = some (i_answer ds wn wl) := by
 unfold ok_i_answer at hp
 rw [shut_eq] at hp
 unfold i_answer
 rw [shut_eq]
 exact of_isSome hp
def run_i_answer : PRun
 | 28, [.v (.int .i64 d_0), .v (.int .i64 d_1), .v (.int .i64 d_2), .v (.int .i64 d_3), .v (.int .i64 d_4), .v (.int .i64 d_5), .v (.int .i64 d_6), .v (.int .i64 d_7)], [.s wn (.strs wl)] => some (ok_i_answer (d_0, d_1, d_2, d_3, d_4, d_5, d_6, d_7) wn wl, enc_P28_s_i (i_answer (d_0, d_1, d_2, d_3, d_4, d_5, d_6, d_7) wn wl))
 | _, _, _ => none
theorem sound_i_answer : SoundP prog 33 run_i_answer := by
 refine soundP_of de_P28_s_i SO_i_answer (by kernel_rfl) func33 ntmps33 rfl (by kernel_rfl) ?_
 intro e bcs pvs rs bcs' hrun
 unfold run_i_answer at hrun
 split at hrun
 ·simp only [Option.some.injEq, Prod.mk.injEq] at hrun
  obtain ⟨hp, hrun⟩ := hrun
  rename_i d_0 d_1 d_2 d_3 d_4 d_5 d_6 d_7 wn wl
  exact ⟨_, i_answer (d_0, d_1, d_2, d_3, d_4, d_5, d_6, d_7) wn wl, by first | exact hrun.symm | exact (Prod.ext hrun.1 hrun.2).symm, (eq_i_answer (d_0, d_1, d_2, d_3, d_4, d_5, d_6, d_7) wn wl).trans (tot_i_answer (d_0, d_1, d_2, d_3, d_4, d_5, d_6, d_7) wn wl hp)⟩
 ·cases hrun

def S_i_RunLine : Sums := ⟨tblS [(17, run_i_IsDesk), (31, run_x_Split)], tblM [(32, .box run_i_change), (33, .box run_i_answer)], false⟩
theorem SO_i_RunLine : SumsOK prog S_i_RunLine := ⟨tblS_ok ⟨⟨call17, sound_i_IsDesk⟩, ⟨call31, sound_x_Split⟩, ⟨⟩⟩, tblM_ok ⟨⟨call32, sound_i_change⟩, ⟨call33, sound_i_answer⟩, ⟨⟩⟩⟩
def Fo_i_RunLine (d : D8i) (line : ByteArray) : Option ((D8i) × ByteArray) :=
 (if (!(i_IsDesk d)) = true then some ((0, 0, 0, 0, 0, 0, 0, 0), bs []) else (if (splitOK line (bs [32])) = true then (if (decide ((((x_Split line (bs [32])).1 : Nat) : Int) > 2)) = true then some (d, bs [101, 114, 114, 111, 114]) else (if (ok_i_change d ((x_Split line (bs [32])).1) ((x_Split line (bs [32])).2)) = true then (if (!((i_change d ((x_Split line (bs [32])).1) ((x_Split line (bs [32])).2)).2.2.1)) = true then (if (ok_i_answer d ((x_Split line (bs [32])).1) ((x_Split line (bs [32])).2)) = true then (if (((i_answer d ((x_Split line (bs [32])).1) ((x_Split line (bs [32])).2)).2.1) != 0) = true then some (d, bs [101, 114, 114, 111, 114]) else some (((i_answer d ((x_Split line (bs [32])).1) ((x_Split line (bs [32])).2)).2.2.1, (i_answer d ((x_Split line (bs [32])).1) ((x_Split line (bs [32])).2)).2.2.2.1, (i_answer d ((x_Split line (bs [32])).1) ((x_Split line (bs [32])).2)).2.2.2.2.1, (i_answer d ((x_Split line (bs [32])).1) ((x_Split line (bs [32])).2)).2.2.2.2.2.1, (i_answer d ((x_Split line (bs [32])).1) ((x_Split line (bs [32])).2)).2.2.2.2.2.2.1, (i_answer d ((x_Split line (bs [32])).1) ((x_Split line (bs [32])).2)).2.2.2.2.2.2.2.1, (i_answer d ((x_Split line (bs [32])).1) ((x_Split line (bs [32])).2)).2.2.2.2.2.2.2.2.1, (i_answer d ((x_Split line (bs [32])).1) ((x_Split line (bs [32])).2)).2.2.2.2.2.2.2.2.2), (i_answer d ((x_Split line (bs [32])).1) ((x_Split line (bs [32])).2)).1)) else none) else (if (((i_change d ((x_Split line (bs [32])).1) ((x_Split line (bs [32])).2)).2.1) != 0) = true then some (d, bs [101, 114, 114, 111, 114]) else some (((i_change d ((x_Split line (bs [32])).1) ((x_Split line (bs [32])).2)).2.2.2.1, (i_change d ((x_Split line (bs [32])).1) ((x_Split line (bs [32])).2)).2.2.2.2.1, (i_change d ((x_Split line (bs [32])).1) ((x_Split line (bs [32])).2)).2.2.2.2.2.1, (i_change d ((x_Split line (bs [32])).1) ((x_Split line (bs [32])).2)).2.2.2.2.2.2.1, (i_change d ((x_Split line (bs [32])).1) ((x_Split line (bs [32])).2)).2.2.2.2.2.2.2.1, (i_change d ((x_Split line (bs [32])).1) ((x_Split line (bs [32])).2)).2.2.2.2.2.2.2.2.1, (i_change d ((x_Split line (bs [32])).1) ((x_Split line (bs [32])).2)).2.2.2.2.2.2.2.2.2.1, (i_change d ((x_Split line (bs [32])).1) ((x_Split line (bs [32])).2)).2.2.2.2.2.2.2.2.2.2), (i_change d ((x_Split line (bs [32])).1) ((x_Split line (bs [32])).2)).1))) else none)) else none))
theorem eq_i_RunLine (d : D8i) (line : ByteArray) : eT S_i_RunLine 14 41 dec_a8_s [.v (.agg ⟨[.int .i64 d.1, .int .i64 d.2.1, .int .i64 d.2.2.1, .int .i64 d.2.2.2.1, .int .i64 d.2.2.2.2.1, .int .i64 d.2.2.2.2.2.1, .int .i64 d.2.2.2.2.2.2.1, .int .i64 d.2.2.2.2.2.2.2]⟩), .v (.string line)] = Fo_i_RunLine d line := by
 kernel_rfl
def ok_i_RunLine : (D8i) → (ByteArray) → (Bool) := shut fun (d : D8i) (line : ByteArray) => (Fo_i_RunLine d line).isSome
def i_RunLine : (D8i) → (ByteArray) → ((D8i) × ByteArray) := shut fun (d : D8i) (line : ByteArray) => (Fo_i_RunLine d line).getD ((0, 0, 0, 0, 0, 0, 0, 0), .empty)
theorem ok_i_RunLine_of {d : D8i} {line : ByteArray} {r : (D8i) × ByteArray} (e : Fo_i_RunLine d line = some r) : ok_i_RunLine d line = true := by
 unfold ok_i_RunLine
 rw [shut_eq, e]
 rfl
theorem i_RunLine_of {d : D8i} {line : ByteArray} {r : (D8i) × ByteArray} (e : Fo_i_RunLine d line = some r) : i_RunLine d line = r := by
 unfold i_RunLine
 rw [shut_eq, e]
 rfl
theorem tot_i_RunLine (d : D8i) (line : ByteArray) (hp : (ok_i_RunLine d line) = true) : Fo_i_RunLine d line = some (i_RunLine d line) := by
 unfold ok_i_RunLine at hp
 rw [shut_eq] at hp
 unfold i_RunLine
 rw [shut_eq]
 exact of_isSome hp
def run_i_RunLine : RunP
 | [.v (.agg ⟨[.int .i64 d0, .int .i64 d1, .int .i64 d2, .int .i64 d3, .int .i64 d4, .int .i64 d5, .int .i64 d6, .int .i64 d7]⟩), .v (.string line)] => some (ok_i_RunLine (d0, d1, d2, d3, d4, d5, d6, d7) line, enc_a8_s (i_RunLine (d0, d1, d2, d3, d4, d5, d6, d7) line))
 | _ => none
theorem sound_i_RunLine : Sound prog 14 run_i_RunLine := by
 refine sound_1 de_a8_s SO_i_RunLine (by kernel_rfl) func14 ntmps14 rfl (by kernel_rfl) fun q r E => ?_
 unfold run_i_RunLine at E
 split at E
 ·obtain ⟨hp, rfl⟩ := so2 E
  rename_i d0 d1 d2 d3 d4 d5 d6 d7 line
  exact ⟨_, _, rfl, (eq_i_RunLine (d0, d1, d2, d3, d4, d5, d6, d7) line).trans (tot_i_RunLine (d0, d1, d2, d3, d4, d5, d6, d7) line hp)⟩
 ·cases E

end

end Go.Proofs.YtcdpfpfbilfpoaaGreatDoor
