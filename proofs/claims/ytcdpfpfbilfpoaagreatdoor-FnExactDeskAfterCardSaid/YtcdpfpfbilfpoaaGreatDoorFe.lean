import Derived.Test.YtcdpfpfbilfpoaaGreatDoorTc
import Derived.Test.YtcdpfpfbilfpoaaGreatDoorFb
import Derived.Test.YtcdpfpfbilfpoaaGreatDoorFc
import Derived.Test.YtcdpfpfbilfpoaaGreatDoorFd
import Derived.Test.YtcdpfpfbilfpoaaGreatDoorProg
set_option linter.unusedSimpArgs false
set_option linter.unusedVariables false
namespace Go.Proofs.YtcdpfpfbilfpoaaGreatDoor
open Go.RowKit Tryz
noncomputable section
def S_s_IsDesk : Sums := ⟨tblS [(38, run_s_l02Code)], tblM [], false⟩
theorem SO_s_IsDesk : SumsOK prog S_s_IsDesk := ⟨tblS_ok ⟨⟨call38, sound_s_l02Code⟩, ⟨⟩⟩, tM⟩
def Fo_s_IsDesk (d : D8i) : Option (Bool) :=
 some ((s_l02Code d.1 d.2.1 3 [d.2.2.1, d.2.2.2.1, d.2.2.2.2.1, d.2.2.2.2.2.1, d.2.2.2.2.2.2.1, d.2.2.2.2.2.2.2]) == 0)
theorem eq_s_IsDesk (d : D8i) : eT S_s_IsDesk 18 19 dec_b [.v (.agg ⟨[.int .i64 d.1, .int .i64 d.2.1, .int .i64 d.2.2.1, .int .i64 d.2.2.2.1, .int .i64 d.2.2.2.2.1, .int .i64 d.2.2.2.2.2.1, .int .i64 d.2.2.2.2.2.2.1, .int .i64 d.2.2.2.2.2.2.2]⟩)] = Fo_s_IsDesk d := by
 kernel_rfl
def s_IsDesk (d : D8i) : Bool :=
 (s_l02Code d.1 d.2.1 3 [d.2.2.1, d.2.2.2.1, d.2.2.2.2.1, d.2.2.2.2.2.1, d.2.2.2.2.2.2.1, d.2.2.2.2.2.2.2]) == 0
theorem tot_s_IsDesk (d : D8i) : Fo_s_IsDesk d = some (s_IsDesk d) := by
 unfold Fo_s_IsDesk s_IsDesk
 (try simp only [wI_eq])
 repeat' (first | with_reducible rfl | refine ite_opt (fun _ => ?_) (fun _ => ?_) | rfl)
def run_s_IsDesk : RunP
 | [.v (.agg ⟨[.int .i64 d0, .int .i64 d1, .int .i64 d2, .int .i64 d3, .int .i64 d4, .int .i64 d5, .int .i64 d6, .int .i64 d7]⟩)] => some (true, enc_b (s_IsDesk (d0, d1, d2, d3, d4, d5, d6, d7)))
 | _ => none
theorem sound_s_IsDesk : Sound prog 18 run_s_IsDesk := by
 refine sound_1 de_b SO_s_IsDesk (by kernel_rfl) func18 ntmps18 rfl (by kernel_rfl) fun q r E => ?_
 unfold run_s_IsDesk at E
 split at E
 ·obtain ⟨hp, rfl⟩ := so2 E
  rename_i d0 d1 d2 d3 d4 d5 d6 d7
  exact ⟨_, _, rfl, (eq_s_IsDesk (d0, d1, d2, d3, d4, d5, d6, d7)).trans (tot_s_IsDesk (d0, d1, d2, d3, d4, d5, d6, d7))⟩
 ·cases E

def S_s_l11Fresh : Sums := ⟨tblS [], tblM [], false⟩
theorem SO_s_l11Fresh : SumsOK prog S_s_l11Fresh := ⟨tblS_ok ⟨⟩, tM⟩
def Fo_s_l11Fresh (p : Int) : Option (D8i) :=
 some (p, 0, 0, 0, 1, 0, 0, 1)
theorem eq_s_l11Fresh (p : Int) : eT S_s_l11Fresh 43 9 dec_a8 [pI p] = Fo_s_l11Fresh p := by
 kernel_rfl
def s_l11Fresh (p : Int) : D8i :=
 (p, 0, 0, 0, 1, 0, 0, 1)
theorem tot_s_l11Fresh (p : Int) : Fo_s_l11Fresh p = some (s_l11Fresh p) := by
 unfold Fo_s_l11Fresh s_l11Fresh
 (try simp only [wI_eq])
 repeat' (first | with_reducible rfl | refine ite_opt (fun _ => ?_) (fun _ => ?_) | rfl)
def run_s_l11Fresh : RunP
 | [.v (.int .i64 p)] => some (true, enc_a8 (s_l11Fresh p))
 | _ => none
theorem sound_s_l11Fresh : Sound prog 43 run_s_l11Fresh := by
 refine sound_1 de_a8 SO_s_l11Fresh (by kernel_rfl) func43 ntmps43 rfl (by kernel_rfl) fun q r E => ?_
 unfold run_s_l11Fresh at E
 split at E
 ·obtain ⟨hp, rfl⟩ := so2 E
  rename_i p
  exact ⟨_, _, rfl, (eq_s_l11Fresh p).trans (tot_s_l11Fresh p)⟩
 ·cases E

def S_s_l11Yes : Sums := ⟨tblS [], tblM [], false⟩
theorem SO_s_l11Yes : SumsOK prog S_s_l11Yes := ⟨tblS_ok ⟨⟩, tM⟩
def Fo_s_l11Yes (yes : Bool) : Option (ByteArray) :=
 (if yes = true then some (bs [121, 101, 115]) else some (bs [110, 111]))
theorem eq_s_l11Yes (yes : Bool) : eT S_s_l11Yes 192 4 dec_s [.v (.bool yes)] = Fo_s_l11Yes yes := by
 kernel_rfl
def s_l11Yes (yes : Bool) : ByteArray :=
 (if yes = true then bs [121, 101, 115] else bs [110, 111])
theorem tot_s_l11Yes (yes : Bool) : Fo_s_l11Yes yes = some (s_l11Yes yes) := by
 unfold Fo_s_l11Yes s_l11Yes
 (try simp only [wI_eq])
 repeat' (first | with_reducible rfl | refine ite_opt (fun _ => ?_) (fun _ => ?_) | rfl)
def run_s_l11Yes : RunP
 | [.v (.bool yes)] => some (true, enc_s (s_l11Yes yes))
 | _ => none
theorem sound_s_l11Yes : Sound prog 192 run_s_l11Yes := by
 refine sound_1 de_s SO_s_l11Yes (by kernel_rfl) func192 ntmps192 rfl (by kernel_rfl) fun q r E => ?_
 unfold run_s_l11Yes at E
 split at E
 ·obtain ⟨hp, rfl⟩ := so2 E
  rename_i yes
  exact ⟨_, _, rfl, (eq_s_l11Yes yes).trans (tot_s_l11Yes yes)⟩
 ·cases E

def S_s_l11Some : Sums := ⟨tblS [(147, run_s_LineThrough), (236, run_s_MedianOf), (237, run_s_AltitudeOf), (238, run_s_EulerLineOf), (239, run_s_NullLines), (240, run_s_ThreeEulerLines)], tblM [], false⟩
theorem SO_s_l11Some : SumsOK prog S_s_l11Some := ⟨tblS_ok ⟨⟨call147, sound_s_LineThrough⟩, ⟨call236, sound_s_MedianOf⟩, ⟨call237, sound_s_AltitudeOf⟩, ⟨call238, sound_s_EulerLineOf⟩, ⟨call239, sound_s_NullLines⟩, ⟨call240, sound_s_ThreeEulerLines⟩, ⟨⟩⟩, tM⟩
def Fo_s_l11Some (p colour : Int) (a b c : P2) (command : ByteArray) : Option ((Nat × List Int) × Int) :=
 (if (eqS command (bs [115, 105, 100, 101])) = true then some ((1, [((s_LineThrough p b c).1).1, ((s_LineThrough p b c).1).2.1, ((s_LineThrough p b c).1).2.2]), (s_LineThrough p b c).2) else (if (eqS command (bs [109, 101, 100, 105, 97, 110])) = true then some ((1, [((s_MedianOf p a b c).1).1, ((s_MedianOf p a b c).1).2.1, ((s_MedianOf p a b c).1).2.2]), (s_MedianOf p a b c).2) else (if (eqS command (bs [97, 108, 116, 105, 116, 117, 100, 101])) = true then some ((1, [((s_AltitudeOf p colour a b c).1).1, ((s_AltitudeOf p colour a b c).1).2.1, ((s_AltitudeOf p colour a b c).1).2.2]), (s_AltitudeOf p colour a b c).2) else (if (eqS command (bs [101, 117, 108, 101, 114])) = true then some ((1, [((s_EulerLineOf p colour a b c).1).1, ((s_EulerLineOf p colour a b c).1).2.1, ((s_EulerLineOf p colour a b c).1).2.2]), (s_EulerLineOf p colour a b c).2) else (if (eqS command (bs [110, 117, 108, 108])) = true then some ((((s_NullLines p colour a).1).1, ((s_NullLines p colour a).1).2), (s_NullLines p colour a).2) else (if (eqS command (bs [101, 117, 108, 101, 114, 115])) = true then some ((((s_ThreeEulerLines p a b c).1).1, ((s_ThreeEulerLines p a b c).1).2), (s_ThreeEulerLines p a b c).2) else some ((0, []), 6)))))))
theorem eq_s_l11Some (p colour : Int) (a b c : P2) (command : ByteArray) : eT S_s_l11Some 201 79 dec_l90_3_i [pI p, pI colour, pA a, pA b, pA c, .v (.string command)] = Fo_s_l11Some p colour a b c command := by
 kernel_rfl
def ok_s_l11Some : (Int) → (Int) → (Int × Int) → (Int × Int) → (Int × Int) → (ByteArray) → (Bool) := shut fun (p colour : Int) (a b c : P2) (command : ByteArray) => (Fo_s_l11Some p colour a b c command).isSome
def s_l11Some : (Int) → (Int) → (Int × Int) → (Int × Int) → (Int × Int) → (ByteArray) → ((Nat × List Int) × Int) := shut fun (p colour : Int) (a b c : P2) (command : ByteArray) => (Fo_s_l11Some p colour a b c command).getD ((0, []), 0)
theorem ok_s_l11Some_of {p colour : Int} {a b c : P2} {command : ByteArray} {r : (Nat × List Int) × Int} (e : Fo_s_l11Some p colour a b c command = some r) : ok_s_l11Some p colour a b c command = true := by
 unfold ok_s_l11Some
 rw [shut_eq, e]
 rfl
theorem s_l11Some_of {p colour : Int} {a b c : P2} {command : ByteArray} {r : (Nat × List Int) × Int} (e : Fo_s_l11Some p colour a b c command = some r) : s_l11Some p colour a b c command = r := by
 unfold s_l11Some
 rw [shut_eq, e]
 rfl
theorem tot_s_l11Some (p colour : Int) (a b c : P2) (command : ByteArray) (hp : (ok_s_l11Some p colour a b c command) = true) : Fo_s_l11Some p colour a b c command = some (s_l11Some p colour a b c command) := by
 unfold ok_s_l11Some at hp
 rw [shut_eq] at hp
 unfold s_l11Some
 rw [shut_eq]
 exact of_isSome hp
def run_s_l11Some : RunP
 | [.v (.int .i64 p), .v (.int .i64 colour), .v (.agg ⟨[.int .i64 a0, .int .i64 a1]⟩), .v (.agg ⟨[.int .i64 b0, .int .i64 b1]⟩), .v (.agg ⟨[.int .i64 c0, .int .i64 c1]⟩), .v (.string command)] => some (ok_s_l11Some p colour (a0, a1) (b0, b1) (c0, c1) command, enc_l90_3_i (s_l11Some p colour (a0, a1) (b0, b1) (c0, c1) command))
 | _ => none
theorem sound_s_l11Some : Sound prog 201 run_s_l11Some := by
 refine sound_1 de_l90_3_i SO_s_l11Some (by kernel_rfl) func201 ntmps201 rfl (by kernel_rfl) fun q r E => ?_
 unfold run_s_l11Some at E
 split at E
 ·obtain ⟨hp, rfl⟩ := so2 E
  rename_i p colour a0 a1 b0 b1 c0 c1 command
  exact ⟨_, _, rfl, (eq_s_l11Some p colour (a0, a1) (b0, b1) (c0, c1) command).trans (tot_s_l11Some p colour (a0, a1) (b0, b1) (c0, c1) command hp)⟩
 ·cases E

def S_s_l11Ask : Sums := ⟨tblS [(145, run_s_l11Points), (188, run_s_l11List), (189, run_s_DoubledArea), (46, run_s_l01Dec), (190, run_s_l02Quadrance), (191, run_s_HasRightAngle), (192, run_s_l11Yes), (193, run_s_SpreadAt), (194, run_s_QuadreaOf), (195, run_s_CentroidOf), (48, run_s_l11Point), (196, run_s_CircleThrough), (197, run_s_OrthicPoints), (198, run_s_OmegaPoints), (199, run_s_RightColours), (200, run_s_UnitCounts), (201, run_s_l11Some), (202, run_s_l11Lines)], tblM [], false⟩
theorem SO_s_l11Ask : SumsOK prog S_s_l11Ask := ⟨tblS_ok ⟨⟨call145, sound_s_l11Points⟩, ⟨call188, sound_s_l11List⟩, ⟨call189, sound_s_DoubledArea⟩, ⟨call46, sound_s_l01Dec⟩, ⟨call190, sound_s_l02Quadrance⟩, ⟨call191, sound_s_HasRightAngle⟩, ⟨call192, sound_s_l11Yes⟩, ⟨call193, sound_s_SpreadAt⟩, ⟨call194, sound_s_QuadreaOf⟩, ⟨call195, sound_s_CentroidOf⟩, ⟨call48, sound_s_l11Point⟩, ⟨call196, sound_s_CircleThrough⟩, ⟨call197, sound_s_OrthicPoints⟩, ⟨call198, sound_s_OmegaPoints⟩, ⟨call199, sound_s_RightColours⟩, ⟨call200, sound_s_UnitCounts⟩, ⟨call201, sound_s_l11Some⟩, ⟨call202, sound_s_l11Lines⟩, ⟨⟩⟩, tM⟩
def Fo_s_l11Ask (p colour : Int) (a b c : P2) (command : ByteArray) : Option (ByteArray × Int) :=
 (if (eqS command (bs [115, 104, 111, 119])) = true then (if (ptsB 3 [a.1, a.2, b.1, b.2, c.1, c.2]) = true then some ((s_l11Points 3 [a.1, a.2, b.1, b.2, c.1, c.2]), 0) else none) else (if (eqS command (bs [102, 105, 101, 108, 100])) = true then (if (numB 2 [p, colour]) = true then some ((s_l11List 2 [p, colour]), 0) else none) else (if (eqS command (bs [97, 114, 101, 97])) = true then (if (decOK ((s_DoubledArea p a b c).1)) = true then some ((s_l01Dec ((s_DoubledArea p a b c).1)), (s_DoubledArea p a b c).2) else none) else (if (eqS command (bs [113, 117, 97, 100, 114, 97, 110, 99, 101, 115])) = true then (if (prB p) = true then (if (prB p) = true then (if (prB p) = true then (if (numB 3 [(s_l02Quadrance p colour b c), (s_l02Quadrance p colour a c), (s_l02Quadrance p colour a b)]) = true then some ((s_l11List 3 [(s_l02Quadrance p colour b c), (s_l02Quadrance p colour a c), (s_l02Quadrance p colour a b)]), 0) else none) else none) else none) else none) else (if (eqS command (bs [114, 105, 103, 104, 116])) = true then some ((s_l11Yes ((s_HasRightAngle p colour a b c).1)), (s_HasRightAngle p colour a b c).2) else (if (eqS command (bs [115, 112, 114, 101, 97, 100])) = true then (if (decOK ((s_SpreadAt p colour a b c).1)) = true then some ((s_l01Dec ((s_SpreadAt p colour a b c).1)), (s_SpreadAt p colour a b c).2) else none) else (if (eqS command (bs [113, 117, 97, 100, 114, 101, 97])) = true then (if (decOK ((s_QuadreaOf p colour a b c).1)) = true then some ((s_l01Dec ((s_QuadreaOf p colour a b c).1)), (s_QuadreaOf p colour a b c).2) else none) else (if (eqS command (bs [99, 101, 110, 116, 114, 111, 105, 100])) = true then (if (num2 ((s_CentroidOf p a b c).1)) = true then some ((s_l11Point ((s_CentroidOf p a b c).1)), (s_CentroidOf p a b c).2) else none) else (if (eqS command (bs [99, 105, 114, 99, 108, 101])) = true then (if (num2 (((s_CircleThrough p colour a b c).1).1, ((s_CircleThrough p colour a b c).1).2.1)) = true then (if (Nat.ble ((s_l11Point (((s_CircleThrough p colour a b c).1).1, ((s_CircleThrough p colour a b c).1).2.1)).size + (bs [32]).size) 9223372036854775807) = true then (if (decOK (((s_CircleThrough p colour a b c).1).2.2)) = true then (if (Nat.ble (((s_l11Point (((s_CircleThrough p colour a b c).1).1, ((s_CircleThrough p colour a b c).1).2.1)) ++ (bs [32])).size + (s_l01Dec (((s_CircleThrough p colour a b c).1).2.2)).size) 9223372036854775807) = true then some (((s_l11Point (((s_CircleThrough p colour a b c).1).1, ((s_CircleThrough p colour a b c).1).2.1)) ++ (bs [32])) ++ (s_l01Dec (((s_CircleThrough p colour a b c).1).2.2)), (s_CircleThrough p colour a b c).2) else none) else none) else none) else none) else (if (eqS command (bs [111, 114, 116, 104, 105, 99])) = true then (if (ptsB (((s_OrthicPoints p colour a b c).1).1) (((s_OrthicPoints p colour a b c).1).2)) = true then some ((s_l11Points (((s_OrthicPoints p colour a b c).1).1) (((s_OrthicPoints p colour a b c).1).2)), (s_OrthicPoints p colour a b c).2) else none) else (if (eqS command (bs [111, 109, 101, 103, 97])) = true then (if (ptsB (((s_OmegaPoints p a b c).1).1) (((s_OmegaPoints p a b c).1).2)) = true then some ((s_l11Points (((s_OmegaPoints p a b c).1).1) (((s_OmegaPoints p a b c).1).2)), (s_OmegaPoints p a b c).2) else none) else (if (eqS command (bs [114, 105, 103, 104, 116, 115])) = true then (if (numB (((s_RightColours p a b c).1).1) (((s_RightColours p a b c).1).2)) = true then some ((s_l11List (((s_RightColours p a b c).1).1) (((s_RightColours p a b c).1).2)), (s_RightColours p a b c).2) else none) else (if (eqS command (bs [117, 110, 105, 116, 115])) = true then (if (numB (((s_UnitCounts p).1).1) (((s_UnitCounts p).1).2)) = true then some ((s_l11List (((s_UnitCounts p).1).1) (((s_UnitCounts p).1).2)), (s_UnitCounts p).2) else none) else (if (ok_s_l11Some p colour a b c command) = true then (if (lnsB (((s_l11Some p colour a b c command).1).1) (((s_l11Some p colour a b c command).1).2)) = true then some ((s_l11Lines (((s_l11Some p colour a b c command).1).1) (((s_l11Some p colour a b c command).1).2)), (s_l11Some p colour a b c command).2) else none) else none))))))))))))))
theorem eq_s_l11Ask (p colour : Int) (a b c : P2) (command : ByteArray) : eT S_s_l11Ask 151 220 dec_s_i [pI p, pI colour, pA a, pA b, pA c, .v (.string command)] = Fo_s_l11Ask p colour a b c command := by
 kernel_rfl
def ok_s_l11Ask : (Int) → (Int) → (Int × Int) → (Int × Int) → (Int × Int) → (ByteArray) → (Bool) := shut fun (p colour : Int) (a b c : P2) (command : ByteArray) => (Fo_s_l11Ask p colour a b c command).isSome
def s_l11Ask : (Int) → (Int) → (Int × Int) → (Int × Int) → (Int × Int) → (ByteArray) → (ByteArray × Int) := shut fun (p colour : Int) (a b c : P2) (command : ByteArray) => (Fo_s_l11Ask p colour a b c command).getD (.empty, 0)
theorem ok_s_l11Ask_of {p colour : Int} {a b c : P2} {command : ByteArray} {r : ByteArray × Int} (e : Fo_s_l11Ask p colour a b c command = some r) : ok_s_l11Ask p colour a b c command = true := by
 unfold ok_s_l11Ask
 rw [shut_eq, e]
 rfl
theorem s_l11Ask_of {p colour : Int} {a b c : P2} {command : ByteArray} {r : ByteArray × Int} (e : Fo_s_l11Ask p colour a b c command = some r) : s_l11Ask p colour a b c command = r := by
 unfold s_l11Ask
 rw [shut_eq, e]
 rfl
theorem tot_s_l11Ask (p colour : Int) (a b c : P2) (command : ByteArray) (hp : (ok_s_l11Ask p colour a b c command) = true) : Fo_s_l11Ask p colour a b c command = some (s_l11Ask p colour a b c command) := by
 unfold ok_s_l11Ask at hp
 rw [shut_eq] at hp
 unfold s_l11Ask
 rw [shut_eq]
 exact of_isSome hp
def run_s_l11Ask : RunP
 | [.v (.int .i64 p), .v (.int .i64 colour), .v (.agg ⟨[.int .i64 a0, .int .i64 a1]⟩), .v (.agg ⟨[.int .i64 b0, .int .i64 b1]⟩), .v (.agg ⟨[.int .i64 c0, .int .i64 c1]⟩), .v (.string command)] => some (ok_s_l11Ask p colour (a0, a1) (b0, b1) (c0, c1) command, enc_s_i (s_l11Ask p colour (a0, a1) (b0, b1) (c0, c1) command))
 | _ => none
theorem sound_s_l11Ask : Sound prog 151 run_s_l11Ask := by
 refine sound_1 de_s_i SO_s_l11Ask (by kernel_rfl) func151 ntmps151 rfl (by kernel_rfl) fun q r E => ?_
 unfold run_s_l11Ask at E
 split at E
 ·obtain ⟨hp, rfl⟩ := so2 E
  rename_i p colour a0 a1 b0 b1 c0 c1 command
  exact ⟨_, _, rfl, (eq_s_l11Ask p colour (a0, a1) (b0, b1) (c0, c1) command).trans (tot_s_l11Ask p colour (a0, a1) (b0, b1) (c0, c1) command hp)⟩
 ·cases E

def S_s_l11Put : Sums := ⟨tblS [(48, run_s_l11Point)], tblM [], false⟩
theorem SO_s_l11Put : SumsOK prog S_s_l11Put := ⟨tblS_ok ⟨⟨call48, sound_s_l11Point⟩, ⟨⟩⟩, tM⟩
def Fo_s_l11Put (d : D8i) (i : Int) (a : P2) (code : Int) : Option ((D8i) × ByteArray × Int) :=
 (if (code != 0) = true then some (d, bs [], code) else (if (decide (0 ≤ i) && decide (i < ((3 : Nat) : Int))) = true then (if (Nat.ble (2 + (i.toNat * 2) + 2) 8) = true then (if (num2 a) = true then some ((bif Nat.beq (2 + (i.toNat * 2) + 1) 0 then a.2 else (bif Nat.beq (2 + (i.toNat * 2)) 0 then a.1 else d.1), bif Nat.beq (2 + (i.toNat * 2) + 1) 1 then a.2 else (bif Nat.beq (2 + (i.toNat * 2)) 1 then a.1 else d.2.1), bif Nat.beq (2 + (i.toNat * 2) + 1) 2 then a.2 else (bif Nat.beq (2 + (i.toNat * 2)) 2 then a.1 else d.2.2.1), bif Nat.beq (2 + (i.toNat * 2) + 1) 3 then a.2 else (bif Nat.beq (2 + (i.toNat * 2)) 3 then a.1 else d.2.2.2.1), bif Nat.beq (2 + (i.toNat * 2) + 1) 4 then a.2 else (bif Nat.beq (2 + (i.toNat * 2)) 4 then a.1 else d.2.2.2.2.1), bif Nat.beq (2 + (i.toNat * 2) + 1) 5 then a.2 else (bif Nat.beq (2 + (i.toNat * 2)) 5 then a.1 else d.2.2.2.2.2.1), bif Nat.beq (2 + (i.toNat * 2) + 1) 6 then a.2 else (bif Nat.beq (2 + (i.toNat * 2)) 6 then a.1 else d.2.2.2.2.2.2.1), bif Nat.beq (2 + (i.toNat * 2) + 1) 7 then a.2 else (bif Nat.beq (2 + (i.toNat * 2)) 7 then a.1 else d.2.2.2.2.2.2.2)), (s_l11Point a), 0) else none) else none) else none))
theorem eq_s_l11Put (d : D8i) (i : Int) (a : P2) (code : Int) : eT S_s_l11Put 93 22 dec_a8_s_i [.v (.agg ⟨[.int .i64 d.1, .int .i64 d.2.1, .int .i64 d.2.2.1, .int .i64 d.2.2.2.1, .int .i64 d.2.2.2.2.1, .int .i64 d.2.2.2.2.2.1, .int .i64 d.2.2.2.2.2.2.1, .int .i64 d.2.2.2.2.2.2.2]⟩), pI i, pA a, pI code] = Fo_s_l11Put d i a code := by
 kernel_rfl
def ok_s_l11Put : (D8i) → (Int) → (Int × Int) → (Int) → (Bool) := shut fun (d : D8i) (i : Int) (a : P2) (code : Int) => (Fo_s_l11Put d i a code).isSome
def s_l11Put : (D8i) → (Int) → (Int × Int) → (Int) → ((D8i) × ByteArray × Int) := shut fun (d : D8i) (i : Int) (a : P2) (code : Int) => (Fo_s_l11Put d i a code).getD ((0, 0, 0, 0, 0, 0, 0, 0), .empty, 0)
theorem ok_s_l11Put_of {d : D8i} {i : Int} {a : P2} {code : Int} {r : (D8i) × ByteArray × Int} (e : Fo_s_l11Put d i a code = some r) : ok_s_l11Put d i a code = true := by
 unfold ok_s_l11Put
 rw [shut_eq, e]
 rfl
theorem s_l11Put_of {d : D8i} {i : Int} {a : P2} {code : Int} {r : (D8i) × ByteArray × Int} (e : Fo_s_l11Put d i a code = some r) : s_l11Put d i a code = r := by
 unfold s_l11Put
 rw [shut_eq, e]
 rfl
theorem tot_s_l11Put (d : D8i) (i : Int) (a : P2) (code : Int) (hp : (ok_s_l11Put d i a code) = true) : Fo_s_l11Put d i a code = some (s_l11Put d i a code) := by
 unfold ok_s_l11Put at hp
 rw [shut_eq] at hp
 unfold s_l11Put
 rw [shut_eq]
 exact of_isSome hp
def run_s_l11Put : RunP
 | [.v (.agg ⟨[.int .i64 d0, .int .i64 d1, .int .i64 d2, .int .i64 d3, .int .i64 d4, .int .i64 d5, .int .i64 d6, .int .i64 d7]⟩), .v (.int .i64 i), .v (.agg ⟨[.int .i64 a0, .int .i64 a1]⟩), .v (.int .i64 code)] => some (ok_s_l11Put (d0, d1, d2, d3, d4, d5, d6, d7) i (a0, a1) code, enc_a8_s_i (s_l11Put (d0, d1, d2, d3, d4, d5, d6, d7) i (a0, a1) code))
 | _ => none
theorem sound_s_l11Put : Sound prog 93 run_s_l11Put := by
 refine sound_1 de_a8_s_i SO_s_l11Put (by kernel_rfl) func93 ntmps93 rfl (by kernel_rfl) fun q r E => ?_
 unfold run_s_l11Put at E
 split at E
 ·obtain ⟨hp, rfl⟩ := so2 E
  rename_i d0 d1 d2 d3 d4 d5 d6 d7 i a0 a1 code
  exact ⟨_, _, rfl, (eq_s_l11Put (d0, d1, d2, d3, d4, d5, d6, d7) i (a0, a1) code).trans (tot_s_l11Put (d0, d1, d2, d3, d4, d5, d6, d7) i (a0, a1) code hp)⟩
 ·cases E

def S_s_l11Alone : Sums := ⟨tblS [(145, run_s_l11Points), (146, run_s_MidpointOf), (93, run_s_l11Put), (147, run_s_LineThrough), (148, run_s_FootOf), (149, run_s_CircumcentreOf), (150, run_s_OrthocentreOf), (43, run_s_l11Fresh), (151, run_s_l11Ask)], tblM [], false⟩
theorem SO_s_l11Alone : SumsOK prog S_s_l11Alone := ⟨tblS_ok ⟨⟨call145, sound_s_l11Points⟩, ⟨call146, sound_s_MidpointOf⟩, ⟨call93, sound_s_l11Put⟩, ⟨call147, sound_s_LineThrough⟩, ⟨call148, sound_s_FootOf⟩, ⟨call149, sound_s_CircumcentreOf⟩, ⟨call150, sound_s_OrthocentreOf⟩, ⟨call43, sound_s_l11Fresh⟩, ⟨call151, sound_s_l11Ask⟩, ⟨⟩⟩, tM⟩
def Fo_s_l11Alone (d : D8i) (command : ByteArray) : Option ((D8i) × ByteArray × Int) :=
 (if (eqS command (bs [116, 117, 114, 110])) = true then (if (ptsB 3 [d.2.2.2.2.1, d.2.2.2.2.2.1, d.2.2.2.2.2.2.1, d.2.2.2.2.2.2.2, d.2.2.1, d.2.2.2.1]) = true then some ((d.1, d.2.1, d.2.2.2.2.1, d.2.2.2.2.2.1, d.2.2.2.2.2.2.1, d.2.2.2.2.2.2.2, d.2.2.1, d.2.2.2.1), (s_l11Points 3 [d.2.2.2.2.1, d.2.2.2.2.2.1, d.2.2.2.2.2.2.1, d.2.2.2.2.2.2.2, d.2.2.1, d.2.2.2.1]), 0) else none) else (if (eqS command (bs [109, 105, 100, 100, 108, 101])) = true then (if (ok_s_l11Put d 0 ((s_MidpointOf d.1 (d.2.2.1, d.2.2.2.1) (d.2.2.2.2.1, d.2.2.2.2.2.1)).1) ((s_MidpointOf d.1 (d.2.2.1, d.2.2.2.1) (d.2.2.2.2.1, d.2.2.2.2.2.1)).2)) = true then some (((s_l11Put d 0 ((s_MidpointOf d.1 (d.2.2.1, d.2.2.2.1) (d.2.2.2.2.1, d.2.2.2.2.2.1)).1) ((s_MidpointOf d.1 (d.2.2.1, d.2.2.2.1) (d.2.2.2.2.1, d.2.2.2.2.2.1)).2)).1), (s_l11Put d 0 ((s_MidpointOf d.1 (d.2.2.1, d.2.2.2.1) (d.2.2.2.2.1, d.2.2.2.2.2.1)).1) ((s_MidpointOf d.1 (d.2.2.1, d.2.2.2.1) (d.2.2.2.2.1, d.2.2.2.2.2.1)).2)).2.1, (s_l11Put d 0 ((s_MidpointOf d.1 (d.2.2.1, d.2.2.2.1) (d.2.2.2.2.1, d.2.2.2.2.2.1)).1) ((s_MidpointOf d.1 (d.2.2.1, d.2.2.2.1) (d.2.2.2.2.1, d.2.2.2.2.2.1)).2)).2.2) else none) else (if (eqS command (bs [102, 111, 111, 116])) = true then (if (((s_LineThrough d.1 (d.2.2.2.2.1, d.2.2.2.2.2.1) d.2.2.2.2.2.2).2) != 0) = true then some (d, bs [], (s_LineThrough d.1 (d.2.2.2.2.1, d.2.2.2.2.2.1) d.2.2.2.2.2.2).2) else (if (ok_s_l11Put d 0 ((s_FootOf d.1 d.2.1 (d.2.2.1, d.2.2.2.1) ((s_LineThrough d.1 (d.2.2.2.2.1, d.2.2.2.2.2.1) d.2.2.2.2.2.2).1)).1) ((s_FootOf d.1 d.2.1 (d.2.2.1, d.2.2.2.1) ((s_LineThrough d.1 (d.2.2.2.2.1, d.2.2.2.2.2.1) d.2.2.2.2.2.2).1)).2)) = true then some (((s_l11Put d 0 ((s_FootOf d.1 d.2.1 (d.2.2.1, d.2.2.2.1) ((s_LineThrough d.1 (d.2.2.2.2.1, d.2.2.2.2.2.1) d.2.2.2.2.2.2).1)).1) ((s_FootOf d.1 d.2.1 (d.2.2.1, d.2.2.2.1) ((s_LineThrough d.1 (d.2.2.2.2.1, d.2.2.2.2.2.1) d.2.2.2.2.2.2).1)).2)).1), (s_l11Put d 0 ((s_FootOf d.1 d.2.1 (d.2.2.1, d.2.2.2.1) ((s_LineThrough d.1 (d.2.2.2.2.1, d.2.2.2.2.2.1) d.2.2.2.2.2.2).1)).1) ((s_FootOf d.1 d.2.1 (d.2.2.1, d.2.2.2.1) ((s_LineThrough d.1 (d.2.2.2.2.1, d.2.2.2.2.2.1) d.2.2.2.2.2.2).1)).2)).2.1, (s_l11Put d 0 ((s_FootOf d.1 d.2.1 (d.2.2.1, d.2.2.2.1) ((s_LineThrough d.1 (d.2.2.2.2.1, d.2.2.2.2.2.1) d.2.2.2.2.2.2).1)).1) ((s_FootOf d.1 d.2.1 (d.2.2.1, d.2.2.2.1) ((s_LineThrough d.1 (d.2.2.2.2.1, d.2.2.2.2.2.1) d.2.2.2.2.2.2).1)).2)).2.2) else none)) else (if (eqS command (bs [99, 101, 110, 116, 114, 101])) = true then (if (ok_s_l11Put d 0 ((s_CircumcentreOf d.1 d.2.1 (d.2.2.1, d.2.2.2.1) (d.2.2.2.2.1, d.2.2.2.2.2.1) d.2.2.2.2.2.2).1) ((s_CircumcentreOf d.1 d.2.1 (d.2.2.1, d.2.2.2.1) (d.2.2.2.2.1, d.2.2.2.2.2.1) d.2.2.2.2.2.2).2)) = true then some (((s_l11Put d 0 ((s_CircumcentreOf d.1 d.2.1 (d.2.2.1, d.2.2.2.1) (d.2.2.2.2.1, d.2.2.2.2.2.1) d.2.2.2.2.2.2).1) ((s_CircumcentreOf d.1 d.2.1 (d.2.2.1, d.2.2.2.1) (d.2.2.2.2.1, d.2.2.2.2.2.1) d.2.2.2.2.2.2).2)).1), (s_l11Put d 0 ((s_CircumcentreOf d.1 d.2.1 (d.2.2.1, d.2.2.2.1) (d.2.2.2.2.1, d.2.2.2.2.2.1) d.2.2.2.2.2.2).1) ((s_CircumcentreOf d.1 d.2.1 (d.2.2.1, d.2.2.2.1) (d.2.2.2.2.1, d.2.2.2.2.2.1) d.2.2.2.2.2.2).2)).2.1, (s_l11Put d 0 ((s_CircumcentreOf d.1 d.2.1 (d.2.2.1, d.2.2.2.1) (d.2.2.2.2.1, d.2.2.2.2.2.1) d.2.2.2.2.2.2).1) ((s_CircumcentreOf d.1 d.2.1 (d.2.2.1, d.2.2.2.1) (d.2.2.2.2.1, d.2.2.2.2.2.1) d.2.2.2.2.2.2).2)).2.2) else none) else (if (eqS command (bs [104, 105, 103, 104])) = true then (if (ok_s_l11Put d 0 ((s_OrthocentreOf d.1 d.2.1 (d.2.2.1, d.2.2.2.1) (d.2.2.2.2.1, d.2.2.2.2.2.1) d.2.2.2.2.2.2).1) ((s_OrthocentreOf d.1 d.2.1 (d.2.2.1, d.2.2.2.1) (d.2.2.2.2.1, d.2.2.2.2.2.1) d.2.2.2.2.2.2).2)) = true then some (((s_l11Put d 0 ((s_OrthocentreOf d.1 d.2.1 (d.2.2.1, d.2.2.2.1) (d.2.2.2.2.1, d.2.2.2.2.2.1) d.2.2.2.2.2.2).1) ((s_OrthocentreOf d.1 d.2.1 (d.2.2.1, d.2.2.2.1) (d.2.2.2.2.1, d.2.2.2.2.2.1) d.2.2.2.2.2.2).2)).1), (s_l11Put d 0 ((s_OrthocentreOf d.1 d.2.1 (d.2.2.1, d.2.2.2.1) (d.2.2.2.2.1, d.2.2.2.2.2.1) d.2.2.2.2.2.2).1) ((s_OrthocentreOf d.1 d.2.1 (d.2.2.1, d.2.2.2.1) (d.2.2.2.2.1, d.2.2.2.2.2.1) d.2.2.2.2.2.2).2)).2.1, (s_l11Put d 0 ((s_OrthocentreOf d.1 d.2.1 (d.2.2.1, d.2.2.2.1) (d.2.2.2.2.1, d.2.2.2.2.2.1) d.2.2.2.2.2.2).1) ((s_OrthocentreOf d.1 d.2.1 (d.2.2.1, d.2.2.2.1) (d.2.2.2.2.1, d.2.2.2.2.2.1) d.2.2.2.2.2.2).2)).2.2) else none) else (if (eqS command (bs [114, 101, 115, 101, 116])) = true then some ((s_l11Fresh 7), bs [111, 107], 0) else (if (ok_s_l11Ask d.1 d.2.1 (d.2.2.1, d.2.2.2.1) (d.2.2.2.2.1, d.2.2.2.2.2.1) d.2.2.2.2.2.2 command) = true then some (d, (s_l11Ask d.1 d.2.1 (d.2.2.1, d.2.2.2.1) (d.2.2.2.2.1, d.2.2.2.2.2.1) d.2.2.2.2.2.2 command).1, (s_l11Ask d.1 d.2.1 (d.2.2.1, d.2.2.2.1) (d.2.2.2.2.1, d.2.2.2.2.2.1) d.2.2.2.2.2.2 command).2) else none)))))))
theorem eq_s_l11Alone (d : D8i) (command : ByteArray) : eT S_s_l11Alone 91 123 dec_a8_s_i [.v (.agg ⟨[.int .i64 d.1, .int .i64 d.2.1, .int .i64 d.2.2.1, .int .i64 d.2.2.2.1, .int .i64 d.2.2.2.2.1, .int .i64 d.2.2.2.2.2.1, .int .i64 d.2.2.2.2.2.2.1, .int .i64 d.2.2.2.2.2.2.2]⟩), .v (.string command)] = Fo_s_l11Alone d command := by
 kernel_rfl
def ok_s_l11Alone : (D8i) → (ByteArray) → (Bool) := shut fun (d : D8i) (command : ByteArray) => (Fo_s_l11Alone d command).isSome
def s_l11Alone : (D8i) → (ByteArray) → ((D8i) × ByteArray × Int) := shut fun (d : D8i) (command : ByteArray) => (Fo_s_l11Alone d command).getD ((0, 0, 0, 0, 0, 0, 0, 0), .empty, 0)
theorem ok_s_l11Alone_of {d : D8i} {command : ByteArray} {r : (D8i) × ByteArray × Int} (e : Fo_s_l11Alone d command = some r) : ok_s_l11Alone d command = true := by
 unfold ok_s_l11Alone
 rw [shut_eq, e]
 rfl
theorem s_l11Alone_of {d : D8i} {command : ByteArray} {r : (D8i) × ByteArray × Int} (e : Fo_s_l11Alone d command = some r) : s_l11Alone d command = r := by
 unfold s_l11Alone
 rw [shut_eq, e]
 rfl
theorem tot_s_l11Alone (d : D8i) (command : ByteArray) (hp : (ok_s_l11Alone d command) = true) : Fo_s_l11Alone d command = some (s_l11Alone d command) := by
 unfold ok_s_l11Alone at hp
 rw [shut_eq] at hp
 unfold s_l11Alone
 rw [shut_eq]
 exact of_isSome hp
def run_s_l11Alone : RunP
 | [.v (.agg ⟨[.int .i64 d0, .int .i64 d1, .int .i64 d2, .int .i64 d3, .int .i64 d4, .int .i64 d5, .int .i64 d6, .int .i64 d7]⟩), .v (.string command)] => some (ok_s_l11Alone (d0, d1, d2, d3, d4, d5, d6, d7) command, enc_a8_s_i (s_l11Alone (d0, d1, d2, d3, d4, d5, d6, d7) command))
 | _ => none
theorem sound_s_l11Alone : Sound prog 91 run_s_l11Alone := by
 refine sound_1 de_a8_s_i SO_s_l11Alone (by kernel_rfl) func91 ntmps91 rfl (by kernel_rfl) fun q r E => ?_
 unfold run_s_l11Alone at E
 split at E
 ·obtain ⟨hp, rfl⟩ := so2 E
  rename_i d0 d1 d2 d3 d4 d5 d6 d7 command
  exact ⟨_, _, rfl, (eq_s_l11Alone (d0, d1, d2, d3, d4, d5, d6, d7) command).trans (tot_s_l11Alone (d0, d1, d2, d3, d4, d5, d6, d7) command hp)⟩
 ·cases E

def S_s_ParsePoint : Sums := ⟨tblS [(152, run_s_l01Numbers), (153, run_s_l01Parts)], tblM [], false⟩
theorem SO_s_ParsePoint : SumsOK prog S_s_ParsePoint := ⟨tblS_ok ⟨⟨call152, sound_s_l01Numbers⟩, ⟨call153, sound_s_l01Parts⟩, ⟨⟩⟩, tM⟩
def Fo_s_ParsePoint (p : Int) (text : ByteArray) : Option ((Int × Int) × Int) :=
 (if ((s_l01Numbers p []) != 0) = true then some ((0, 0), (s_l01Numbers p [])) else (if (Nat.ble text.size 1048576) = true then (if ((((s_l01Parts text).1 : Nat) : Int) != 2) = true then some ((0, 0), 6) else (if (lenB ((s_l01Parts text).1) 1 ((s_l01Parts text).2)) = true then (if ((s_l01Numbers p ((s_l01Parts text).2)) != 0) = true then some ((0, 0), 6) else (if (decide (0 ≤ 0) && decide (0 < (((s_l01Parts text).1 : Nat) : Int))) = true then (if (Nat.ble (1) (((s_l01Parts text).2).length)) = true then (if (decide (0 ≤ 1) && decide (1 < (((s_l01Parts text).1 : Nat) : Int))) = true then (if (Nat.ble (2) (((s_l01Parts text).2).length)) = true then some ((((s_l01Parts text).2).getD 0 0, ((s_l01Parts text).2).getD 1 0), 0) else none) else none) else none) else none)) else none)) else none))
theorem eq_s_ParsePoint (p : Int) (text : ByteArray) : eT S_s_ParsePoint 92 33 dec_a2_i [pI p, .v (.string text)] = Fo_s_ParsePoint p text := by
 kernel_rfl
def ok_s_ParsePoint : (Int) → (ByteArray) → (Bool) := shut fun (p : Int) (text : ByteArray) => (Fo_s_ParsePoint p text).isSome
def s_ParsePoint : (Int) → (ByteArray) → ((Int × Int) × Int) := shut fun (p : Int) (text : ByteArray) => (Fo_s_ParsePoint p text).getD ((0, 0), 0)
theorem ok_s_ParsePoint_of {p : Int} {text : ByteArray} {r : (Int × Int) × Int} (e : Fo_s_ParsePoint p text = some r) : ok_s_ParsePoint p text = true := by
 unfold ok_s_ParsePoint
 rw [shut_eq, e]
 rfl
theorem s_ParsePoint_of {p : Int} {text : ByteArray} {r : (Int × Int) × Int} (e : Fo_s_ParsePoint p text = some r) : s_ParsePoint p text = r := by
 unfold s_ParsePoint
 rw [shut_eq, e]
 rfl
theorem tot_s_ParsePoint (p : Int) (text : ByteArray) (hp : (ok_s_ParsePoint p text) = true) : Fo_s_ParsePoint p text = some (s_ParsePoint p text) := by
 unfold ok_s_ParsePoint at hp
 rw [shut_eq] at hp
 unfold s_ParsePoint
 rw [shut_eq]
 exact of_isSome hp
def run_s_ParsePoint : RunP
 | [.v (.int .i64 p), .v (.string text)] => some (ok_s_ParsePoint p text, enc_a2_i (s_ParsePoint p text))
 | _ => none
theorem sound_s_ParsePoint : Sound prog 92 run_s_ParsePoint := by
 refine sound_1 de_a2_i SO_s_ParsePoint (by kernel_rfl) func92 ntmps92 rfl (by kernel_rfl) fun q r E => ?_
 unfold run_s_ParsePoint at E
 split at E
 ·obtain ⟨hp, rfl⟩ := so2 E
  rename_i p text
  exact ⟨_, _, rfl, (eq_s_ParsePoint p text).trans (tot_s_ParsePoint p text hp)⟩
 ·cases E

def S_s_l11Number : Sums := ⟨tblS [(154, run_s_l01Field), (43, run_s_l11Fresh), (46, run_s_l01Dec), (98, run_s_l02Colour), (155, run_s_CombinationOf), (93, run_s_l11Put), (156, run_s_PointsAt), (145, run_s_l11Points), (157, run_s_CountAt)], tblM [], false⟩
theorem SO_s_l11Number : SumsOK prog S_s_l11Number := ⟨tblS_ok ⟨⟨call154, sound_s_l01Field⟩, ⟨call43, sound_s_l11Fresh⟩, ⟨call46, sound_s_l01Dec⟩, ⟨call98, sound_s_l02Colour⟩, ⟨call155, sound_s_CombinationOf⟩, ⟨call93, sound_s_l11Put⟩, ⟨call156, sound_s_PointsAt⟩, ⟨call145, sound_s_l11Points⟩, ⟨call157, sound_s_CountAt⟩, ⟨⟩⟩, tM⟩
def Fo_s_l11Number (d : D8i) (command : ByteArray) (n_ : Int) : Option ((D8i) × ByteArray × Int) :=
 (if (eqS command (bs [112, 114, 105, 109, 101])) = true then (if (!(s_l01Field n_)) = true then some (d, bs [], 2) else (if (decOK n_) = true then some ((s_l11Fresh n_), (s_l01Dec n_), 0) else none)) else (if (eqS command (bs [99, 111, 108, 111, 117, 114])) = true then (if (!(s_l02Colour n_)) = true then some (d, bs [], 2) else (if (decOK n_) = true then some ((d.1, n_, d.2.2.1, d.2.2.2.1, d.2.2.2.2.1, d.2.2.2.2.2.1, d.2.2.2.2.2.2.1, d.2.2.2.2.2.2.2), (s_l01Dec n_), 0) else none)) else (if (eqS command (bs [99, 111, 109, 98, 105, 110, 101])) = true then (if (ok_s_l11Put d 0 ((s_CombinationOf d.1 (d.2.2.1, d.2.2.2.1) (d.2.2.2.2.1, d.2.2.2.2.2.1) n_).1) ((s_CombinationOf d.1 (d.2.2.1, d.2.2.2.1) (d.2.2.2.2.1, d.2.2.2.2.2.1) n_).2)) = true then some (((s_l11Put d 0 ((s_CombinationOf d.1 (d.2.2.1, d.2.2.2.1) (d.2.2.2.2.1, d.2.2.2.2.2.1) n_).1) ((s_CombinationOf d.1 (d.2.2.1, d.2.2.2.1) (d.2.2.2.2.1, d.2.2.2.2.2.1) n_).2)).1), (s_l11Put d 0 ((s_CombinationOf d.1 (d.2.2.1, d.2.2.2.1) (d.2.2.2.2.1, d.2.2.2.2.2.1) n_).1) ((s_CombinationOf d.1 (d.2.2.1, d.2.2.2.1) (d.2.2.2.2.1, d.2.2.2.2.2.1) n_).2)).2.1, (s_l11Put d 0 ((s_CombinationOf d.1 (d.2.2.1, d.2.2.2.1) (d.2.2.2.2.1, d.2.2.2.2.2.1) n_).1) ((s_CombinationOf d.1 (d.2.2.1, d.2.2.2.1) (d.2.2.2.2.1, d.2.2.2.2.2.1) n_).2)).2.2) else none) else (if (eqS command (bs [97, 116])) = true then (if (ptsB (((s_PointsAt d.1 d.2.1 (d.2.2.1, d.2.2.2.1) n_).1).1) (((s_PointsAt d.1 d.2.1 (d.2.2.1, d.2.2.2.1) n_).1).2)) = true then some (d, (s_l11Points (((s_PointsAt d.1 d.2.1 (d.2.2.1, d.2.2.2.1) n_).1).1) (((s_PointsAt d.1 d.2.1 (d.2.2.1, d.2.2.2.1) n_).1).2)), (s_PointsAt d.1 d.2.1 (d.2.2.1, d.2.2.2.1) n_).2) else none) else (if (eqS command (bs [99, 111, 117, 110, 116])) = true then (if (decOK ((s_CountAt d.1 d.2.1 n_).1)) = true then some (d, (s_l01Dec ((s_CountAt d.1 d.2.1 n_).1)), (s_CountAt d.1 d.2.1 n_).2) else none) else some (d, bs [], 6))))))
theorem eq_s_l11Number (d : D8i) (command : ByteArray) (n_ : Int) : eT S_s_l11Number 95 94 dec_a8_s_i [.v (.agg ⟨[.int .i64 d.1, .int .i64 d.2.1, .int .i64 d.2.2.1, .int .i64 d.2.2.2.1, .int .i64 d.2.2.2.2.1, .int .i64 d.2.2.2.2.2.1, .int .i64 d.2.2.2.2.2.2.1, .int .i64 d.2.2.2.2.2.2.2]⟩), .v (.string command), pI n_] = Fo_s_l11Number d command n_ := by
 kernel_rfl
def ok_s_l11Number : (D8i) → (ByteArray) → (Int) → (Bool) := shut fun (d : D8i) (command : ByteArray) (n_ : Int) => (Fo_s_l11Number d command n_).isSome
def s_l11Number : (D8i) → (ByteArray) → (Int) → ((D8i) × ByteArray × Int) := shut fun (d : D8i) (command : ByteArray) (n_ : Int) => (Fo_s_l11Number d command n_).getD ((0, 0, 0, 0, 0, 0, 0, 0), .empty, 0)
theorem ok_s_l11Number_of {d : D8i} {command : ByteArray} {n_ : Int} {r : (D8i) × ByteArray × Int} (e : Fo_s_l11Number d command n_ = some r) : ok_s_l11Number d command n_ = true := by
 unfold ok_s_l11Number
 rw [shut_eq, e]
 rfl
theorem s_l11Number_of {d : D8i} {command : ByteArray} {n_ : Int} {r : (D8i) × ByteArray × Int} (e : Fo_s_l11Number d command n_ = some r) : s_l11Number d command n_ = r := by
 unfold s_l11Number
 rw [shut_eq, e]
 rfl
theorem tot_s_l11Number (d : D8i) (command : ByteArray) (n_ : Int) (hp : (ok_s_l11Number d command n_) = true) : Fo_s_l11Number d command n_ = some (s_l11Number d command n_) := by
 unfold ok_s_l11Number at hp
 rw [shut_eq] at hp
 unfold s_l11Number
 rw [shut_eq]
 exact of_isSome hp
def run_s_l11Number : RunP
 | [.v (.agg ⟨[.int .i64 d0, .int .i64 d1, .int .i64 d2, .int .i64 d3, .int .i64 d4, .int .i64 d5, .int .i64 d6, .int .i64 d7]⟩), .v (.string command), .v (.int .i64 n_)] => some (ok_s_l11Number (d0, d1, d2, d3, d4, d5, d6, d7) command n_, enc_a8_s_i (s_l11Number (d0, d1, d2, d3, d4, d5, d6, d7) command n_))
 | _ => none
theorem sound_s_l11Number : Sound prog 95 run_s_l11Number := by
 refine sound_1 de_a8_s_i SO_s_l11Number (by kernel_rfl) func95 ntmps95 rfl (by kernel_rfl) fun q r E => ?_
 unfold run_s_l11Number at E
 split at E
 ·obtain ⟨hp, rfl⟩ := so2 E
  rename_i d0 d1 d2 d3 d4 d5 d6 d7 command n_
  exact ⟨_, _, rfl, (eq_s_l11Number (d0, d1, d2, d3, d4, d5, d6, d7) command n_).trans (tot_s_l11Number (d0, d1, d2, d3, d4, d5, d6, d7) command n_ hp)⟩
 ·cases E

def S_s_l11Execute : Sums := ⟨tblS [(42, run_s_l01Split), (91, run_s_l11Alone), (92, run_s_ParsePoint), (93, run_s_l11Put), (94, run_s_l01Number), (95, run_s_l11Number)], tblM [], false⟩
theorem SO_s_l11Execute : SumsOK prog S_s_l11Execute := ⟨tblS_ok ⟨⟨call42, sound_s_l01Split⟩, ⟨call91, sound_s_l11Alone⟩, ⟨call92, sound_s_ParsePoint⟩, ⟨call93, sound_s_l11Put⟩, ⟨call94, sound_s_l01Number⟩, ⟨call95, sound_s_l11Number⟩, ⟨⟩⟩, tM⟩
def Fo_s_l11Execute (d : D8i) (line : ByteArray) : Option ((D8i) × ByteArray × Int) :=
 (if (cutOK line 32) = true then (if (decide (0 ≤ 0) && decide (0 < (((s_l01Split line 32).1 : Nat) : Int))) = true then (if (Nat.ble (1) (((s_l01Split line 32).2).length)) = true then (if ((((s_l01Split line 32).1 : Nat) : Int) == 1) = true then (if (ok_s_l11Alone d (((s_l01Split line 32).2).getD 0 ByteArray.empty)) = true then some (((s_l11Alone d (((s_l01Split line 32).2).getD 0 ByteArray.empty)).1), (s_l11Alone d (((s_l01Split line 32).2).getD 0 ByteArray.empty)).2.1, (s_l11Alone d (((s_l01Split line 32).2).getD 0 ByteArray.empty)).2.2) else none) else (if (decide ((((s_l01Split line 32).1 : Nat) : Int) > 2)) = true then some (d, bs [], 6) else (if (eqS (((s_l01Split line 32).2).getD 0 ByteArray.empty) (bs [102, 105, 114, 115, 116])) = true then (if (decide (0 ≤ 1) && decide (1 < (((s_l01Split line 32).1 : Nat) : Int))) = true then (if (Nat.ble (2) (((s_l01Split line 32).2).length)) = true then (if (ok_s_ParsePoint d.1 (((s_l01Split line 32).2).getD 1 ByteArray.empty)) = true then (if (ok_s_l11Put d 0 ((s_ParsePoint d.1 (((s_l01Split line 32).2).getD 1 ByteArray.empty)).1) ((s_ParsePoint d.1 (((s_l01Split line 32).2).getD 1 ByteArray.empty)).2)) = true then some (((s_l11Put d 0 ((s_ParsePoint d.1 (((s_l01Split line 32).2).getD 1 ByteArray.empty)).1) ((s_ParsePoint d.1 (((s_l01Split line 32).2).getD 1 ByteArray.empty)).2)).1), (s_l11Put d 0 ((s_ParsePoint d.1 (((s_l01Split line 32).2).getD 1 ByteArray.empty)).1) ((s_ParsePoint d.1 (((s_l01Split line 32).2).getD 1 ByteArray.empty)).2)).2.1, (s_l11Put d 0 ((s_ParsePoint d.1 (((s_l01Split line 32).2).getD 1 ByteArray.empty)).1) ((s_ParsePoint d.1 (((s_l01Split line 32).2).getD 1 ByteArray.empty)).2)).2.2) else none) else none) else none) else none) else (if (eqS (((s_l01Split line 32).2).getD 0 ByteArray.empty) (bs [115, 101, 99, 111, 110, 100])) = true then (if (decide (0 ≤ 1) && decide (1 < (((s_l01Split line 32).1 : Nat) : Int))) = true then (if (Nat.ble (2) (((s_l01Split line 32).2).length)) = true then (if (ok_s_ParsePoint d.1 (((s_l01Split line 32).2).getD 1 ByteArray.empty)) = true then (if (ok_s_l11Put d 1 ((s_ParsePoint d.1 (((s_l01Split line 32).2).getD 1 ByteArray.empty)).1) ((s_ParsePoint d.1 (((s_l01Split line 32).2).getD 1 ByteArray.empty)).2)) = true then some (((s_l11Put d 1 ((s_ParsePoint d.1 (((s_l01Split line 32).2).getD 1 ByteArray.empty)).1) ((s_ParsePoint d.1 (((s_l01Split line 32).2).getD 1 ByteArray.empty)).2)).1), (s_l11Put d 1 ((s_ParsePoint d.1 (((s_l01Split line 32).2).getD 1 ByteArray.empty)).1) ((s_ParsePoint d.1 (((s_l01Split line 32).2).getD 1 ByteArray.empty)).2)).2.1, (s_l11Put d 1 ((s_ParsePoint d.1 (((s_l01Split line 32).2).getD 1 ByteArray.empty)).1) ((s_ParsePoint d.1 (((s_l01Split line 32).2).getD 1 ByteArray.empty)).2)).2.2) else none) else none) else none) else none) else (if (eqS (((s_l01Split line 32).2).getD 0 ByteArray.empty) (bs [116, 104, 105, 114, 100])) = true then (if (decide (0 ≤ 1) && decide (1 < (((s_l01Split line 32).1 : Nat) : Int))) = true then (if (Nat.ble (2) (((s_l01Split line 32).2).length)) = true then (if (ok_s_ParsePoint d.1 (((s_l01Split line 32).2).getD 1 ByteArray.empty)) = true then (if (ok_s_l11Put d 2 ((s_ParsePoint d.1 (((s_l01Split line 32).2).getD 1 ByteArray.empty)).1) ((s_ParsePoint d.1 (((s_l01Split line 32).2).getD 1 ByteArray.empty)).2)) = true then some (((s_l11Put d 2 ((s_ParsePoint d.1 (((s_l01Split line 32).2).getD 1 ByteArray.empty)).1) ((s_ParsePoint d.1 (((s_l01Split line 32).2).getD 1 ByteArray.empty)).2)).1), (s_l11Put d 2 ((s_ParsePoint d.1 (((s_l01Split line 32).2).getD 1 ByteArray.empty)).1) ((s_ParsePoint d.1 (((s_l01Split line 32).2).getD 1 ByteArray.empty)).2)).2.1, (s_l11Put d 2 ((s_ParsePoint d.1 (((s_l01Split line 32).2).getD 1 ByteArray.empty)).1) ((s_ParsePoint d.1 (((s_l01Split line 32).2).getD 1 ByteArray.empty)).2)).2.2) else none) else none) else none) else none) else (if (decide (0 ≤ 1) && decide (1 < (((s_l01Split line 32).1 : Nat) : Int))) = true then (if (Nat.ble (2) (((s_l01Split line 32).2).length)) = true then (if (decide ((s_l01Number (((s_l01Split line 32).2).getD 1 ByteArray.empty)) < 0)) = true then some (d, bs [], 6) else (if (decide ((s_l01Number (((s_l01Split line 32).2).getD 1 ByteArray.empty)) > 999999999)) = true then some (d, bs [], 6) else (if (ok_s_l11Number d (((s_l01Split line 32).2).getD 0 ByteArray.empty) (s_l01Number (((s_l01Split line 32).2).getD 1 ByteArray.empty))) = true then some (((s_l11Number d (((s_l01Split line 32).2).getD 0 ByteArray.empty) (s_l01Number (((s_l01Split line 32).2).getD 1 ByteArray.empty))).1), (s_l11Number d (((s_l01Split line 32).2).getD 0 ByteArray.empty) (s_l01Number (((s_l01Split line 32).2).getD 1 ByteArray.empty))).2.1, (s_l11Number d (((s_l01Split line 32).2).getD 0 ByteArray.empty) (s_l01Number (((s_l01Split line 32).2).getD 1 ByteArray.empty))).2.2) else none))) else none) else none)))))) else none) else none) else none)
theorem eq_s_l11Execute (d : D8i) (line : ByteArray) : eT S_s_l11Execute 34 78 dec_a8_s_i [.v (.agg ⟨[.int .i64 d.1, .int .i64 d.2.1, .int .i64 d.2.2.1, .int .i64 d.2.2.2.1, .int .i64 d.2.2.2.2.1, .int .i64 d.2.2.2.2.2.1, .int .i64 d.2.2.2.2.2.2.1, .int .i64 d.2.2.2.2.2.2.2]⟩), .v (.string line)] = Fo_s_l11Execute d line := by
 kernel_rfl
def ok_s_l11Execute : (D8i) → (ByteArray) → (Bool) := shut fun (d : D8i) (line : ByteArray) => (Fo_s_l11Execute d line).isSome
def s_l11Execute : (D8i) → (ByteArray) → ((D8i) × ByteArray × Int) := shut fun (d : D8i) (line : ByteArray) => (Fo_s_l11Execute d line).getD ((0, 0, 0, 0, 0, 0, 0, 0), .empty, 0)
theorem ok_s_l11Execute_of {d : D8i} {line : ByteArray} {r : (D8i) × ByteArray × Int} (e : Fo_s_l11Execute d line = some r) : ok_s_l11Execute d line = true := by
 unfold ok_s_l11Execute
 rw [shut_eq, e]
 rfl
theorem s_l11Execute_of {d : D8i} {line : ByteArray} {r : (D8i) × ByteArray × Int} (e : Fo_s_l11Execute d line = some r) : s_l11Execute d line = r := by
 unfold s_l11Execute
 rw [shut_eq, e]
 rfl
theorem tot_s_l11Execute (d : D8i) (line : ByteArray) (hp : (ok_s_l11Execute d line) = true) : Fo_s_l11Execute d line = some (s_l11Execute d line) := by
 unfold ok_s_l11Execute at hp
 rw [shut_eq] at hp
 unfold s_l11Execute
 rw [shut_eq]
 exact of_isSome hp
def run_s_l11Execute : RunP
 | [.v (.agg ⟨[.int .i64 d0, .int .i64 d1, .int .i64 d2, .int .i64 d3, .int .i64 d4, .int .i64 d5, .int .i64 d6, .int .i64 d7]⟩), .v (.string line)] => some (ok_s_l11Execute (d0, d1, d2, d3, d4, d5, d6, d7) line, enc_a8_s_i (s_l11Execute (d0, d1, d2, d3, d4, d5, d6, d7) line))
 | _ => none
theorem sound_s_l11Execute : Sound prog 34 run_s_l11Execute := by
 refine sound_1 de_a8_s_i SO_s_l11Execute (by kernel_rfl) func34 ntmps34 rfl (by kernel_rfl) fun q r E => ?_
 unfold run_s_l11Execute at E
 split at E
 ·obtain ⟨hp, rfl⟩ := so2 E
  rename_i d0 d1 d2 d3 d4 d5 d6 d7 line
  exact ⟨_, _, rfl, (eq_s_l11Execute (d0, d1, d2, d3, d4, d5, d6, d7) line).trans (tot_s_l11Execute (d0, d1, d2, d3, d4, d5, d6, d7) line hp)⟩
 ·cases E

def S_s_RunLine : Sums := ⟨tblS [(18, run_s_IsDesk), (34, run_s_l11Execute)], tblM [], false⟩
theorem SO_s_RunLine : SumsOK prog S_s_RunLine := ⟨tblS_ok ⟨⟨call18, sound_s_IsDesk⟩, ⟨call34, sound_s_l11Execute⟩, ⟨⟩⟩, tM⟩
def Fo_s_RunLine (d : D8i) (line : ByteArray) : Option ((D8i) × ByteArray) :=
 (if (!(s_IsDesk d)) = true then some ((0, 0, 0, 0, 0, 0, 0, 0), bs []) else (if (ok_s_l11Execute d line) = true then (if (((s_l11Execute d line).2.2) != 0) = true then some (d, bs [101, 114, 114, 111, 114]) else some (((s_l11Execute d line).1), (s_l11Execute d line).2.1)) else none))
theorem eq_s_RunLine (d : D8i) (line : ByteArray) : eT S_s_RunLine 15 25 dec_a8_s [.v (.agg ⟨[.int .i64 d.1, .int .i64 d.2.1, .int .i64 d.2.2.1, .int .i64 d.2.2.2.1, .int .i64 d.2.2.2.2.1, .int .i64 d.2.2.2.2.2.1, .int .i64 d.2.2.2.2.2.2.1, .int .i64 d.2.2.2.2.2.2.2]⟩), .v (.string line)] = Fo_s_RunLine d line := by
 kernel_rfl
def ok_s_RunLine : (D8i) → (ByteArray) → (Bool) := shut fun (d : D8i) (line : ByteArray) => (Fo_s_RunLine d line).isSome
def s_RunLine : (D8i) → (ByteArray) → ((D8i) × ByteArray) := shut fun (d : D8i) (line : ByteArray) => (Fo_s_RunLine d line).getD ((0, 0, 0, 0, 0, 0, 0, 0), .empty)
theorem ok_s_RunLine_of {d : D8i} {line : ByteArray} {r : (D8i) × ByteArray} (e : Fo_s_RunLine d line = some r) : ok_s_RunLine d line = true := by
 unfold ok_s_RunLine
 rw [shut_eq, e]
 rfl
theorem s_RunLine_of {d : D8i} {line : ByteArray} {r : (D8i) × ByteArray} (e : Fo_s_RunLine d line = some r) : s_RunLine d line = r := by
 unfold s_RunLine
 rw [shut_eq, e]
 rfl
theorem tot_s_RunLine (d : D8i) (line : ByteArray) (hp : (ok_s_RunLine d line) = true) : Fo_s_RunLine d line = some (s_RunLine d line) := by
 unfold ok_s_RunLine at hp
 rw [shut_eq] at hp
 unfold s_RunLine
 rw [shut_eq]
 exact of_isSome hp
def run_s_RunLine : RunP
 | [.v (.agg ⟨[.int .i64 d0, .int .i64 d1, .int .i64 d2, .int .i64 d3, .int .i64 d4, .int .i64 d5, .int .i64 d6, .int .i64 d7]⟩), .v (.string line)] => some (ok_s_RunLine (d0, d1, d2, d3, d4, d5, d6, d7) line, enc_a8_s (s_RunLine (d0, d1, d2, d3, d4, d5, d6, d7) line))
 | _ => none
theorem sound_s_RunLine : Sound prog 15 run_s_RunLine := by
 refine sound_1 de_a8_s SO_s_RunLine (by kernel_rfl) func15 ntmps15 rfl (by kernel_rfl) fun q r E => ?_
 unfold run_s_RunLine at E
 split at E
 ·obtain ⟨hp, rfl⟩ := so2 E
  rename_i d0 d1 d2 d3 d4 d5 d6 d7 line
  exact ⟨_, _, rfl, (eq_s_RunLine (d0, d1, d2, d3, d4, d5, d6, d7) line).trans (tot_s_RunLine (d0, d1, d2, d3, d4, d5, d6, d7) line hp)⟩
 ·cases E

end

end Go.Proofs.YtcdpfpfbilfpoaaGreatDoor
