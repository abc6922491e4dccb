import Derived.Test.YtoblkbpejfojjaaGreatDoorFa
import Derived.Test.YtoblkbpejfojjaaGreatDoorFb
import Derived.Test.YtoblkbpejfojjaaGreatDoorProg
set_option linter.unusedSimpArgs false
set_option linter.unusedVariables false
namespace Go.Proofs.YtoblkbpejfojjaaGreatDoor
open Go.RowKit
noncomputable section
def S_i_mapOf : Sums := ⟨tblS [(58, run_i_less)], tblM []⟩
theorem SO_i_mapOf : SumsOK Tryz.prog S_i_mapOf := ⟨tblS_ok ⟨⟨Tryz.call58, sound_i_less⟩, True.intro⟩, tblM_ok True.intro⟩
def Fo_i_mapOf (p : Int) (leadsk : (Int × Int) → Bool) (leadsh : (Int × Int) → Int × Int) : Option (Int × Int × Int × Int × Int × Int) :=
  (if (leadsk (0, 0)) = true then (if (leadsk (1, 0)) = true then (if (prB p) = true then (if (leadsk (0, 1)) = true then (if (prB p) = true then some ((i_less p (leadsh (1, 0)) (leadsh (0, 0))).1, (i_less p (leadsh (0, 1)) (leadsh (0, 0))).1, (i_less p (leadsh (1, 0)) (leadsh (0, 0))).2, (i_less p (leadsh (0, 1)) (leadsh (0, 0))).2, (leadsh (0, 0)).1, (leadsh (0, 0)).2) else none) else none) else none) else none) else none)
theorem eq_i_mapOf (p : Int) (leadsk : (Int × Int) → Bool) (leadsh : (Int × Int) → Int × Int) : execT Tryz.prog S_i_mapOf 104 34 (fun _ => 1000000) dec_a6 [.v (.int .i64 p), .f (clo_a2_a2 leadsk leadsh)] = Fo_i_mapOf p leadsk leadsh := by
  kernel_rfl
def map3B (p : Int) (k : Int × Int → Bool) : Bool := prB p && (k (0, 0) && (k (1, 0) && k (0, 1)))
theorem map3_ok {p : Int} (h : prB p = true) : map3B p (fun _ => prB p) = true := by
  unfold map3B
  rw [h]
  rfl
def i_mapOf (p : Int) (leadsk : (Int × Int) → Bool) (leadsh : (Int × Int) → Int × Int) : Int × Int × Int × Int × Int × Int := ((i_less p (leadsh (1, 0)) (leadsh (0, 0))).1, (i_less p (leadsh (0, 1)) (leadsh (0, 0))).1, (i_less p (leadsh (1, 0)) (leadsh (0, 0))).2, (i_less p (leadsh (0, 1)) (leadsh (0, 0))).2, (leadsh (0, 0)).1, (leadsh (0, 0)).2)
theorem tot_i_mapOf (p : Int) (leadsk : (Int × Int) → Bool) (leadsh : (Int × Int) → Int × Int) (hp : (map3B p leadsk) = true) : Fo_i_mapOf p leadsk leadsh = some (i_mapOf p leadsk leadsh) := by
  unfold map3B at hp
  simp only [Bool.and_eq_true] at hp
  obtain ⟨h1, h2, h3, h4⟩ := hp
  unfold Fo_i_mapOf i_mapOf
  rw [if_pos h2, if_pos h3, if_pos h1, if_pos h4, if_pos h1]
def run_i_mapOf : List PV → Option (Bool × List TR)
  | [.v (.int .i64 p), .f leadsg] => some (map3B p (fun a0 => okA2 (leadsg [.agg ⟨[.int .i64 a0.1, .int .i64 a0.2]⟩])), enc_a6 (i_mapOf p (fun a0 => okA2 (leadsg [.agg ⟨[.int .i64 a0.1, .int .i64 a0.2]⟩])) (fun a0 => aggV2 (leadsg [.agg ⟨[.int .i64 a0.1, .int .i64 a0.2]⟩]))))
  | _ => none
theorem sound_i_mapOf : Sound Tryz.prog 104 run_i_mapOf := by
  refine sound_of de_a6 SO_i_mapOf (by kernel_rfl) Tryz.func104 Tryz.ntmps104 rfl (by kernel_rfl) ?_
  intro W pvs avs rs hargs hrun
  unfold run_i_mapOf at hrun
  split at hrun
  · simp only [Option.some.injEq, Prod.mk.injEq] at hrun
    obtain ⟨hp, rfl⟩ := hrun
    rename_i p leadsg
    have hargs := All2.replace (l1 := [_]) hargs (y := .f (clo_a2_a2 _ _)) fun b hb => fn_weaken hb (clo_a2_a2_ok _)
    exact ⟨_, _, _, hargs, rfl, (eq_i_mapOf p (fun a0 => okA2 (leadsg [.agg ⟨[.int .i64 a0.1, .int .i64 a0.2]⟩])) (fun a0 => aggV2 (leadsg [.agg ⟨[.int .i64 a0.1, .int .i64 a0.2]⟩]))).trans (tot_i_mapOf p (fun a0 => okA2 (leadsg [.agg ⟨[.int .i64 a0.1, .int .i64 a0.2]⟩])) (fun a0 => aggV2 (leadsg [.agg ⟨[.int .i64 a0.1, .int .i64 a0.2]⟩])) hp)⟩
  · cases hrun

def S_i_FixedPoints_c1 : Sums := ⟨tblS [(64, run_i_isMap)], tblM []⟩
theorem SO_i_FixedPoints_c1 : SumsOK Tryz.prog S_i_FixedPoints_c1 := ⟨tblS_ok ⟨⟨Tryz.call64, sound_i_isMap⟩, True.intro⟩, tblM_ok True.intro⟩
def Fo_i_FixedPoints_c1 (c0 : Int) (c1 : Int × Int × Int × Int × Int × Int) : Option (Bool) :=
  some (i_isMap c0 c1)
theorem eq_i_FixedPoints_c1 (c0 : Int) (c1 : Int × Int × Int × Int × Int × Int) : execT Tryz.prog S_i_FixedPoints_c1 67 6 (fun _ => 1000000) dec_b [.p [.int .i64 c0], .p [.int .i64 c1.1, .int .i64 c1.2.1, .int .i64 c1.2.2.1, .int .i64 c1.2.2.2.1, .int .i64 c1.2.2.2.2.1, .int .i64 c1.2.2.2.2.2]] = Fo_i_FixedPoints_c1 c0 c1 := by
  kernel_rfl
def i_FixedPoints_c1 (c0 : Int) (c1 : Int × Int × Int × Int × Int × Int) : Bool :=
  (i_isMap c0 c1)
theorem tot_i_FixedPoints_c1 (c0 : Int) (c1 : Int × Int × Int × Int × Int × Int) : Fo_i_FixedPoints_c1 c0 c1 = some (i_FixedPoints_c1 c0 c1) := by
  unfold Fo_i_FixedPoints_c1 i_FixedPoints_c1
  (try simp only [wI_eq])
  repeat' (first | with_reducible rfl | refine ite_opt (fun _ => ?_) (fun _ => ?_) | rfl)
def run_i_FixedPoints_c1 : List PV → Option (Bool × List TR)
  | [.p [.int .i64 c0], .p [.int .i64 c10, .int .i64 c11, .int .i64 c12, .int .i64 c13, .int .i64 c14, .int .i64 c15]] => some (true, enc_b (i_FixedPoints_c1 c0 (c10, c11, c12, c13, c14, c15)))
  | _ => none
theorem sound_i_FixedPoints_c1 : Sound Tryz.prog 67 run_i_FixedPoints_c1 := by
  refine sound_of de_b SO_i_FixedPoints_c1 (by kernel_rfl) Tryz.func67 Tryz.ntmps67 rfl (by kernel_rfl) ?_
  intro W pvs avs rs hargs hrun
  unfold run_i_FixedPoints_c1 at hrun
  split at hrun
  · simp only [Option.some.injEq, Prod.mk.injEq] at hrun
    obtain ⟨hp, rfl⟩ := hrun
    rename_i c0 c10 c11 c12 c13 c14 c15
    exact ⟨_, _, _, hargs, rfl, (eq_i_FixedPoints_c1 c0 (c10, c11, c12, c13, c14, c15)).trans (tot_i_FixedPoints_c1 c0 (c10, c11, c12, c13, c14, c15))⟩
  · cases hrun

def S_i_FixedPoints : Sums := ⟨tblS [(61, run_i_asked), (67, run_i_FixedPoints_c1), (52, run_i_fixedPoints)], tblM []⟩
theorem SO_i_FixedPoints : SumsOK Tryz.prog S_i_FixedPoints := ⟨tblS_ok ⟨⟨Tryz.call61, sound_i_asked⟩, ⟨Tryz.call67, sound_i_FixedPoints_c1⟩, ⟨Tryz.call52, sound_i_fixedPoints⟩, True.intro⟩, tblM_ok True.intro⟩
def Fo_i_FixedPoints (p : Int) (m : Int × Int × Int × Int × Int × Int) : Option ((Nat × List Int) × Int) :=
  (if ((true) || !(i_IsField p)) = true then (if ((i_asked p (true) (i_FixedPoints_c1 p m)) != 0) = true then some ((0, []), (i_asked p (true) (i_FixedPoints_c1 p m))) else (if (prB p) = true then some (((i_fixedPoints p m).1, (i_fixedPoints p m).2), 0) else none)) else none)
theorem eq_i_FixedPoints (p : Int) (m : Int × Int × Int × Int × Int × Int) : execT Tryz.prog S_i_FixedPoints 16 16 (fun _ => 1000000) dec_l26_2_i [.v (.int .i64 p), .v (.agg ⟨[.int .i64 m.1, .int .i64 m.2.1, .int .i64 m.2.2.1, .int .i64 m.2.2.2.1, .int .i64 m.2.2.2.2.1, .int .i64 m.2.2.2.2.2]⟩)] = Fo_i_FixedPoints p m := by
  kernel_rfl
def i_FixedPoints (p : Int) (m : Int × Int × Int × Int × Int × Int) : (Nat × List Int) × Int :=
  (if ((i_asked p (true) (i_FixedPoints_c1 p m)) != 0) = true then ((0, []), (i_asked p (true) (i_FixedPoints_c1 p m))) else (((i_fixedPoints p m).1, (i_fixedPoints p m).2), 0))
theorem tot_i_FixedPoints (p : Int) (m : Int × Int × Int × Int × Int × Int) : Fo_i_FixedPoints p m = some (i_FixedPoints p m) := by
  unfold Fo_i_FixedPoints i_FixedPoints
  (try simp only [wI_eq])
  repeat' (first | with_reducible rfl | refine chk_opt (by first | with_reducible rfl | exact Bool.true_or _ | (with_reducible exact asked_prB ‹_›) | (with_reducible exact asked_prB0 ‹_›) | exact mk_ok (by (first | (with_reducible assumption) | (with_reducible exact asked_prB ‹_›) | (with_reducible exact asked_prB0 ‹_›))) | exact and_all (by (first | (with_reducible assumption) | (with_reducible exact asked_prB ‹_›) | (with_reducible exact asked_prB0 ‹_›))) (fun _ => rfl) | exact and_all (by (first | (with_reducible assumption) | (with_reducible exact asked_prB ‹_›) | (with_reducible exact asked_prB0 ‹_›))) (fun _ => by (first | (with_reducible assumption) | (with_reducible exact asked_prB ‹_›) | (with_reducible exact asked_prB0 ‹_›))) | exact and3 (by (first | (with_reducible assumption) | (with_reducible exact asked_prB ‹_›) | (with_reducible exact asked_prB0 ‹_›))) (by (first | (with_reducible assumption) | (with_reducible exact asked_prB ‹_›) | (with_reducible exact asked_prB0 ‹_›))) (by (first | (with_reducible assumption) | (with_reducible exact asked_prB ‹_›) | (with_reducible exact asked_prB0 ‹_›))) | exact and_two (by (first | (with_reducible assumption) | (with_reducible exact asked_prB ‹_›) | (with_reducible exact asked_prB0 ‹_›))) rfl | exact map3_ok (by (first | (with_reducible assumption) | (with_reducible exact asked_prB ‹_›) | (with_reducible exact asked_prB0 ‹_›))) | rfl) ?_ | refine ite_opt (fun _ => ?_) (fun _ => ?_) | rfl)
def run_i_FixedPoints : List PV → Option (Bool × List TR)
  | [.v (.int .i64 p), .v (.agg ⟨[.int .i64 m0, .int .i64 m1, .int .i64 m2, .int .i64 m3, .int .i64 m4, .int .i64 m5]⟩)] => some (true, enc_l26_2_i (i_FixedPoints p (m0, m1, m2, m3, m4, m5)))
  | _ => none
theorem sound_i_FixedPoints : Sound Tryz.prog 16 run_i_FixedPoints := by
  refine sound_of de_l26_2_i SO_i_FixedPoints (by kernel_rfl) Tryz.func16 Tryz.ntmps16 rfl (by kernel_rfl) ?_
  intro W pvs avs rs hargs hrun
  unfold run_i_FixedPoints at hrun
  split at hrun
  · simp only [Option.some.injEq, Prod.mk.injEq] at hrun
    obtain ⟨hp, rfl⟩ := hrun
    rename_i p m0 m1 m2 m3 m4 m5
    exact ⟨_, _, _, hargs, rfl, (eq_i_FixedPoints p (m0, m1, m2, m3, m4, m5)).trans (tot_i_FixedPoints p (m0, m1, m2, m3, m4, m5))⟩
  · cases hrun

def S_i_KindOfMove : Sums := ⟨tblS [(47, run_i_moveAsked), (48, run_i_always), (52, run_i_fixedPoints), (53, run_i_sign)], tblM []⟩
theorem SO_i_KindOfMove : SumsOK Tryz.prog S_i_KindOfMove := ⟨tblS_ok ⟨⟨Tryz.call47, sound_i_moveAsked⟩, ⟨Tryz.call48, sound_i_always⟩, ⟨Tryz.call52, sound_i_fixedPoints⟩, ⟨Tryz.call53, sound_i_sign⟩, True.intro⟩, tblM_ok True.intro⟩
def Fo_i_KindOfMove (p : Int) (colour : Int) (m : Int × Int × Int × Int × Int × Int) : Option (Int × Int) :=
  (if ((i_moveAsked p colour m (true) (i_always)) != 0) = true then some (0, (i_moveAsked p colour m (true) (i_always))) else (if (prB p) = true then (if (m == (1, 0, 0, 1, 0, 0)) = true then some (0, 0) else (if ((m.1, m.2.1, m.2.2.1, m.2.2.2.1) == (1, 0, 0, 1)) = true then some (1, 0) else (if (prB p) = true then (if ((i_sign p (m.1, m.2.1, m.2.2.1, m.2.2.2.1)) == 1) = true then (if (decide ((((i_fixedPoints p m).1 : Nat) : Int) > 0)) = true then some (2, 0) else (if (prB p) = true then (if ((i_sign p (m.1, m.2.1, m.2.2.1, m.2.2.2.1)) != 1) = true then (if (decide ((((i_fixedPoints p m).1 : Nat) : Int) > 0)) = true then some (3, 0) else some (4, 0)) else some (4, 0)) else none)) else (if (prB p) = true then (if ((i_sign p (m.1, m.2.1, m.2.2.1, m.2.2.2.1)) != 1) = true then (if (decide ((((i_fixedPoints p m).1 : Nat) : Int) > 0)) = true then some (3, 0) else some (4, 0)) else some (4, 0)) else none)) else none))) else none))
theorem eq_i_KindOfMove (p : Int) (colour : Int) (m : Int × Int × Int × Int × Int × Int) : execT Tryz.prog S_i_KindOfMove 9 50 (fun _ => 1000000) dec_i_i [.v (.int .i64 p), .v (.int .i64 colour), .v (.agg ⟨[.int .i64 m.1, .int .i64 m.2.1, .int .i64 m.2.2.1, .int .i64 m.2.2.2.1, .int .i64 m.2.2.2.2.1, .int .i64 m.2.2.2.2.2]⟩)] = Fo_i_KindOfMove p colour m := by
  kernel_rfl
def i_KindOfMove (p : Int) (colour : Int) (m : Int × Int × Int × Int × Int × Int) : Int × Int :=
  (if ((i_moveAsked p colour m (true) (i_always)) != 0) = true then (0, (i_moveAsked p colour m (true) (i_always))) else (if (m == (1, 0, 0, 1, 0, 0)) = true then (0, 0) else (if ((m.1, m.2.1, m.2.2.1, m.2.2.2.1) == (1, 0, 0, 1)) = true then (1, 0) else (if ((i_sign p (m.1, m.2.1, m.2.2.1, m.2.2.2.1)) == 1) = true then (if (decide ((((i_fixedPoints p m).1 : Nat) : Int) > 0)) = true then (2, 0) else (if ((i_sign p (m.1, m.2.1, m.2.2.1, m.2.2.2.1)) != 1) = true then (if (decide ((((i_fixedPoints p m).1 : Nat) : Int) > 0)) = true then (3, 0) else (4, 0)) else (4, 0))) else (if ((i_sign p (m.1, m.2.1, m.2.2.1, m.2.2.2.1)) != 1) = true then (if (decide ((((i_fixedPoints p m).1 : Nat) : Int) > 0)) = true then (3, 0) else (4, 0)) else (4, 0))))))
theorem tot_i_KindOfMove (p : Int) (colour : Int) (m : Int × Int × Int × Int × Int × Int) : Fo_i_KindOfMove p colour m = some (i_KindOfMove p colour m) := by
  unfold Fo_i_KindOfMove i_KindOfMove
  (try simp only [wI_eq])
  repeat' (first | with_reducible rfl | refine chk_opt (by first | with_reducible rfl | exact Bool.true_or _ | (with_reducible exact moveAsked_prB ‹_›) | (with_reducible exact moveAsked_prB0 ‹_›) | exact mk_ok (by (first | (with_reducible assumption) | (with_reducible exact moveAsked_prB ‹_›) | (with_reducible exact moveAsked_prB0 ‹_›))) | exact and_all (by (first | (with_reducible assumption) | (with_reducible exact moveAsked_prB ‹_›) | (with_reducible exact moveAsked_prB0 ‹_›))) (fun _ => rfl) | exact and_all (by (first | (with_reducible assumption) | (with_reducible exact moveAsked_prB ‹_›) | (with_reducible exact moveAsked_prB0 ‹_›))) (fun _ => by (first | (with_reducible assumption) | (with_reducible exact moveAsked_prB ‹_›) | (with_reducible exact moveAsked_prB0 ‹_›))) | exact and3 (by (first | (with_reducible assumption) | (with_reducible exact moveAsked_prB ‹_›) | (with_reducible exact moveAsked_prB0 ‹_›))) (by (first | (with_reducible assumption) | (with_reducible exact moveAsked_prB ‹_›) | (with_reducible exact moveAsked_prB0 ‹_›))) (by (first | (with_reducible assumption) | (with_reducible exact moveAsked_prB ‹_›) | (with_reducible exact moveAsked_prB0 ‹_›))) | exact and_two (by (first | (with_reducible assumption) | (with_reducible exact moveAsked_prB ‹_›) | (with_reducible exact moveAsked_prB0 ‹_›))) rfl | exact map3_ok (by (first | (with_reducible assumption) | (with_reducible exact moveAsked_prB ‹_›) | (with_reducible exact moveAsked_prB0 ‹_›))) | rfl) ?_ | refine ite_opt (fun _ => ?_) (fun _ => ?_) | rfl)
def run_i_KindOfMove : List PV → Option (Bool × List TR)
  | [.v (.int .i64 p), .v (.int .i64 colour), .v (.agg ⟨[.int .i64 m0, .int .i64 m1, .int .i64 m2, .int .i64 m3, .int .i64 m4, .int .i64 m5]⟩)] => some (true, enc_i_i (i_KindOfMove p colour (m0, m1, m2, m3, m4, m5)))
  | _ => none
theorem sound_i_KindOfMove : Sound Tryz.prog 9 run_i_KindOfMove := by
  refine sound_of de_i_i SO_i_KindOfMove (by kernel_rfl) Tryz.func9 Tryz.ntmps9 rfl (by kernel_rfl) ?_
  intro W pvs avs rs hargs hrun
  unfold run_i_KindOfMove at hrun
  split at hrun
  · simp only [Option.some.injEq, Prod.mk.injEq] at hrun
    obtain ⟨hp, rfl⟩ := hrun
    rename_i p colour m0 m1 m2 m3 m4 m5
    exact ⟨_, _, _, hargs, rfl, (eq_i_KindOfMove p colour (m0, m1, m2, m3, m4, m5)).trans (tot_i_KindOfMove p colour (m0, m1, m2, m3, m4, m5))⟩
  · cases hrun

def S_i_MovePoint_c1 : Sums := ⟨tblS [(64, run_i_isMap), (69, run_i_isPoint)], tblM []⟩
theorem SO_i_MovePoint_c1 : SumsOK Tryz.prog S_i_MovePoint_c1 := ⟨tblS_ok ⟨⟨Tryz.call64, sound_i_isMap⟩, ⟨Tryz.call69, sound_i_isPoint⟩, True.intro⟩, tblM_ok True.intro⟩
def Fo_i_MovePoint_c1 (c0 : Int) (c1 : Int × Int × Int × Int × Int × Int) (c2 : Int × Int) : Option (Bool) :=
  (if (i_isMap c0 c1) = true then some (i_isPoint c0 c2) else some false)
theorem eq_i_MovePoint_c1 (c0 : Int) (c1 : Int × Int × Int × Int × Int × Int) (c2 : Int × Int) : execT Tryz.prog S_i_MovePoint_c1 68 12 (fun _ => 1000000) dec_b [.p [.int .i64 c0], .p [.int .i64 c1.1, .int .i64 c1.2.1, .int .i64 c1.2.2.1, .int .i64 c1.2.2.2.1, .int .i64 c1.2.2.2.2.1, .int .i64 c1.2.2.2.2.2], .p [.int .i64 c2.1, .int .i64 c2.2]] = Fo_i_MovePoint_c1 c0 c1 c2 := by
  kernel_rfl
def i_MovePoint_c1 (c0 : Int) (c1 : Int × Int × Int × Int × Int × Int) (c2 : Int × Int) : Bool :=
  (if (i_isMap c0 c1) = true then (i_isPoint c0 c2) else false)
theorem tot_i_MovePoint_c1 (c0 : Int) (c1 : Int × Int × Int × Int × Int × Int) (c2 : Int × Int) : Fo_i_MovePoint_c1 c0 c1 c2 = some (i_MovePoint_c1 c0 c1 c2) := by
  unfold Fo_i_MovePoint_c1 i_MovePoint_c1
  (try simp only [wI_eq])
  repeat' (first | with_reducible rfl | refine ite_opt (fun _ => ?_) (fun _ => ?_) | rfl)
def run_i_MovePoint_c1 : List PV → Option (Bool × List TR)
  | [.p [.int .i64 c0], .p [.int .i64 c10, .int .i64 c11, .int .i64 c12, .int .i64 c13, .int .i64 c14, .int .i64 c15], .p [.int .i64 c20, .int .i64 c21]] => some (true, enc_b (i_MovePoint_c1 c0 (c10, c11, c12, c13, c14, c15) (c20, c21)))
  | _ => none
theorem sound_i_MovePoint_c1 : Sound Tryz.prog 68 run_i_MovePoint_c1 := by
  refine sound_of de_b SO_i_MovePoint_c1 (by kernel_rfl) Tryz.func68 Tryz.ntmps68 rfl (by kernel_rfl) ?_
  intro W pvs avs rs hargs hrun
  unfold run_i_MovePoint_c1 at hrun
  split at hrun
  · simp only [Option.some.injEq, Prod.mk.injEq] at hrun
    obtain ⟨hp, rfl⟩ := hrun
    rename_i c0 c10 c11 c12 c13 c14 c15 c20 c21
    exact ⟨_, _, _, hargs, rfl, (eq_i_MovePoint_c1 c0 (c10, c11, c12, c13, c14, c15) (c20, c21)).trans (tot_i_MovePoint_c1 c0 (c10, c11, c12, c13, c14, c15) (c20, c21))⟩
  · cases hrun

def S_i_MovePoint : Sums := ⟨tblS [(61, run_i_asked), (68, run_i_MovePoint_c1), (70, run_i_moved)], tblM []⟩
theorem SO_i_MovePoint : SumsOK Tryz.prog S_i_MovePoint := ⟨tblS_ok ⟨⟨Tryz.call61, sound_i_asked⟩, ⟨Tryz.call68, sound_i_MovePoint_c1⟩, ⟨Tryz.call70, sound_i_moved⟩, True.intro⟩, tblM_ok True.intro⟩
def Fo_i_MovePoint (p : Int) (m : Int × Int × Int × Int × Int × Int) (a : Int × Int) : Option ((Int × Int) × Int) :=
  (if ((true) || !(i_IsField p)) = true then (if ((i_asked p (true) (i_MovePoint_c1 p m a)) != 0) = true then some ((0, 0), (i_asked p (true) (i_MovePoint_c1 p m a))) else (if (prB p) = true then some ((i_moved p m a), 0) else none)) else none)
theorem eq_i_MovePoint (p : Int) (m : Int × Int × Int × Int × Int × Int) (a : Int × Int) : execT Tryz.prog S_i_MovePoint 17 20 (fun _ => 1000000) dec_a2_i [.v (.int .i64 p), .v (.agg ⟨[.int .i64 m.1, .int .i64 m.2.1, .int .i64 m.2.2.1, .int .i64 m.2.2.2.1, .int .i64 m.2.2.2.2.1, .int .i64 m.2.2.2.2.2]⟩), .v (.agg ⟨[.int .i64 a.1, .int .i64 a.2]⟩)] = Fo_i_MovePoint p m a := by
  kernel_rfl
def i_MovePoint (p : Int) (m : Int × Int × Int × Int × Int × Int) (a : Int × Int) : (Int × Int) × Int :=
  (if ((i_asked p (true) (i_MovePoint_c1 p m a)) != 0) = true then ((0, 0), (i_asked p (true) (i_MovePoint_c1 p m a))) else ((i_moved p m a), 0))
theorem tot_i_MovePoint (p : Int) (m : Int × Int × Int × Int × Int × Int) (a : Int × Int) : Fo_i_MovePoint p m a = some (i_MovePoint p m a) := by
  unfold Fo_i_MovePoint i_MovePoint
  (try simp only [wI_eq])
  repeat' (first | with_reducible rfl | refine chk_opt (by first | with_reducible rfl | exact Bool.true_or _ | (with_reducible exact asked_prB ‹_›) | (with_reducible exact asked_prB0 ‹_›) | exact mk_ok (by (first | (with_reducible assumption) | (with_reducible exact asked_prB ‹_›) | (with_reducible exact asked_prB0 ‹_›))) | exact and_all (by (first | (with_reducible assumption) | (with_reducible exact asked_prB ‹_›) | (with_reducible exact asked_prB0 ‹_›))) (fun _ => rfl) | exact and_all (by (first | (with_reducible assumption) | (with_reducible exact asked_prB ‹_›) | (with_reducible exact asked_prB0 ‹_›))) (fun _ => by (first | (with_reducible assumption) | (with_reducible exact asked_prB ‹_›) | (with_reducible exact asked_prB0 ‹_›))) | exact and3 (by (first | (with_reducible assumption) | (with_reducible exact asked_prB ‹_›) | (with_reducible exact asked_prB0 ‹_›))) (by (first | (with_reducible assumption) | (with_reducible exact asked_prB ‹_›) | (with_reducible exact asked_prB0 ‹_›))) (by (first | (with_reducible assumption) | (with_reducible exact asked_prB ‹_›) | (with_reducible exact asked_prB0 ‹_›))) | exact and_two (by (first | (with_reducible assumption) | (with_reducible exact asked_prB ‹_›) | (with_reducible exact asked_prB0 ‹_›))) rfl | exact map3_ok (by (first | (with_reducible assumption) | (with_reducible exact asked_prB ‹_›) | (with_reducible exact asked_prB0 ‹_›))) | rfl) ?_ | refine ite_opt (fun _ => ?_) (fun _ => ?_) | rfl)
def run_i_MovePoint : List PV → Option (Bool × List TR)
  | [.v (.int .i64 p), .v (.agg ⟨[.int .i64 m0, .int .i64 m1, .int .i64 m2, .int .i64 m3, .int .i64 m4, .int .i64 m5]⟩), .v (.agg ⟨[.int .i64 a0, .int .i64 a1]⟩)] => some (true, enc_a2_i (i_MovePoint p (m0, m1, m2, m3, m4, m5) (a0, a1)))
  | _ => none
theorem sound_i_MovePoint : Sound Tryz.prog 17 run_i_MovePoint := by
  refine sound_of de_a2_i SO_i_MovePoint (by kernel_rfl) Tryz.func17 Tryz.ntmps17 rfl (by kernel_rfl) ?_
  intro W pvs avs rs hargs hrun
  unfold run_i_MovePoint at hrun
  split at hrun
  · simp only [Option.some.injEq, Prod.mk.injEq] at hrun
    obtain ⟨hp, rfl⟩ := hrun
    rename_i p m0 m1 m2 m3 m4 m5 a0 a1
    exact ⟨_, _, _, hargs, rfl, (eq_i_MovePoint p (m0, m1, m2, m3, m4, m5) (a0, a1)).trans (tot_i_MovePoint p (m0, m1, m2, m3, m4, m5) (a0, a1))⟩
  · cases hrun

def S_i_PointsOn_c1 : Sums := ⟨tblS [(77, run_i_isLine)], tblM []⟩
theorem SO_i_PointsOn_c1 : SumsOK Tryz.prog S_i_PointsOn_c1 := ⟨tblS_ok ⟨⟨Tryz.call77, sound_i_isLine⟩, True.intro⟩, tblM_ok True.intro⟩
def Fo_i_PointsOn_c1 (c0 : Int) (c1 : Int × Int × Int) : Option (Bool) :=
  some (i_isLine c0 c1)
theorem eq_i_PointsOn_c1 (c0 : Int) (c1 : Int × Int × Int) : execT Tryz.prog S_i_PointsOn_c1 111 6 (fun _ => 1000000) dec_b [.p [.int .i64 c0], .p [.int .i64 c1.1, .int .i64 c1.2.1, .int .i64 c1.2.2]] = Fo_i_PointsOn_c1 c0 c1 := by
  kernel_rfl
def i_PointsOn_c1 (c0 : Int) (c1 : Int × Int × Int) : Bool :=
  (i_isLine c0 c1)
theorem tot_i_PointsOn_c1 (c0 : Int) (c1 : Int × Int × Int) : Fo_i_PointsOn_c1 c0 c1 = some (i_PointsOn_c1 c0 c1) := by
  unfold Fo_i_PointsOn_c1 i_PointsOn_c1
  (try simp only [wI_eq])
  repeat' (first | with_reducible rfl | refine ite_opt (fun _ => ?_) (fun _ => ?_) | rfl)
def run_i_PointsOn_c1 : List PV → Option (Bool × List TR)
  | [.p [.int .i64 c0], .p [.int .i64 c10, .int .i64 c11, .int .i64 c12]] => some (true, enc_b (i_PointsOn_c1 c0 (c10, c11, c12)))
  | _ => none
theorem sound_i_PointsOn_c1 : Sound Tryz.prog 111 run_i_PointsOn_c1 := by
  refine sound_of de_b SO_i_PointsOn_c1 (by kernel_rfl) Tryz.func111 Tryz.ntmps111 rfl (by kernel_rfl) ?_
  intro W pvs avs rs hargs hrun
  unfold run_i_PointsOn_c1 at hrun
  split at hrun
  · simp only [Option.some.injEq, Prod.mk.injEq] at hrun
    obtain ⟨hp, rfl⟩ := hrun
    rename_i c0 c10 c11 c12
    exact ⟨_, _, _, hargs, rfl, (eq_i_PointsOn_c1 c0 (c10, c11, c12)).trans (tot_i_PointsOn_c1 c0 (c10, c11, c12))⟩
  · cases hrun

def S_i_PointsOn_c2 : Sums := ⟨tblS [(114, run_i_isOn)], tblM []⟩
theorem SO_i_PointsOn_c2 : SumsOK Tryz.prog S_i_PointsOn_c2 := ⟨tblS_ok ⟨⟨Tryz.call114, sound_i_isOn⟩, True.intro⟩, tblM_ok True.intro⟩
def Fo_i_PointsOn_c2 (a : Int × Int) (c0 : Int) (c1 : Int × Int × Int) : Option (Bool) :=
  (if (prB c0) = true then some (i_isOn c0 a c1) else none)
theorem eq_i_PointsOn_c2 (a : Int × Int) (c0 : Int) (c1 : Int × Int × Int) : execT Tryz.prog S_i_PointsOn_c2 113 9 (fun _ => 1000000) dec_b [.v (.agg ⟨[.int .i64 a.1, .int .i64 a.2]⟩), .p [.int .i64 c0], .p [.int .i64 c1.1, .int .i64 c1.2.1, .int .i64 c1.2.2]] = Fo_i_PointsOn_c2 a c0 c1 := by
  kernel_rfl
def i_PointsOn_c2 (a : Int × Int) (c0 : Int) (c1 : Int × Int × Int) : Bool :=
  (i_isOn c0 a c1)
theorem tot_i_PointsOn_c2 (a : Int × Int) (c0 : Int) (c1 : Int × Int × Int) (hp : (prB c0) = true) : Fo_i_PointsOn_c2 a c0 c1 = some (i_PointsOn_c2 a c0 c1) := by
  try have h0 := prB_ne hp
  unfold Fo_i_PointsOn_c2 i_PointsOn_c2
  (try simp only [wI_eq])
  repeat' (first | with_reducible rfl | with_reducible refine chk_opt hp ?_ | with_reducible refine chk_opt h0 ?_ | refine chk_opt (and_all hp fun _ => hp) ?_ | refine chk_opt (and_all hp fun _ => rfl) ?_ | refine ite_opt (fun _ => ?_) (fun _ => ?_) | rfl)
def run_i_PointsOn_c2 : List PV → Option (Bool × List TR)
  | [.v (.agg ⟨[.int .i64 a0, .int .i64 a1]⟩), .p [.int .i64 c0], .p [.int .i64 c10, .int .i64 c11, .int .i64 c12]] => some (prB c0, enc_b (i_PointsOn_c2 (a0, a1) c0 (c10, c11, c12)))
  | _ => none
theorem sound_i_PointsOn_c2 : Sound Tryz.prog 113 run_i_PointsOn_c2 := by
  refine sound_of de_b SO_i_PointsOn_c2 (by kernel_rfl) Tryz.func113 Tryz.ntmps113 rfl (by kernel_rfl) ?_
  intro W pvs avs rs hargs hrun
  unfold run_i_PointsOn_c2 at hrun
  split at hrun
  · simp only [Option.some.injEq, Prod.mk.injEq] at hrun
    obtain ⟨hp, rfl⟩ := hrun
    rename_i a0 a1 c0 c10 c11 c12
    exact ⟨_, _, _, hargs, rfl, (eq_i_PointsOn_c2 (a0, a1) c0 (c10, c11, c12)).trans (tot_i_PointsOn_c2 (a0, a1) c0 (c10, c11, c12) hp)⟩
  · cases hrun

def S_i_PointsOn : Sums := ⟨tblS [(61, run_i_asked), (111, run_i_PointsOn_c1), (112, run_i_pointsWith), (113, run_i_PointsOn_c2)], tblM []⟩
theorem SO_i_PointsOn : SumsOK Tryz.prog S_i_PointsOn := ⟨tblS_ok ⟨⟨Tryz.call61, sound_i_asked⟩, ⟨Tryz.call111, sound_i_PointsOn_c1⟩, ⟨Tryz.call112, sound_i_pointsWith⟩, ⟨Tryz.call113, sound_i_PointsOn_c2⟩, True.intro⟩, tblM_ok True.intro⟩
def Fo_i_PointsOn (p : Int) (l : Int × Int × Int) : Option ((Nat × List Int) × Int) :=
  (if ((true) || !(i_IsField p)) = true then (if ((i_asked p (true) (i_PointsOn_c1 p l)) != 0) = true then some ((0, []), (i_asked p (true) (i_PointsOn_c1 p l))) else (if (prB p && (pts p).all (fun a0 => prB p)) = true then some (((i_pointsWith p (fun a0 => prB p) (fun a0 => i_PointsOn_c2 a0 p l)).1, (i_pointsWith p (fun a0 => prB p) (fun a0 => i_PointsOn_c2 a0 p l)).2), 0) else none)) else none)
theorem eq_i_PointsOn (p : Int) (l : Int × Int × Int) : execT Tryz.prog S_i_PointsOn 36 16 (fun _ => 1000000) dec_l26_2_i [.v (.int .i64 p), .v (.agg ⟨[.int .i64 l.1, .int .i64 l.2.1, .int .i64 l.2.2]⟩)] = Fo_i_PointsOn p l := by
  kernel_rfl
def i_PointsOn (p : Int) (l : Int × Int × Int) : (Nat × List Int) × Int :=
  (if ((i_asked p (true) (i_PointsOn_c1 p l)) != 0) = true then ((0, []), (i_asked p (true) (i_PointsOn_c1 p l))) else (((i_pointsWith p (fun a0 => prB p) (fun a0 => i_PointsOn_c2 a0 p l)).1, (i_pointsWith p (fun a0 => prB p) (fun a0 => i_PointsOn_c2 a0 p l)).2), 0))
theorem tot_i_PointsOn (p : Int) (l : Int × Int × Int) : Fo_i_PointsOn p l = some (i_PointsOn p l) := by
  unfold Fo_i_PointsOn i_PointsOn
  (try simp only [wI_eq])
  repeat' (first | with_reducible rfl | refine chk_opt (by first | with_reducible rfl | exact Bool.true_or _ | (with_reducible exact asked_prB ‹_›) | (with_reducible exact asked_prB0 ‹_›) | exact mk_ok (by (first | (with_reducible assumption) | (with_reducible exact asked_prB ‹_›) | (with_reducible exact asked_prB0 ‹_›))) | exact and_all (by (first | (with_reducible assumption) | (with_reducible exact asked_prB ‹_›) | (with_reducible exact asked_prB0 ‹_›))) (fun _ => rfl) | exact and_all (by (first | (with_reducible assumption) | (with_reducible exact asked_prB ‹_›) | (with_reducible exact asked_prB0 ‹_›))) (fun _ => by (first | (with_reducible assumption) | (with_reducible exact asked_prB ‹_›) | (with_reducible exact asked_prB0 ‹_›))) | exact and3 (by (first | (with_reducible assumption) | (with_reducible exact asked_prB ‹_›) | (with_reducible exact asked_prB0 ‹_›))) (by (first | (with_reducible assumption) | (with_reducible exact asked_prB ‹_›) | (with_reducible exact asked_prB0 ‹_›))) (by (first | (with_reducible assumption) | (with_reducible exact asked_prB ‹_›) | (with_reducible exact asked_prB0 ‹_›))) | exact and_two (by (first | (with_reducible assumption) | (with_reducible exact asked_prB ‹_›) | (with_reducible exact asked_prB0 ‹_›))) rfl | exact map3_ok (by (first | (with_reducible assumption) | (with_reducible exact asked_prB ‹_›) | (with_reducible exact asked_prB0 ‹_›))) | rfl) ?_ | refine ite_opt (fun _ => ?_) (fun _ => ?_) | rfl)
def run_i_PointsOn : List PV → Option (Bool × List TR)
  | [.v (.int .i64 p), .v (.agg ⟨[.int .i64 l0, .int .i64 l1, .int .i64 l2]⟩)] => some (true, enc_l26_2_i (i_PointsOn p (l0, l1, l2)))
  | _ => none
theorem sound_i_PointsOn : Sound Tryz.prog 36 run_i_PointsOn := by
  refine sound_of de_l26_2_i SO_i_PointsOn (by kernel_rfl) Tryz.func36 Tryz.ntmps36 rfl (by kernel_rfl) ?_
  intro W pvs avs rs hargs hrun
  unfold run_i_PointsOn at hrun
  split at hrun
  · simp only [Option.some.injEq, Prod.mk.injEq] at hrun
    obtain ⟨hp, rfl⟩ := hrun
    rename_i p l0 l1 l2
    exact ⟨_, _, _, hargs, rfl, (eq_i_PointsOn p (l0, l1, l2)).trans (tot_i_PointsOn p (l0, l1, l2))⟩
  · cases hrun

def S_i_ProductOfMoves_c1 : Sums := ⟨tblS [(64, run_i_isMap)], tblM []⟩
theorem SO_i_ProductOfMoves_c1 : SumsOK Tryz.prog S_i_ProductOfMoves_c1 := ⟨tblS_ok ⟨⟨Tryz.call64, sound_i_isMap⟩, True.intro⟩, tblM_ok True.intro⟩
def Fo_i_ProductOfMoves_c1 (c0 : Int) (c1 : Int × Int × Int × Int × Int × Int) (c2 : Int × Int × Int × Int × Int × Int) : Option (Bool) :=
  (if (i_isMap c0 c1) = true then some (i_isMap c0 c2) else some false)
theorem eq_i_ProductOfMoves_c1 (c0 : Int) (c1 : Int × Int × Int × Int × Int × Int) (c2 : Int × Int × Int × Int × Int × Int) : execT Tryz.prog S_i_ProductOfMoves_c1 66 12 (fun _ => 1000000) dec_b [.p [.int .i64 c0], .p [.int .i64 c1.1, .int .i64 c1.2.1, .int .i64 c1.2.2.1, .int .i64 c1.2.2.2.1, .int .i64 c1.2.2.2.2.1, .int .i64 c1.2.2.2.2.2], .p [.int .i64 c2.1, .int .i64 c2.2.1, .int .i64 c2.2.2.1, .int .i64 c2.2.2.2.1, .int .i64 c2.2.2.2.2.1, .int .i64 c2.2.2.2.2.2]] = Fo_i_ProductOfMoves_c1 c0 c1 c2 := by
  kernel_rfl
def i_ProductOfMoves_c1 (c0 : Int) (c1 : Int × Int × Int × Int × Int × Int) (c2 : Int × Int × Int × Int × Int × Int) : Bool :=
  (if (i_isMap c0 c1) = true then (i_isMap c0 c2) else false)
theorem tot_i_ProductOfMoves_c1 (c0 : Int) (c1 : Int × Int × Int × Int × Int × Int) (c2 : Int × Int × Int × Int × Int × Int) : Fo_i_ProductOfMoves_c1 c0 c1 c2 = some (i_ProductOfMoves_c1 c0 c1 c2) := by
  unfold Fo_i_ProductOfMoves_c1 i_ProductOfMoves_c1
  (try simp only [wI_eq])
  repeat' (first | with_reducible rfl | refine ite_opt (fun _ => ?_) (fun _ => ?_) | rfl)
def run_i_ProductOfMoves_c1 : List PV → Option (Bool × List TR)
  | [.p [.int .i64 c0], .p [.int .i64 c10, .int .i64 c11, .int .i64 c12, .int .i64 c13, .int .i64 c14, .int .i64 c15], .p [.int .i64 c20, .int .i64 c21, .int .i64 c22, .int .i64 c23, .int .i64 c24, .int .i64 c25]] => some (true, enc_b (i_ProductOfMoves_c1 c0 (c10, c11, c12, c13, c14, c15) (c20, c21, c22, c23, c24, c25)))
  | _ => none
theorem sound_i_ProductOfMoves_c1 : Sound Tryz.prog 66 run_i_ProductOfMoves_c1 := by
  refine sound_of de_b SO_i_ProductOfMoves_c1 (by kernel_rfl) Tryz.func66 Tryz.ntmps66 rfl (by kernel_rfl) ?_
  intro W pvs avs rs hargs hrun
  unfold run_i_ProductOfMoves_c1 at hrun
  split at hrun
  · simp only [Option.some.injEq, Prod.mk.injEq] at hrun
    obtain ⟨hp, rfl⟩ := hrun
    rename_i c0 c10 c11 c12 c13 c14 c15 c20 c21 c22 c23 c24 c25
    exact ⟨_, _, _, hargs, rfl, (eq_i_ProductOfMoves_c1 c0 (c10, c11, c12, c13, c14, c15) (c20, c21, c22, c23, c24, c25)).trans (tot_i_ProductOfMoves_c1 c0 (c10, c11, c12, c13, c14, c15) (c20, c21, c22, c23, c24, c25))⟩
  · cases hrun

def S_i_ProductOfMoves : Sums := ⟨tblS [(61, run_i_asked), (66, run_i_ProductOfMoves_c1), (49, run_i_then)], tblM []⟩
theorem SO_i_ProductOfMoves : SumsOK Tryz.prog S_i_ProductOfMoves := ⟨tblS_ok ⟨⟨Tryz.call61, sound_i_asked⟩, ⟨Tryz.call66, sound_i_ProductOfMoves_c1⟩, ⟨Tryz.call49, sound_i_then⟩, True.intro⟩, tblM_ok True.intro⟩
def Fo_i_ProductOfMoves (p : Int) (m : Int × Int × Int × Int × Int × Int) (n_ : Int × Int × Int × Int × Int × Int) : Option ((Int × Int × Int × Int × Int × Int) × Int) :=
  (if ((true) || !(i_IsField p)) = true then (if ((i_asked p (true) (i_ProductOfMoves_c1 p m n_)) != 0) = true then some ((0, 0, 0, 0, 0, 0), (i_asked p (true) (i_ProductOfMoves_c1 p m n_))) else (if (prB p) = true then some ((i_then p m n_), 0) else none)) else none)
theorem eq_i_ProductOfMoves (p : Int) (m : Int × Int × Int × Int × Int × Int) (n_ : Int × Int × Int × Int × Int × Int) : execT Tryz.prog S_i_ProductOfMoves 15 20 (fun _ => 1000000) dec_a6_i [.v (.int .i64 p), .v (.agg ⟨[.int .i64 m.1, .int .i64 m.2.1, .int .i64 m.2.2.1, .int .i64 m.2.2.2.1, .int .i64 m.2.2.2.2.1, .int .i64 m.2.2.2.2.2]⟩), .v (.agg ⟨[.int .i64 n_.1, .int .i64 n_.2.1, .int .i64 n_.2.2.1, .int .i64 n_.2.2.2.1, .int .i64 n_.2.2.2.2.1, .int .i64 n_.2.2.2.2.2]⟩)] = Fo_i_ProductOfMoves p m n_ := by
  kernel_rfl
def i_ProductOfMoves (p : Int) (m : Int × Int × Int × Int × Int × Int) (n_ : Int × Int × Int × Int × Int × Int) : (Int × Int × Int × Int × Int × Int) × Int :=
  (if ((i_asked p (true) (i_ProductOfMoves_c1 p m n_)) != 0) = true then ((0, 0, 0, 0, 0, 0), (i_asked p (true) (i_ProductOfMoves_c1 p m n_))) else ((i_then p m n_), 0))
theorem tot_i_ProductOfMoves (p : Int) (m : Int × Int × Int × Int × Int × Int) (n_ : Int × Int × Int × Int × Int × Int) : Fo_i_ProductOfMoves p m n_ = some (i_ProductOfMoves p m n_) := by
  unfold Fo_i_ProductOfMoves i_ProductOfMoves
  (try simp only [wI_eq])
  repeat' (first | with_reducible rfl | refine chk_opt (by first | with_reducible rfl | exact Bool.true_or _ | (with_reducible exact asked_prB ‹_›) | (with_reducible exact asked_prB0 ‹_›) | exact mk_ok (by (first | (with_reducible assumption) | (with_reducible exact asked_prB ‹_›) | (with_reducible exact asked_prB0 ‹_›))) | exact and_all (by (first | (with_reducible assumption) | (with_reducible exact asked_prB ‹_›) | (with_reducible exact asked_prB0 ‹_›))) (fun _ => rfl) | exact and_all (by (first | (with_reducible assumption) | (with_reducible exact asked_prB ‹_›) | (with_reducible exact asked_prB0 ‹_›))) (fun _ => by (first | (with_reducible assumption) | (with_reducible exact asked_prB ‹_›) | (with_reducible exact asked_prB0 ‹_›))) | exact and3 (by (first | (with_reducible assumption) | (with_reducible exact asked_prB ‹_›) | (with_reducible exact asked_prB0 ‹_›))) (by (first | (with_reducible assumption) | (with_reducible exact asked_prB ‹_›) | (with_reducible exact asked_prB0 ‹_›))) (by (first | (with_reducible assumption) | (with_reducible exact asked_prB ‹_›) | (with_reducible exact asked_prB0 ‹_›))) | exact and_two (by (first | (with_reducible assumption) | (with_reducible exact asked_prB ‹_›) | (with_reducible exact asked_prB0 ‹_›))) rfl | exact map3_ok (by (first | (with_reducible assumption) | (with_reducible exact asked_prB ‹_›) | (with_reducible exact asked_prB0 ‹_›))) | rfl) ?_ | refine ite_opt (fun _ => ?_) (fun _ => ?_) | rfl)
def run_i_ProductOfMoves : List PV → Option (Bool × List TR)
  | [.v (.int .i64 p), .v (.agg ⟨[.int .i64 m0, .int .i64 m1, .int .i64 m2, .int .i64 m3, .int .i64 m4, .int .i64 m5]⟩), .v (.agg ⟨[.int .i64 n_0, .int .i64 n_1, .int .i64 n_2, .int .i64 n_3, .int .i64 n_4, .int .i64 n_5]⟩)] => some (true, enc_a6_i (i_ProductOfMoves p (m0, m1, m2, m3, m4, m5) (n_0, n_1, n_2, n_3, n_4, n_5)))
  | _ => none
theorem sound_i_ProductOfMoves : Sound Tryz.prog 15 run_i_ProductOfMoves := by
  refine sound_of de_a6_i SO_i_ProductOfMoves (by kernel_rfl) Tryz.func15 Tryz.ntmps15 rfl (by kernel_rfl) ?_
  intro W pvs avs rs hargs hrun
  unfold run_i_ProductOfMoves at hrun
  split at hrun
  · simp only [Option.some.injEq, Prod.mk.injEq] at hrun
    obtain ⟨hp, rfl⟩ := hrun
    rename_i p m0 m1 m2 m3 m4 m5 n_0 n_1 n_2 n_3 n_4 n_5
    exact ⟨_, _, _, hargs, rfl, (eq_i_ProductOfMoves p (m0, m1, m2, m3, m4, m5) (n_0, n_1, n_2, n_3, n_4, n_5)).trans (tot_i_ProductOfMoves p (m0, m1, m2, m3, m4, m5) (n_0, n_1, n_2, n_3, n_4, n_5))⟩
  · cases hrun

def S_i_ReflectionIn_c1 : Sums := ⟨tblS [(63, run_i_isColour), (77, run_i_isLine)], tblM []⟩
theorem SO_i_ReflectionIn_c1 : SumsOK Tryz.prog S_i_ReflectionIn_c1 := ⟨tblS_ok ⟨⟨Tryz.call63, sound_i_isColour⟩, ⟨Tryz.call77, sound_i_isLine⟩, True.intro⟩, tblM_ok True.intro⟩
def Fo_i_ReflectionIn_c1 (c0 : Int) (c1 : Int) (c2 : Int × Int × Int) : Option (Bool) :=
  (if (i_isColour c0) = true then some (i_isLine c1 c2) else some false)
theorem eq_i_ReflectionIn_c1 (c0 : Int) (c1 : Int) (c2 : Int × Int × Int) : execT Tryz.prog S_i_ReflectionIn_c1 102 11 (fun _ => 1000000) dec_b [.p [.int .i64 c0], .p [.int .i64 c1], .p [.int .i64 c2.1, .int .i64 c2.2.1, .int .i64 c2.2.2]] = Fo_i_ReflectionIn_c1 c0 c1 c2 := by
  kernel_rfl
def i_ReflectionIn_c1 (c0 : Int) (c1 : Int) (c2 : Int × Int × Int) : Bool :=
  (if (i_isColour c0) = true then (i_isLine c1 c2) else false)
theorem tot_i_ReflectionIn_c1 (c0 : Int) (c1 : Int) (c2 : Int × Int × Int) : Fo_i_ReflectionIn_c1 c0 c1 c2 = some (i_ReflectionIn_c1 c0 c1 c2) := by
  unfold Fo_i_ReflectionIn_c1 i_ReflectionIn_c1
  (try simp only [wI_eq])
  repeat' (first | with_reducible rfl | refine ite_opt (fun _ => ?_) (fun _ => ?_) | rfl)
def run_i_ReflectionIn_c1 : List PV → Option (Bool × List TR)
  | [.p [.int .i64 c0], .p [.int .i64 c1], .p [.int .i64 c20, .int .i64 c21, .int .i64 c22]] => some (true, enc_b (i_ReflectionIn_c1 c0 c1 (c20, c21, c22)))
  | _ => none
theorem sound_i_ReflectionIn_c1 : Sound Tryz.prog 102 run_i_ReflectionIn_c1 := by
  refine sound_of de_b SO_i_ReflectionIn_c1 (by kernel_rfl) Tryz.func102 Tryz.ntmps102 rfl (by kernel_rfl) ?_
  intro W pvs avs rs hargs hrun
  unfold run_i_ReflectionIn_c1 at hrun
  split at hrun
  · simp only [Option.some.injEq, Prod.mk.injEq] at hrun
    obtain ⟨hp, rfl⟩ := hrun
    rename_i c0 c1 c20 c21 c22
    exact ⟨_, _, _, hargs, rfl, (eq_i_ReflectionIn_c1 c0 c1 (c20, c21, c22)).trans (tot_i_ReflectionIn_c1 c0 c1 (c20, c21, c22))⟩
  · cases hrun

def S_i_ReflectionIn_c2 : Sums := ⟨tblS [(107, run_i_foot), (106, run_i_combination)], tblM []⟩
theorem SO_i_ReflectionIn_c2 : SumsOK Tryz.prog S_i_ReflectionIn_c2 := ⟨tblS_ok ⟨⟨Tryz.call107, sound_i_foot⟩, ⟨Tryz.call106, sound_i_combination⟩, True.intro⟩, tblM_ok True.intro⟩
def Fo_i_ReflectionIn_c2 (a : Int × Int) (c0 : Int) (c1 : Int) (c2 : Int × Int × Int) : Option (Int × Int) :=
  (if (prB c0) = true then (if (prB c0) = true then some (i_combination c0 a (i_foot c0 c1 a c2) 2) else none) else none)
theorem eq_i_ReflectionIn_c2 (a : Int × Int) (c0 : Int) (c1 : Int) (c2 : Int × Int × Int) : execT Tryz.prog S_i_ReflectionIn_c2 105 14 (fun _ => 1000000) dec_a2 [.v (.agg ⟨[.int .i64 a.1, .int .i64 a.2]⟩), .p [.int .i64 c0], .p [.int .i64 c1], .p [.int .i64 c2.1, .int .i64 c2.2.1, .int .i64 c2.2.2]] = Fo_i_ReflectionIn_c2 a c0 c1 c2 := by
  kernel_rfl
def i_ReflectionIn_c2 (a : Int × Int) (c0 : Int) (c1 : Int) (c2 : Int × Int × Int) : Int × Int :=
  (i_combination c0 a (i_foot c0 c1 a c2) 2)
theorem tot_i_ReflectionIn_c2 (a : Int × Int) (c0 : Int) (c1 : Int) (c2 : Int × Int × Int) (hp : (prB c0) = true) : Fo_i_ReflectionIn_c2 a c0 c1 c2 = some (i_ReflectionIn_c2 a c0 c1 c2) := by
  try have h0 := prB_ne hp
  unfold Fo_i_ReflectionIn_c2 i_ReflectionIn_c2
  (try simp only [wI_eq])
  repeat' (first | with_reducible rfl | with_reducible refine chk_opt hp ?_ | with_reducible refine chk_opt h0 ?_ | refine chk_opt (and_all hp fun _ => hp) ?_ | refine chk_opt (and_all hp fun _ => rfl) ?_ | refine ite_opt (fun _ => ?_) (fun _ => ?_) | rfl)
def run_i_ReflectionIn_c2 : List PV → Option (Bool × List TR)
  | [.v (.agg ⟨[.int .i64 a0, .int .i64 a1]⟩), .p [.int .i64 c0], .p [.int .i64 c1], .p [.int .i64 c20, .int .i64 c21, .int .i64 c22]] => some (prB c0, enc_a2 (i_ReflectionIn_c2 (a0, a1) c0 c1 (c20, c21, c22)))
  | _ => none
theorem sound_i_ReflectionIn_c2 : Sound Tryz.prog 105 run_i_ReflectionIn_c2 := by
  refine sound_of de_a2 SO_i_ReflectionIn_c2 (by kernel_rfl) Tryz.func105 Tryz.ntmps105 rfl (by kernel_rfl) ?_
  intro W pvs avs rs hargs hrun
  unfold run_i_ReflectionIn_c2 at hrun
  split at hrun
  · simp only [Option.some.injEq, Prod.mk.injEq] at hrun
    obtain ⟨hp, rfl⟩ := hrun
    rename_i a0 a1 c0 c1 c20 c21 c22
    exact ⟨_, _, _, hargs, rfl, (eq_i_ReflectionIn_c2 (a0, a1) c0 c1 (c20, c21, c22)).trans (tot_i_ReflectionIn_c2 (a0, a1) c0 c1 (c20, c21, c22) hp)⟩
  · cases hrun

def S_i_ReflectionIn : Sums := ⟨tblS [(61, run_i_asked), (102, run_i_ReflectionIn_c1), (103, run_i_isNull), (104, run_i_mapOf), (105, run_i_ReflectionIn_c2)], tblM []⟩
theorem SO_i_ReflectionIn : SumsOK Tryz.prog S_i_ReflectionIn := ⟨tblS_ok ⟨⟨Tryz.call61, sound_i_asked⟩, ⟨Tryz.call102, sound_i_ReflectionIn_c1⟩, ⟨Tryz.call103, sound_i_isNull⟩, ⟨Tryz.call104, sound_i_mapOf⟩, ⟨Tryz.call105, sound_i_ReflectionIn_c2⟩, True.intro⟩, tblM_ok True.intro⟩
def Fo_i_ReflectionIn (p : Int) (colour : Int) (l : Int × Int × Int) : Option ((Int × Int × Int × Int × Int × Int) × Int) :=
  (if ((true) || !(i_IsField p)) = true then (if ((i_asked p (true) (i_ReflectionIn_c1 colour p l)) != 0) = true then some ((0, 0, 0, 0, 0, 0), (i_asked p (true) (i_ReflectionIn_c1 colour p l))) else (if (prB p) = true then (if (i_isNull p colour l) = true then some ((0, 0, 0, 0, 0, 0), 5) else (if (map3B p (fun a0 => prB p)) = true then some ((i_mapOf p (fun a0 => prB p) (fun a0 => i_ReflectionIn_c2 a0 p colour l)), 0) else none)) else none)) else none)
theorem eq_i_ReflectionIn (p : Int) (colour : Int) (l : Int × Int × Int) : execT Tryz.prog S_i_ReflectionIn 34 24 (fun _ => 1000000) dec_a6_i [.v (.int .i64 p), .v (.int .i64 colour), .v (.agg ⟨[.int .i64 l.1, .int .i64 l.2.1, .int .i64 l.2.2]⟩)] = Fo_i_ReflectionIn p colour l := by
  kernel_rfl
def i_ReflectionIn (p : Int) (colour : Int) (l : Int × Int × Int) : (Int × Int × Int × Int × Int × Int) × Int :=
  (if ((i_asked p (true) (i_ReflectionIn_c1 colour p l)) != 0) = true then ((0, 0, 0, 0, 0, 0), (i_asked p (true) (i_ReflectionIn_c1 colour p l))) else (if (i_isNull p colour l) = true then ((0, 0, 0, 0, 0, 0), 5) else ((i_mapOf p (fun a0 => prB p) (fun a0 => i_ReflectionIn_c2 a0 p colour l)), 0)))
theorem tot_i_ReflectionIn (p : Int) (colour : Int) (l : Int × Int × Int) : Fo_i_ReflectionIn p colour l = some (i_ReflectionIn p colour l) := by
  unfold Fo_i_ReflectionIn i_ReflectionIn
  (try simp only [wI_eq])
  repeat' (first | with_reducible rfl | refine chk_opt (by first | with_reducible rfl | exact Bool.true_or _ | (with_reducible exact asked_prB ‹_›) | (with_reducible exact asked_prB0 ‹_›) | exact mk_ok (by (first | (with_reducible assumption) | (with_reducible exact asked_prB ‹_›) | (with_reducible exact asked_prB0 ‹_›))) | exact and_all (by (first | (with_reducible assumption) | (with_reducible exact asked_prB ‹_›) | (with_reducible exact asked_prB0 ‹_›))) (fun _ => rfl) | exact and_all (by (first | (with_reducible assumption) | (with_reducible exact asked_prB ‹_›) | (with_reducible exact asked_prB0 ‹_›))) (fun _ => by (first | (with_reducible assumption) | (with_reducible exact asked_prB ‹_›) | (with_reducible exact asked_prB0 ‹_›))) | exact and3 (by (first | (with_reducible assumption) | (with_reducible exact asked_prB ‹_›) | (with_reducible exact asked_prB0 ‹_›))) (by (first | (with_reducible assumption) | (with_reducible exact asked_prB ‹_›) | (with_reducible exact asked_prB0 ‹_›))) (by (first | (with_reducible assumption) | (with_reducible exact asked_prB ‹_›) | (with_reducible exact asked_prB0 ‹_›))) | exact and_two (by (first | (with_reducible assumption) | (with_reducible exact asked_prB ‹_›) | (with_reducible exact asked_prB0 ‹_›))) rfl | exact map3_ok (by (first | (with_reducible assumption) | (with_reducible exact asked_prB ‹_›) | (with_reducible exact asked_prB0 ‹_›))) | rfl) ?_ | refine ite_opt (fun _ => ?_) (fun _ => ?_) | rfl)
def run_i_ReflectionIn : List PV → Option (Bool × List TR)
  | [.v (.int .i64 p), .v (.int .i64 colour), .v (.agg ⟨[.int .i64 l0, .int .i64 l1, .int .i64 l2]⟩)] => some (true, enc_a6_i (i_ReflectionIn p colour (l0, l1, l2)))
  | _ => none
theorem sound_i_ReflectionIn : Sound Tryz.prog 34 run_i_ReflectionIn := by
  refine sound_of de_a6_i SO_i_ReflectionIn (by kernel_rfl) Tryz.func34 Tryz.ntmps34 rfl (by kernel_rfl) ?_
  intro W pvs avs rs hargs hrun
  unfold run_i_ReflectionIn at hrun
  split at hrun
  · simp only [Option.some.injEq, Prod.mk.injEq] at hrun
    obtain ⟨hp, rfl⟩ := hrun
    rename_i p colour l0 l1 l2
    exact ⟨_, _, _, hargs, rfl, (eq_i_ReflectionIn p colour (l0, l1, l2)).trans (tot_i_ReflectionIn p colour (l0, l1, l2))⟩
  · cases hrun

def S_s_l01Times : Sums := ⟨tblS [(134, run_s_l01Mod)], tblM []⟩
theorem SO_s_l01Times : SumsOK Tryz.prog S_s_l01Times := ⟨tblS_ok ⟨⟨Tryz.call134, sound_s_l01Mod⟩, True.intro⟩, tblM_ok True.intro⟩
def Fo_s_l01Times (p : Int) (t : Int) (a : Int × Int) : Option (Int × Int) :=
  (if (prB p) = true then (if (prB p) = true then some ((s_l01Mod (wI (t * a.1)) p), (s_l01Mod (wI (t * a.2)) p)) else none) else none)
theorem eq_s_l01Times (p : Int) (t : Int) (a : Int × Int) : execT Tryz.prog S_s_l01Times 155 20 (fun _ => 1000000) dec_a2 [.v (.int .i64 p), .v (.int .i64 t), .v (.agg ⟨[.int .i64 a.1, .int .i64 a.2]⟩)] = Fo_s_l01Times p t a := by
  kernel_rfl
def s_l01Times (p : Int) (t : Int) (a : Int × Int) : Int × Int :=
  ((s_l01Mod (wrap64 (t * a.1)) p), (s_l01Mod (wrap64 (t * a.2)) p))
theorem tot_s_l01Times (p : Int) (t : Int) (a : Int × Int) (hp : (prB p) = true) : Fo_s_l01Times p t a = some (s_l01Times p t a) := by
  try have h0 := prB_ne hp
  unfold Fo_s_l01Times s_l01Times
  (try simp only [wI_eq])
  repeat' (first | with_reducible rfl | with_reducible refine chk_opt hp ?_ | with_reducible refine chk_opt h0 ?_ | refine chk_opt (and_all hp fun _ => hp) ?_ | refine chk_opt (and_all hp fun _ => rfl) ?_ | refine ite_opt (fun _ => ?_) (fun _ => ?_) | rfl)
def run_s_l01Times : List PV → Option (Bool × List TR)
  | [.v (.int .i64 p), .v (.int .i64 t), .v (.agg ⟨[.int .i64 a0, .int .i64 a1]⟩)] => some (prB p, enc_a2 (s_l01Times p t (a0, a1)))
  | _ => none
theorem sound_s_l01Times : Sound Tryz.prog 155 run_s_l01Times := by
  refine sound_of de_a2 SO_s_l01Times (by kernel_rfl) Tryz.func155 Tryz.ntmps155 rfl (by kernel_rfl) ?_
  intro W pvs avs rs hargs hrun
  unfold run_s_l01Times at hrun
  split at hrun
  · simp only [Option.some.injEq, Prod.mk.injEq] at hrun
    obtain ⟨hp, rfl⟩ := hrun
    rename_i p t a0 a1
    exact ⟨_, _, _, hargs, rfl, (eq_s_l01Times p t (a0, a1)).trans (tot_s_l01Times p t (a0, a1) hp)⟩
  · cases hrun

def S_s_l07Along : Sums := ⟨tblS [(151, run_s_l02Product), (155, run_s_l01Times), (129, run_s_l01Minus)], tblM []⟩
theorem SO_s_l07Along : SumsOK Tryz.prog S_s_l07Along := ⟨tblS_ok ⟨⟨Tryz.call151, sound_s_l02Product⟩, ⟨Tryz.call155, sound_s_l01Times⟩, ⟨Tryz.call129, sound_s_l01Minus⟩, True.intro⟩, tblM_ok True.intro⟩
def Fo_s_l07Along (p : Int) (colour : Int) (d : Int × Int) (by_ : Int) (a : Int × Int) : Option (Int × Int) :=
  (if (prB p) = true then (if (!(p == 0)) = true then (if (prB p) = true then (if (prB p) = true then some (s_l01Minus p (s_l01Times p ((wI (by_ * (s_l02Product p colour a d))).tmod p) d) a) else none) else none) else none) else none)
theorem eq_s_l07Along (p : Int) (colour : Int) (d : Int × Int) (by_ : Int) (a : Int × Int) : execT Tryz.prog S_s_l07Along 153 26 (fun _ => 1000000) dec_a2 [.v (.int .i64 p), .v (.int .i64 colour), .v (.agg ⟨[.int .i64 d.1, .int .i64 d.2]⟩), .v (.int .i64 by_), .v (.agg ⟨[.int .i64 a.1, .int .i64 a.2]⟩)] = Fo_s_l07Along p colour d by_ a := by
  kernel_rfl
def s_l07Along (p : Int) (colour : Int) (d : Int × Int) (by_ : Int) (a : Int × Int) : Int × Int :=
  (s_l01Minus p (s_l01Times p ((wrap64 (by_ * (s_l02Product p colour a d))).tmod p) d) a)
theorem tot_s_l07Along (p : Int) (colour : Int) (d : Int × Int) (by_ : Int) (a : Int × Int) (hp : (prB p) = true) : Fo_s_l07Along p colour d by_ a = some (s_l07Along p colour d by_ a) := by
  try have h0 := prB_ne hp
  unfold Fo_s_l07Along s_l07Along
  (try simp only [wI_eq])
  repeat' (first | with_reducible rfl | with_reducible refine chk_opt hp ?_ | with_reducible refine chk_opt h0 ?_ | refine chk_opt (and_all hp fun _ => hp) ?_ | refine chk_opt (and_all hp fun _ => rfl) ?_ | refine ite_opt (fun _ => ?_) (fun _ => ?_) | rfl)
def run_s_l07Along : List PV → Option (Bool × List TR)
  | [.v (.int .i64 p), .v (.int .i64 colour), .v (.agg ⟨[.int .i64 d0, .int .i64 d1]⟩), .v (.int .i64 by_), .v (.agg ⟨[.int .i64 a0, .int .i64 a1]⟩)] => some (prB p, enc_a2 (s_l07Along p colour (d0, d1) by_ (a0, a1)))
  | _ => none
theorem sound_s_l07Along : Sound Tryz.prog 153 run_s_l07Along := by
  refine sound_of de_a2 SO_s_l07Along (by kernel_rfl) Tryz.func153 Tryz.ntmps153 rfl (by kernel_rfl) ?_
  intro W pvs avs rs hargs hrun
  unfold run_s_l07Along at hrun
  split at hrun
  · simp only [Option.some.injEq, Prod.mk.injEq] at hrun
    obtain ⟨hp, rfl⟩ := hrun
    rename_i p colour d0 d1 by_ a0 a1
    exact ⟨_, _, _, hargs, rfl, (eq_s_l07Along p colour (d0, d1) by_ (a0, a1)).trans (tot_s_l07Along p colour (d0, d1) by_ (a0, a1) hp)⟩
  · cases hrun

def S_s_l07Reflection : Sums := ⟨tblS [(142, run_s_l02Direction), (151, run_s_l02Product), (152, run_s_l01Inverse), (153, run_s_l07Along), (95, run_s_l07Two), (130, run_s_l07Lead), (129, run_s_l01Minus)], tblM []⟩
theorem SO_s_l07Reflection : SumsOK Tryz.prog S_s_l07Reflection := ⟨tblS_ok ⟨⟨Tryz.call142, sound_s_l02Direction⟩, ⟨Tryz.call151, sound_s_l02Product⟩, ⟨Tryz.call152, sound_s_l01Inverse⟩, ⟨Tryz.call153, sound_s_l07Along⟩, ⟨Tryz.call95, sound_s_l07Two⟩, ⟨Tryz.call130, sound_s_l07Lead⟩, ⟨Tryz.call129, sound_s_l01Minus⟩, True.intro⟩, tblM_ok True.intro⟩
def Fo_s_l07Reflection (p : Int) (colour : Int) (l : Int × Int × Int) : Option (Int × Int × Int × Int × Int × Int) :=
  (if (prB p) = true then (if (prB p) = true then (if (prB p) = true then (if (prB p) = true then (if (prB p) = true then (if (prB p) = true then (if (prB p) = true then (if (prB p) = true then some ((s_l07Along p colour (s_l02Direction p l) (wI (2 * (s_l01Inverse (s_l02Product p colour (s_l02Direction p l) (s_l02Direction p l)) p))) (1, 0)).1, (s_l07Along p colour (s_l02Direction p l) (wI (2 * (s_l01Inverse (s_l02Product p colour (s_l02Direction p l) (s_l02Direction p l)) p))) (0, 1)).1, (s_l07Along p colour (s_l02Direction p l) (wI (2 * (s_l01Inverse (s_l02Product p colour (s_l02Direction p l) (s_l02Direction p l)) p))) (1, 0)).2, (s_l07Along p colour (s_l02Direction p l) (wI (2 * (s_l01Inverse (s_l02Product p colour (s_l02Direction p l) (s_l02Direction p l)) p))) (0, 1)).2, (s_l01Minus p ((s_l07Two p l).1) (s_l07Lead p ((s_l07Along p colour (s_l02Direction p l) (wI (2 * (s_l01Inverse (s_l02Product p colour (s_l02Direction p l) (s_l02Direction p l)) p))) (1, 0)).1, (s_l07Along p colour (s_l02Direction p l) (wI (2 * (s_l01Inverse (s_l02Product p colour (s_l02Direction p l) (s_l02Direction p l)) p))) (0, 1)).1, (s_l07Along p colour (s_l02Direction p l) (wI (2 * (s_l01Inverse (s_l02Product p colour (s_l02Direction p l) (s_l02Direction p l)) p))) (1, 0)).2, (s_l07Along p colour (s_l02Direction p l) (wI (2 * (s_l01Inverse (s_l02Product p colour (s_l02Direction p l) (s_l02Direction p l)) p))) (0, 1)).2, 0, 0) ((s_l07Two p l).1))).1, (s_l01Minus p ((s_l07Two p l).1) (s_l07Lead p ((s_l07Along p colour (s_l02Direction p l) (wI (2 * (s_l01Inverse (s_l02Product p colour (s_l02Direction p l) (s_l02Direction p l)) p))) (1, 0)).1, (s_l07Along p colour (s_l02Direction p l) (wI (2 * (s_l01Inverse (s_l02Product p colour (s_l02Direction p l) (s_l02Direction p l)) p))) (0, 1)).1, (s_l07Along p colour (s_l02Direction p l) (wI (2 * (s_l01Inverse (s_l02Product p colour (s_l02Direction p l) (s_l02Direction p l)) p))) (1, 0)).2, (s_l07Along p colour (s_l02Direction p l) (wI (2 * (s_l01Inverse (s_l02Product p colour (s_l02Direction p l) (s_l02Direction p l)) p))) (0, 1)).2, 0, 0) ((s_l07Two p l).1))).2) else none) else none) else none) else none) else none) else none) else none) else none)
theorem eq_s_l07Reflection (p : Int) (colour : Int) (l : Int × Int × Int) : execT Tryz.prog S_s_l07Reflection 110 62 (fun _ => 1000000) dec_a6 [.v (.int .i64 p), .v (.int .i64 colour), .v (.agg ⟨[.int .i64 l.1, .int .i64 l.2.1, .int .i64 l.2.2]⟩)] = Fo_s_l07Reflection p colour l := by
  kernel_rfl
def s_l07Reflection (p : Int) (colour : Int) (l : Int × Int × Int) : Int × Int × Int × Int × Int × Int :=
  ((s_l07Along p colour (s_l02Direction p l) (wrap64 (2 * (s_l01Inverse (s_l02Product p colour (s_l02Direction p l) (s_l02Direction p l)) p))) (1, 0)).1, (s_l07Along p colour (s_l02Direction p l) (wrap64 (2 * (s_l01Inverse (s_l02Product p colour (s_l02Direction p l) (s_l02Direction p l)) p))) (0, 1)).1, (s_l07Along p colour (s_l02Direction p l) (wrap64 (2 * (s_l01Inverse (s_l02Product p colour (s_l02Direction p l) (s_l02Direction p l)) p))) (1, 0)).2, (s_l07Along p colour (s_l02Direction p l) (wrap64 (2 * (s_l01Inverse (s_l02Product p colour (s_l02Direction p l) (s_l02Direction p l)) p))) (0, 1)).2, (s_l01Minus p ((s_l07Two p l).1) (s_l07Lead p ((s_l07Along p colour (s_l02Direction p l) (wrap64 (2 * (s_l01Inverse (s_l02Product p colour (s_l02Direction p l) (s_l02Direction p l)) p))) (1, 0)).1, (s_l07Along p colour (s_l02Direction p l) (wrap64 (2 * (s_l01Inverse (s_l02Product p colour (s_l02Direction p l) (s_l02Direction p l)) p))) (0, 1)).1, (s_l07Along p colour (s_l02Direction p l) (wrap64 (2 * (s_l01Inverse (s_l02Product p colour (s_l02Direction p l) (s_l02Direction p l)) p))) (1, 0)).2, (s_l07Along p colour (s_l02Direction p l) (wrap64 (2 * (s_l01Inverse (s_l02Product p colour (s_l02Direction p l) (s_l02Direction p l)) p))) (0, 1)).2, 0, 0) ((s_l07Two p l).1))).1, (s_l01Minus p ((s_l07Two p l).1) (s_l07Lead p ((s_l07Along p colour (s_l02Direction p l) (wrap64 (2 * (s_l01Inverse (s_l02Product p colour (s_l02Direction p l) (s_l02Direction p l)) p))) (1, 0)).1, (s_l07Along p colour (s_l02Direction p l) (wrap64 (2 * (s_l01Inverse (s_l02Product p colour (s_l02Direction p l) (s_l02Direction p l)) p))) (0, 1)).1, (s_l07Along p colour (s_l02Direction p l) (wrap64 (2 * (s_l01Inverse (s_l02Product p colour (s_l02Direction p l) (s_l02Direction p l)) p))) (1, 0)).2, (s_l07Along p colour (s_l02Direction p l) (wrap64 (2 * (s_l01Inverse (s_l02Product p colour (s_l02Direction p l) (s_l02Direction p l)) p))) (0, 1)).2, 0, 0) ((s_l07Two p l).1))).2)
theorem tot_s_l07Reflection (p : Int) (colour : Int) (l : Int × Int × Int) (hp : (prB p) = true) : Fo_s_l07Reflection p colour l = some (s_l07Reflection p colour l) := by
  try have h0 := prB_ne hp
  unfold Fo_s_l07Reflection s_l07Reflection
  (try simp only [wI_eq])
  repeat' (first | with_reducible rfl | with_reducible refine chk_opt hp ?_ | with_reducible refine chk_opt h0 ?_ | refine chk_opt (and_all hp fun _ => hp) ?_ | refine chk_opt (and_all hp fun _ => rfl) ?_ | refine ite_opt (fun _ => ?_) (fun _ => ?_) | rfl)
def run_s_l07Reflection : List PV → Option (Bool × List TR)
  | [.v (.int .i64 p), .v (.int .i64 colour), .v (.agg ⟨[.int .i64 l0, .int .i64 l1, .int .i64 l2]⟩)] => some (prB p, enc_a6 (s_l07Reflection p colour (l0, l1, l2)))
  | _ => none
theorem sound_s_l07Reflection : Sound Tryz.prog 110 run_s_l07Reflection := by
  refine sound_of de_a6 SO_s_l07Reflection (by kernel_rfl) Tryz.func110 Tryz.ntmps110 rfl (by kernel_rfl) ?_
  intro W pvs avs rs hargs hrun
  unfold run_s_l07Reflection at hrun
  split at hrun
  · simp only [Option.some.injEq, Prod.mk.injEq] at hrun
    obtain ⟨hp, rfl⟩ := hrun
    rename_i p colour l0 l1 l2
    exact ⟨_, _, _, hargs, rfl, (eq_s_l07Reflection p colour (l0, l1, l2)).trans (tot_s_l07Reflection p colour (l0, l1, l2) hp)⟩
  · cases hrun

def S_s_ReflectionIn : Sums := ⟨tblS [(108, run_s_l03Colour), (109, run_s_l03Null), (110, run_s_l07Reflection)], tblM []⟩
theorem SO_s_ReflectionIn : SumsOK Tryz.prog S_s_ReflectionIn := ⟨tblS_ok ⟨⟨Tryz.call108, sound_s_l03Colour⟩, ⟨Tryz.call109, sound_s_l03Null⟩, ⟨Tryz.call110, sound_s_l07Reflection⟩, True.intro⟩, tblM_ok True.intro⟩
def Fo_s_ReflectionIn (p : Int) (colour : Int) (l : Int × Int × Int) : Option ((Int × Int × Int × Int × Int × Int) × Int) :=
  (if ((s_l03Colour p colour 1 [l.1, l.2.1, l.2.2]) == 0) = true then (if (prB p) = true then (if (s_l03Null p colour l) = true then some ((0, 0, 0, 0, 0, 0), 5) else (if ((s_l03Colour p colour 1 [l.1, l.2.1, l.2.2]) != 0) = true then some ((0, 0, 0, 0, 0, 0), (s_l03Colour p colour 1 [l.1, l.2.1, l.2.2])) else (if (prB p) = true then some ((s_l07Reflection p colour l), 0) else none))) else none) else (if ((s_l03Colour p colour 1 [l.1, l.2.1, l.2.2]) != 0) = true then some ((0, 0, 0, 0, 0, 0), (s_l03Colour p colour 1 [l.1, l.2.1, l.2.2])) else (if (prB p) = true then some ((s_l07Reflection p colour l), 0) else none)))
theorem eq_s_ReflectionIn (p : Int) (colour : Int) (l : Int × Int × Int) : execT Tryz.prog S_s_ReflectionIn 35 30 (fun _ => 1000000) dec_a6_i [.v (.int .i64 p), .v (.int .i64 colour), .v (.agg ⟨[.int .i64 l.1, .int .i64 l.2.1, .int .i64 l.2.2]⟩)] = Fo_s_ReflectionIn p colour l := by
  kernel_rfl
def s_ReflectionIn (p : Int) (colour : Int) (l : Int × Int × Int) : (Int × Int × Int × Int × Int × Int) × Int :=
  (if ((s_l03Colour p colour 1 [l.1, l.2.1, l.2.2]) == 0) = true then (if (s_l03Null p colour l) = true then ((0, 0, 0, 0, 0, 0), 5) else (if ((s_l03Colour p colour 1 [l.1, l.2.1, l.2.2]) != 0) = true then ((0, 0, 0, 0, 0, 0), (s_l03Colour p colour 1 [l.1, l.2.1, l.2.2])) else ((s_l07Reflection p colour l), 0))) else (if ((s_l03Colour p colour 1 [l.1, l.2.1, l.2.2]) != 0) = true then ((0, 0, 0, 0, 0, 0), (s_l03Colour p colour 1 [l.1, l.2.1, l.2.2])) else ((s_l07Reflection p colour l), 0)))
theorem tot_s_ReflectionIn (p : Int) (colour : Int) (l : Int × Int × Int) : Fo_s_ReflectionIn p colour l = some (s_ReflectionIn p colour l) := by
  unfold Fo_s_ReflectionIn s_ReflectionIn
  (try simp only [wI_eq])
  repeat' (first | with_reducible rfl | refine chk_opt (by first | with_reducible rfl | exact Bool.true_or _ | (with_reducible exact l03Colour_prB ‹_›) | (with_reducible exact l03Colour_prB0 ‹_›) | exact mk_ok (by (first | (with_reducible assumption) | (with_reducible exact l03Colour_prB ‹_›) | (with_reducible exact l03Colour_prB0 ‹_›))) | exact and_all (by (first | (with_reducible assumption) | (with_reducible exact l03Colour_prB ‹_›) | (with_reducible exact l03Colour_prB0 ‹_›))) (fun _ => rfl) | exact and_all (by (first | (with_reducible assumption) | (with_reducible exact l03Colour_prB ‹_›) | (with_reducible exact l03Colour_prB0 ‹_›))) (fun _ => by (first | (with_reducible assumption) | (with_reducible exact l03Colour_prB ‹_›) | (with_reducible exact l03Colour_prB0 ‹_›))) | exact and3 (by (first | (with_reducible assumption) | (with_reducible exact l03Colour_prB ‹_›) | (with_reducible exact l03Colour_prB0 ‹_›))) (by (first | (with_reducible assumption) | (with_reducible exact l03Colour_prB ‹_›) | (with_reducible exact l03Colour_prB0 ‹_›))) (by (first | (with_reducible assumption) | (with_reducible exact l03Colour_prB ‹_›) | (with_reducible exact l03Colour_prB0 ‹_›))) | exact and_two (by (first | (with_reducible assumption) | (with_reducible exact l03Colour_prB ‹_›) | (with_reducible exact l03Colour_prB0 ‹_›))) rfl | exact map3_ok (by (first | (with_reducible assumption) | (with_reducible exact l03Colour_prB ‹_›) | (with_reducible exact l03Colour_prB0 ‹_›))) | rfl) ?_ | refine ite_opt (fun _ => ?_) (fun _ => ?_) | rfl)
def run_s_ReflectionIn : List PV → Option (Bool × List TR)
  | [.v (.int .i64 p), .v (.int .i64 colour), .v (.agg ⟨[.int .i64 l0, .int .i64 l1, .int .i64 l2]⟩)] => some (true, enc_a6_i (s_ReflectionIn p colour (l0, l1, l2)))
  | _ => none
theorem sound_s_ReflectionIn : Sound Tryz.prog 35 run_s_ReflectionIn := by
  refine sound_of de_a6_i SO_s_ReflectionIn (by kernel_rfl) Tryz.func35 Tryz.ntmps35 rfl (by kernel_rfl) ?_
  intro W pvs avs rs hargs hrun
  unfold run_s_ReflectionIn at hrun
  split at hrun
  · simp only [Option.some.injEq, Prod.mk.injEq] at hrun
    obtain ⟨hp, rfl⟩ := hrun
    rename_i p colour l0 l1 l2
    exact ⟨_, _, _, hargs, rfl, (eq_s_ReflectionIn p colour (l0, l1, l2)).trans (tot_s_ReflectionIn p colour (l0, l1, l2))⟩
  · cases hrun


end

end Go.Proofs.YtoblkbpejfojjaaGreatDoor
