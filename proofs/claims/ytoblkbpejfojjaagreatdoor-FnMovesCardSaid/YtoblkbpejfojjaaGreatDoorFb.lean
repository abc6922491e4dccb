import Derived.Test.YtoblkbpejfojjaaGreatDoorFa
import Derived.Test.YtoblkbpejfojjaaGreatDoorProg
set_option linter.unusedSimpArgs false
set_option linter.unusedVariables false
namespace Go.Proofs.YtoblkbpejfojjaaGreatDoor
open Go.RowKit
noncomputable section
def S_s_l07Less : Sums := ⟨tblS [], tblM []⟩
theorem SO_s_l07Less : SumsOK Tryz.prog S_s_l07Less := ⟨tblS_ok True.intro, tblM_ok True.intro⟩
def Fo_s_l07Less (m : Int × Int × Int × Int × Int × Int) (n_ : Int × Int × Int × Int × Int × Int) : Option (Bool) :=
  (if (m.1 != n_.1) = true then some (decide (m.1 < n_.1)) else (if (m.2.1 != n_.2.1) = true then some (decide (m.2.1 < n_.2.1)) else (if (m.2.2.1 != n_.2.2.1) = true then some (decide (m.2.2.1 < n_.2.2.1)) else (if (m.2.2.2.1 != n_.2.2.2.1) = true then some (decide (m.2.2.2.1 < n_.2.2.2.1)) else (if (m.2.2.2.2.1 != n_.2.2.2.2.1) = true then some (decide (m.2.2.2.2.1 < n_.2.2.2.2.1)) else some (decide (m.2.2.2.2.2 < n_.2.2.2.2.2)))))))
theorem eq_s_l07Less (m : Int × Int × Int × Int × Int × Int) (n_ : Int × Int × Int × Int × Int × Int) : execT Tryz.prog S_s_l07Less 157 49 (fun _ => 1000000) dec_b [.v (.agg ⟨[.int .i64 m.1, .int .i64 m.2.1, .int .i64 m.2.2.1, .int .i64 m.2.2.2.1, .int .i64 m.2.2.2.2.1, .int .i64 m.2.2.2.2.2]⟩), .v (.agg ⟨[.int .i64 n_.1, .int .i64 n_.2.1, .int .i64 n_.2.2.1, .int .i64 n_.2.2.2.1, .int .i64 n_.2.2.2.2.1, .int .i64 n_.2.2.2.2.2]⟩)] = Fo_s_l07Less m n_ := by
  kernel_rfl
def s_l07Less (m : Int × Int × Int × Int × Int × Int) (n_ : Int × Int × Int × Int × Int × Int) : Bool :=
  (if (m.1 != n_.1) = true then decide (m.1 < n_.1) else (if (m.2.1 != n_.2.1) = true then decide (m.2.1 < n_.2.1) else (if (m.2.2.1 != n_.2.2.1) = true then decide (m.2.2.1 < n_.2.2.1) else (if (m.2.2.2.1 != n_.2.2.2.1) = true then decide (m.2.2.2.1 < n_.2.2.2.1) else (if (m.2.2.2.2.1 != n_.2.2.2.2.1) = true then decide (m.2.2.2.2.1 < n_.2.2.2.2.1) else decide (m.2.2.2.2.2 < n_.2.2.2.2.2))))))
theorem tot_s_l07Less (m : Int × Int × Int × Int × Int × Int) (n_ : Int × Int × Int × Int × Int × Int) : Fo_s_l07Less m n_ = some (s_l07Less m n_) := by
  unfold Fo_s_l07Less s_l07Less
  (try simp only [wI_eq])
  repeat' (first | with_reducible rfl | refine ite_opt (fun _ => ?_) (fun _ => ?_) | rfl)
def run_s_l07Less : List PV → Option (Bool × List TR)
  | [.v (.agg ⟨[.int .i64 m0, .int .i64 m1, .int .i64 m2, .int .i64 m3, .int .i64 m4, .int .i64 m5]⟩), .v (.agg ⟨[.int .i64 n_0, .int .i64 n_1, .int .i64 n_2, .int .i64 n_3, .int .i64 n_4, .int .i64 n_5]⟩)] => some (true, enc_b (s_l07Less (m0, m1, m2, m3, m4, m5) (n_0, n_1, n_2, n_3, n_4, n_5)))
  | _ => none
theorem sound_s_l07Less : Sound Tryz.prog 157 run_s_l07Less := by
  refine sound_of de_b SO_s_l07Less (by kernel_rfl) Tryz.func157 Tryz.ntmps157 rfl (by kernel_rfl) ?_
  intro W pvs avs rs hargs hrun
  unfold run_s_l07Less at hrun
  split at hrun
  · simp only [Option.some.injEq, Prod.mk.injEq] at hrun
    obtain ⟨hp, rfl⟩ := hrun
    rename_i m0 m1 m2 m3 m4 m5 n_0 n_1 n_2 n_3 n_4 n_5
    exact ⟨_, _, _, hargs, rfl, (eq_s_l07Less (m0, m1, m2, m3, m4, m5) (n_0, n_1, n_2, n_3, n_4, n_5)).trans (tot_s_l07Less (m0, m1, m2, m3, m4, m5) (n_0, n_1, n_2, n_3, n_4, n_5))⟩
  · cases hrun

def S_s_l07Put : Sums := ⟨tblS [(157, run_s_l07Less)], tblM []⟩
theorem SO_s_l07Put : SumsOK Tryz.prog S_s_l07Put := ⟨tblS_ok ⟨⟨Tryz.call157, sound_s_l07Less⟩, True.intro⟩, tblM_ok True.intro⟩
def T_s_l07Put_0 (listn : Nat) (listl : List Int) (m : Int × Int × Int × Int × Int × Int) (j_at : Int) : Tab := ⟨[.row 0, .val (.agg ⟨[.int .i64 m.1, .int .i64 m.2.1, .int .i64 m.2.2.1, .int .i64 m.2.2.2.1, .int .i64 m.2.2.2.2.1, .int .i64 m.2.2.2.2.2]⟩), .junk, .ptr 12 0, .val (.slice none 0 0), .val (.int .i64 j_at), .junk, .row 0, .val (.int .i64 ((listn : Nat) : Int)), .junk, .junk, .junk, .junk, .junk, .junk, .junk, .junk, .junk, .junk, .junk, .junk, .junk, .junk, .junk, .junk, .junk, .junk, .junk, .junk, .junk, .junk, .junk, .junk, .junk, .junk], [(0, .ros listn (.ints listl)), (12, .box 28 [.val (.int .i64 m.1), .val (.int .i64 m.2.1), .val (.int .i64 m.2.2.1), .val (.int .i64 m.2.2.2.1), .val (.int .i64 m.2.2.2.2.1), .val (.int .i64 m.2.2.2.2.2)])]⟩
def X_s_l07Put_0 (P : Program) (fu : Nat) (listn : Nat) (listl : List Int) (m : Int × Int × Int × Int × Int × Int) (f : Nat) (j_at : Int) : Option (Nat × List Int) := loopK (exec P S_s_l07Put 35 (fun _ => fu + 100) (Code.sub [1, 1, 0, 0, 0] (bodyF P 120))) f (T_s_l07Put_0 listn listl m j_at) (kBlock 0 (kSeq (fun zs9 => exec P S_s_l07Put 35 (fun _ => fu + 100) (Code.sub [1, 1, 1] (bodyF P 120)) zs9 (finT P 120 dec_l28_6)) (finT P 120 dec_l28_6)))
def B_s_l07Put_0 (listn : Nat) (listl : List Int) (m : Int × Int × Int × Int × Int × Int) (rec0 : Int → Option (Nat × List Int)) (j_at : Int) : Option (Nat × List Int) :=
  (if (decide (j_at > 0)) = true then (if (decide (0 ≤ wI (j_at - 1)) && decide (wI (j_at - 1) < ((listn : Nat) : Int))) = true then (if (Nat.ble (((wI (j_at - 1)).toNat) * 6 + 6) listl.length) = true then (if (s_l07Less m (listl.getD (((wI (j_at - 1)).toNat) * 6 + 0) 0, listl.getD (((wI (j_at - 1)).toNat) * 6 + 1) 0, listl.getD (((wI (j_at - 1)).toNat) * 6 + 2) 0, listl.getD (((wI (j_at - 1)).toNat) * 6 + 3) 0, listl.getD (((wI (j_at - 1)).toNat) * 6 + 4) 0, listl.getD (((wI (j_at - 1)).toNat) * 6 + 5) 0)) = true then rec0 (wI (j_at - 1)) else (if (decide (0 ≤ 0) && decide (0 ≤ j_at) && decide (j_at ≤ ((listn : Nat) : Int))) = true then (if (Nat.ble 0 j_at.toNat && Nat.ble (0 + j_at.toNat) 1000000 && Nat.beq (((listl.drop 0).take (j_at.toNat * 6)).length) (j_at.toNat * 6)) = true then (if (Nat.ble 0 1 && Nat.ble (0 + j_at.toNat + 1) 1000000 && Nat.beq 6 (6)) = true then (if (decide (0 ≤ j_at) && decide (j_at ≤ ((listn : Nat) : Int)) && decide (((listn : Nat) : Int) ≤ ((listn : Nat) : Int))) = true then (if (Nat.ble 0 (listn - j_at.toNat) && Nat.ble (0 + j_at.toNat + 1 + (listn - j_at.toNat)) 1000000 && Nat.beq (((listl.drop (j_at.toNat * 6)).take ((listn - j_at.toNat) * 6)).length) ((listn - j_at.toNat) * 6)) = true then some (0 + j_at.toNat + 1 + (listn - j_at.toNat), (([] ++ (listl.drop 0).take (j_at.toNat * 6)) ++ [m.1, m.2.1, m.2.2.1, m.2.2.2.1, m.2.2.2.2.1, m.2.2.2.2.2]) ++ ((listl.drop (j_at.toNat * 6)).take ((listn - j_at.toNat) * 6))) else none) else none) else none) else none) else none)) else none) else none) else (if (decide (0 ≤ 0) && decide (0 ≤ j_at) && decide (j_at ≤ ((listn : Nat) : Int))) = true then (if (Nat.ble 0 j_at.toNat && Nat.ble (0 + j_at.toNat) 1000000 && Nat.beq (((listl.drop 0).take (j_at.toNat * 6)).length) (j_at.toNat * 6)) = true then (if (Nat.ble 0 1 && Nat.ble (0 + j_at.toNat + 1) 1000000 && Nat.beq 6 (6)) = true then (if (decide (0 ≤ j_at) && decide (j_at ≤ ((listn : Nat) : Int)) && decide (((listn : Nat) : Int) ≤ ((listn : Nat) : Int))) = true then (if (Nat.ble 0 (listn - j_at.toNat) && Nat.ble (0 + j_at.toNat + 1 + (listn - j_at.toNat)) 1000000 && Nat.beq (((listl.drop (j_at.toNat * 6)).take ((listn - j_at.toNat) * 6)).length) ((listn - j_at.toNat) * 6)) = true then some (0 + j_at.toNat + 1 + (listn - j_at.toNat), (([] ++ (listl.drop 0).take (j_at.toNat * 6)) ++ [m.1, m.2.1, m.2.2.1, m.2.2.2.1, m.2.2.2.2.1, m.2.2.2.2.2]) ++ ((listl.drop (j_at.toNat * 6)).take ((listn - j_at.toNat) * 6))) else none) else none) else none) else none) else none))
def L_s_l07Put_0 (fu : Nat) (listn : Nat) (listl : List Int) (m : Int × Int × Int × Int × Int × Int) : Nat → Int → Option (Nat × List Int)
  | 0, _ => none
  | f + 1, j_at => B_s_l07Put_0 listn listl m (L_s_l07Put_0 fu listn listl m f) j_at
theorem loop_s_l07Put_0 (fu : Nat) (listn : Nat) (listl : List Int) (m : Int × Int × Int × Int × Int × Int) : ∀ (f : Nat) (j_at : Int), X_s_l07Put_0 Tryz.prog fu listn listl m f j_at = L_s_l07Put_0 fu listn listl m f j_at := by
  intro f
  induction f with
  | zero => intros; rfl
  | succ f ih =>
    intro j_at
    have h1 : X_s_l07Put_0 Tryz.prog fu listn listl m (f + 1) j_at = B_s_l07Put_0 listn listl m (X_s_l07Put_0 Tryz.prog fu listn listl m f) j_at := by kernel_rfl
    have h2 : X_s_l07Put_0 Tryz.prog fu listn listl m f = L_s_l07Put_0 fu listn listl m f := by funext j_at; exact ih j_at
    rw [h1, h2]
    rfl
def G_s_l07Put (listn : Nat) (listl : List Int) (m : Int × Int × Int × Int × Int × Int) (lo0 : Int → Option (Nat × List Int)) : Option (Nat × List Int) :=
  lo0 ((listn : Nat) : Int)
def Fo_s_l07Put (fu : Nat) (listn : Nat) (listl : List Int) (m : Int × Int × Int × Int × Int × Int) : Option (Nat × List Int) := G_s_l07Put listn listl m (L_s_l07Put_0 fu listn listl m (fu + 100))
theorem eqg_s_l07Put (fu : Nat) (listn : Nat) (listl : List Int) (m : Int × Int × Int × Int × Int × Int) : execT Tryz.prog S_s_l07Put 120 35 (fun _ => fu + 100) dec_l28_6 [.s listn (.ints listl), .v (.agg ⟨[.int .i64 m.1, .int .i64 m.2.1, .int .i64 m.2.2.1, .int .i64 m.2.2.2.1, .int .i64 m.2.2.2.2.1, .int .i64 m.2.2.2.2.2]⟩)] = G_s_l07Put listn listl m (L_s_l07Put_0 fu listn listl m (fu + 100)) := by
  have h1 : execT Tryz.prog S_s_l07Put 120 35 (fun _ => fu + 100) dec_l28_6 [.s listn (.ints listl), .v (.agg ⟨[.int .i64 m.1, .int .i64 m.2.1, .int .i64 m.2.2.1, .int .i64 m.2.2.2.1, .int .i64 m.2.2.2.2.1, .int .i64 m.2.2.2.2.2]⟩)] = G_s_l07Put listn listl m (X_s_l07Put_0 Tryz.prog fu listn listl m (fu + 100)) := by kernel_rfl
  have c0 : X_s_l07Put_0 Tryz.prog fu listn listl m (fu + 100) = L_s_l07Put_0 fu listn listl m (fu + 100) := by funext j_at; exact loop_s_l07Put_0 fu listn listl m (fu + 100) j_at
  rw [h1, c0]
theorem eq_s_l07Put (fu : Nat) (listn : Nat) (listl : List Int) (m : Int × Int × Int × Int × Int × Int) : execT Tryz.prog S_s_l07Put 120 35 (fun _ => fu + 100) dec_l28_6 [.s listn (.ints listl), .v (.agg ⟨[.int .i64 m.1, .int .i64 m.2.1, .int .i64 m.2.2.1, .int .i64 m.2.2.2.1, .int .i64 m.2.2.2.2.1, .int .i64 m.2.2.2.2.2]⟩)] = Fo_s_l07Put fu listn listl m := eqg_s_l07Put fu listn listl m
def s_l07Put (listn : Nat) (listl : List Int) (m : Int × Int × Int × Int × Int × Int) : Nat × List Int := (Fo_s_l07Put 1000000 listn listl m).getD (0, [])
theorem tot_s_l07Put (listn : Nat) (listl : List Int) (m : Int × Int × Int × Int × Int × Int) (hp : ((Fo_s_l07Put 1000000 listn listl m).isSome) = true) : Fo_s_l07Put 1000000 listn listl m = some (s_l07Put listn listl m) := of_isSome hp
def run_s_l07Put : List PV → Option (Bool × List TR)
  | [.s listn (.ints listl), .v (.agg ⟨[.int .i64 m0, .int .i64 m1, .int .i64 m2, .int .i64 m3, .int .i64 m4, .int .i64 m5]⟩)] => some ((Fo_s_l07Put 1000000 listn listl (m0, m1, m2, m3, m4, m5)).isSome, enc_l28_6 (s_l07Put listn listl (m0, m1, m2, m3, m4, m5)))
  | _ => none
theorem sound_s_l07Put : Sound Tryz.prog 120 run_s_l07Put := by
  refine sound_of de_l28_6 SO_s_l07Put (by kernel_rfl) Tryz.func120 Tryz.ntmps120 rfl (by kernel_rfl) ?_
  intro W pvs avs rs hargs hrun
  unfold run_s_l07Put at hrun
  split at hrun
  · simp only [Option.some.injEq, Prod.mk.injEq] at hrun
    obtain ⟨hp, rfl⟩ := hrun
    rename_i listn listl m0 m1 m2 m3 m4 m5
    exact ⟨_, _, _, hargs, rfl, (eq_s_l07Put _ listn listl (m0, m1, m2, m3, m4, m5)).trans (tot_s_l07Put listn listl (m0, m1, m2, m3, m4, m5) hp)⟩
  · cases hrun

def S_s_l07All : Sums := ⟨tblS [(134, run_s_l01Mod), (132, run_s_l07Good), (54, run_s_l07Sign), (120, run_s_l07Put), (152, run_s_l01Inverse)], tblM []⟩
theorem SO_s_l07All : SumsOK Tryz.prog S_s_l07All := ⟨tblS_ok ⟨⟨Tryz.call134, sound_s_l01Mod⟩, ⟨Tryz.call132, sound_s_l07Good⟩, ⟨Tryz.call54, sound_s_l07Sign⟩, ⟨Tryz.call120, sound_s_l07Put⟩, ⟨Tryz.call152, sound_s_l01Inverse⟩, True.intro⟩, tblM_ok True.intro⟩
def T_s_l07All_2 (p : Int) (colour : Int) (sign : Int) (l13 : List Int) (m13 : Nat) (a : Int) : Tab := ⟨[.val (.int .i64 p), .val (.int .i64 colour), .val (.int .i64 sign), .junk, .junk, .junk, .val (.slice none 0 0), .row 52, .val (.int .i64 a), .junk, .junk, .junk, .junk, .junk, .junk, .junk, .junk, .junk, .junk, .junk, .junk, .junk, .junk, .junk, .junk, .junk, .junk, .junk, .junk, .junk, .junk, .junk, .junk, .junk, .junk, .junk, .junk, .junk, .junk, .junk, .junk, .junk, .junk, .junk, .junk, .junk, .junk, .junk, .junk, .junk, .junk, .junk, .junk, .junk, .junk, .junk, .junk, .junk, .junk, .junk, .junk, .junk, .junk, .junk, .junk, .junk, .junk, .junk, .junk, .junk, .junk, .junk, .junk, .junk, .junk, .junk, .junk, .junk], [(52, .row 28 6 m13 (.ints l13))]⟩
def T_s_l07All_3 (p : Int) (colour : Int) (sign : Int) (l13 : List Int) (m13 : Nat) (a : Int) (l13' : List Int) (m13' : Nat) (c : Int) : Tab := ⟨[.val (.int .i64 p), .val (.int .i64 colour), .val (.int .i64 sign), .junk, .junk, .junk, .val (.slice none 0 0), .row 52, .val (.int .i64 a), .val (.int .i64 c), .junk, .junk, .junk, .junk, .val (.int .i64 a), .val (.int .i64 p), .val (.bool (decide (a < p))), .junk, .junk, .junk, .junk, .junk, .junk, .junk, .junk, .junk, .junk, .junk, .junk, .junk, .junk, .junk, .junk, .junk, .junk, .junk, .junk, .junk, .junk, .junk, .junk, .junk, .junk, .junk, .junk, .junk, .junk, .junk, .junk, .junk, .junk, .junk, .junk, .junk, .junk, .junk, .junk, .junk, .junk, .junk, .junk, .junk, .junk, .junk, .junk, .junk, .junk, .junk, .junk, .junk, .junk, .junk, .junk, .junk, .junk, .junk, .junk, .junk], [(52, .row 28 6 m13' (.ints l13'))]⟩
def X_s_l07All_3 (P : Program) (fu : Nat) (p : Int) (colour : Int) (sign : Int) (l13 : List Int) (m13 : Nat) (a : Int) (rc2 : Tab → Option (Nat × List Int)) (f : Nat) (l13' : List Int) (m13' : Nat) (c : Int) : Option (Nat × List Int) := loopK (exec P S_s_l07All 78 (fuelOf fu []) (Code.sub [1, 1, 0, 1, 0, 0, 1, 0, 0, 1, 0, 0] (bodyF P 119))) f (T_s_l07All_3 p colour sign l13 m13 a l13' m13' c) (kBlock 2 (kBlock 1 (kSeq (fun zs9 => exec P S_s_l07All 78 (fuelOf fu []) (Code.sub [1, 1, 0, 1, 0, 0, 1, 1] (bodyF P 119)) zs9 (kLoop rc2 (T_s_l07All_2 p colour sign l13 m13 a) (kBlock 0 (kSeq (fun zs9 => exec P S_s_l07All 78 (fuelOf fu []) (Code.sub [1, 1, 1] (bodyF P 119)) zs9 (finT P 119 dec_l28_6)) (finT P 119 dec_l28_6))))) (kLoop rc2 (T_s_l07All_2 p colour sign l13 m13 a) (kBlock 0 (kSeq (fun zs9 => exec P S_s_l07All 78 (fuelOf fu []) (Code.sub [1, 1, 1] (bodyF P 119)) zs9 (finT P 119 dec_l28_6)) (finT P 119 dec_l28_6)))))))
def B_s_l07All_3 (p : Int) (colour : Int) (sign : Int) (l13 : List Int) (m13 : Nat) (a : Int) (rec2 : (List Int) → Nat → Int → Option (Nat × List Int)) (rec3 : (List Int) → Nat → Int → Option (Nat × List Int)) (l13' : List Int) (m13' : Nat) (c : Int) : Option (Nat × List Int) :=
  (if (decide (c < p)) = true then (if (colour == 0) = true then (if (prB p) = true then (if (prB p) = true then (if (prB p) = true then (if (s_l07Good p colour (a, (s_l01Mod (wI ((wI (0 - sign)) * c)) p), c, (s_l01Mod (wI (sign * a)) p), 0, 0)) = true then (if (prB p) = true then (if (prB p) = true then (if ((s_l07Sign p (a, (s_l01Mod (wI ((wI (0 - sign)) * c)) p), c, (s_l01Mod (wI (sign * a)) p), 0, 0)) == (s_l01Mod sign p)) = true then (if ((Fo_s_l07Put 1000000 m13' l13' (a, (s_l01Mod (wI ((wI (0 - sign)) * c)) p), c, (s_l01Mod (wI (sign * a)) p), 0, 0)).isSome) = true then rec3 ((s_l07Put m13' l13' (a, (s_l01Mod (wI ((wI (0 - sign)) * c)) p), c, (s_l01Mod (wI (sign * a)) p), 0, 0)).2) ((s_l07Put m13' l13' (a, (s_l01Mod (wI ((wI (0 - sign)) * c)) p), c, (s_l01Mod (wI (sign * a)) p), 0, 0)).1) (wI (c + 1)) else none) else rec3 l13' m13' (wI (c + 1))) else none) else none) else rec3 l13' m13' (wI (c + 1))) else none) else none) else none) else (if (colour == 2) = true then (if (a != 0) = true then (if (prB p) = true then (if (c != 0) = true then (if (prB p) = true then (if (prB p) = true then (if (prB p) = true then (if (prB p) = true then (if (s_l07Good p colour (a, (s_l01Mod (s_l01Inverse c p) p), c, (s_l01Mod (s_l01Inverse a p) p), 0, 0)) = true then (if (prB p) = true then (if (prB p) = true then (if ((s_l07Sign p (a, (s_l01Mod (s_l01Inverse c p) p), c, (s_l01Mod (s_l01Inverse a p) p), 0, 0)) == (s_l01Mod sign p)) = true then (if ((Fo_s_l07Put 1000000 m13' l13' (a, (s_l01Mod (s_l01Inverse c p) p), c, (s_l01Mod (s_l01Inverse a p) p), 0, 0)).isSome) = true then rec3 ((s_l07Put m13' l13' (a, (s_l01Mod (s_l01Inverse c p) p), c, (s_l01Mod (s_l01Inverse a p) p), 0, 0)).2) ((s_l07Put m13' l13' (a, (s_l01Mod (s_l01Inverse c p) p), c, (s_l01Mod (s_l01Inverse a p) p), 0, 0)).1) (wI (c + 1)) else none) else rec3 l13' m13' (wI (c + 1))) else none) else none) else rec3 l13' m13' (wI (c + 1))) else none) else none) else none) else none) else (if (prB p) = true then (if (prB p) = true then (if (prB p) = true then (if (s_l07Good p colour (a, (s_l01Mod c p), c, (s_l01Mod (s_l01Inverse a p) p), 0, 0)) = true then (if (prB p) = true then (if (prB p) = true then (if ((s_l07Sign p (a, (s_l01Mod c p), c, (s_l01Mod (s_l01Inverse a p) p), 0, 0)) == (s_l01Mod sign p)) = true then (if ((Fo_s_l07Put 1000000 m13' l13' (a, (s_l01Mod c p), c, (s_l01Mod (s_l01Inverse a p) p), 0, 0)).isSome) = true then rec3 ((s_l07Put m13' l13' (a, (s_l01Mod c p), c, (s_l01Mod (s_l01Inverse a p) p), 0, 0)).2) ((s_l07Put m13' l13' (a, (s_l01Mod c p), c, (s_l01Mod (s_l01Inverse a p) p), 0, 0)).1) (wI (c + 1)) else none) else rec3 l13' m13' (wI (c + 1))) else none) else none) else rec3 l13' m13' (wI (c + 1))) else none) else none) else none)) else none) else (if (c != 0) = true then (if (prB p) = true then (if (prB p) = true then (if (prB p) = true then (if (prB p) = true then (if (s_l07Good p colour (a, (s_l01Mod (s_l01Inverse c p) p), c, (s_l01Mod a p), 0, 0)) = true then (if (prB p) = true then (if (prB p) = true then (if ((s_l07Sign p (a, (s_l01Mod (s_l01Inverse c p) p), c, (s_l01Mod a p), 0, 0)) == (s_l01Mod sign p)) = true then (if ((Fo_s_l07Put 1000000 m13' l13' (a, (s_l01Mod (s_l01Inverse c p) p), c, (s_l01Mod a p), 0, 0)).isSome) = true then rec3 ((s_l07Put m13' l13' (a, (s_l01Mod (s_l01Inverse c p) p), c, (s_l01Mod a p), 0, 0)).2) ((s_l07Put m13' l13' (a, (s_l01Mod (s_l01Inverse c p) p), c, (s_l01Mod a p), 0, 0)).1) (wI (c + 1)) else none) else rec3 l13' m13' (wI (c + 1))) else none) else none) else rec3 l13' m13' (wI (c + 1))) else none) else none) else none) else none) else (if (prB p) = true then (if (prB p) = true then (if (prB p) = true then (if (s_l07Good p colour (a, (s_l01Mod c p), c, (s_l01Mod a p), 0, 0)) = true then (if (prB p) = true then (if (prB p) = true then (if ((s_l07Sign p (a, (s_l01Mod c p), c, (s_l01Mod a p), 0, 0)) == (s_l01Mod sign p)) = true then (if ((Fo_s_l07Put 1000000 m13' l13' (a, (s_l01Mod c p), c, (s_l01Mod a p), 0, 0)).isSome) = true then rec3 ((s_l07Put m13' l13' (a, (s_l01Mod c p), c, (s_l01Mod a p), 0, 0)).2) ((s_l07Put m13' l13' (a, (s_l01Mod c p), c, (s_l01Mod a p), 0, 0)).1) (wI (c + 1)) else none) else rec3 l13' m13' (wI (c + 1))) else none) else none) else rec3 l13' m13' (wI (c + 1))) else none) else none) else none))) else (if (prB p) = true then (if (prB p) = true then (if (prB p) = true then (if (s_l07Good p colour (a, (s_l01Mod (wI (sign * c)) p), c, (s_l01Mod (wI (sign * a)) p), 0, 0)) = true then (if (prB p) = true then (if (prB p) = true then (if ((s_l07Sign p (a, (s_l01Mod (wI (sign * c)) p), c, (s_l01Mod (wI (sign * a)) p), 0, 0)) == (s_l01Mod sign p)) = true then (if ((Fo_s_l07Put 1000000 m13' l13' (a, (s_l01Mod (wI (sign * c)) p), c, (s_l01Mod (wI (sign * a)) p), 0, 0)).isSome) = true then rec3 ((s_l07Put m13' l13' (a, (s_l01Mod (wI (sign * c)) p), c, (s_l01Mod (wI (sign * a)) p), 0, 0)).2) ((s_l07Put m13' l13' (a, (s_l01Mod (wI (sign * c)) p), c, (s_l01Mod (wI (sign * a)) p), 0, 0)).1) (wI (c + 1)) else none) else rec3 l13' m13' (wI (c + 1))) else none) else none) else rec3 l13' m13' (wI (c + 1))) else none) else none) else none))) else rec2 l13' m13' (wI (a + 1)))
def L_s_l07All_3 (fu : Nat) (p : Int) (colour : Int) (sign : Int) (l13 : List Int) (m13 : Nat) (a : Int) (rec2 : (List Int) → Nat → Int → Option (Nat × List Int)) : Nat → (List Int) → Nat → Int → Option (Nat × List Int)
  | 0, _, _, _ => none
  | f + 1, l13', m13', c => B_s_l07All_3 p colour sign l13 m13 a rec2 (L_s_l07All_3 fu p colour sign l13 m13 a rec2 f) l13' m13' c
theorem loop_s_l07All_3 (fu : Nat) (p : Int) (colour : Int) (sign : Int) (l13 : List Int) (m13 : Nat) (a : Int) (rc2 : Tab → Option (Nat × List Int)) : ∀ (f : Nat) (l13' : List Int) (m13' : Nat) (c : Int), X_s_l07All_3 Tryz.prog fu p colour sign l13 m13 a rc2 f l13' m13' c = L_s_l07All_3 fu p colour sign l13 m13 a (fun l13 m13 a => rc2 (T_s_l07All_2 p colour sign l13 m13 a)) f l13' m13' c := by
  intro f
  induction f with
  | zero => intros; rfl
  | succ f ih =>
    intro l13' m13' c
    have h1 : X_s_l07All_3 Tryz.prog fu p colour sign l13 m13 a rc2 (f + 1) l13' m13' c = B_s_l07All_3 p colour sign l13 m13 a (fun l13 m13 a => rc2 (T_s_l07All_2 p colour sign l13 m13 a)) (X_s_l07All_3 Tryz.prog fu p colour sign l13 m13 a rc2 f) l13' m13' c := by kernel_rfl
    have h2 : X_s_l07All_3 Tryz.prog fu p colour sign l13 m13 a rc2 f = L_s_l07All_3 fu p colour sign l13 m13 a (fun l13 m13 a => rc2 (T_s_l07All_2 p colour sign l13 m13 a)) f := by funext l13' m13' c; exact ih l13' m13' c
    rw [h1, h2]
    rfl
def X_s_l07All_2 (P : Program) (fu : Nat) (p : Int) (colour : Int) (sign : Int) (f : Nat) (l13 : List Int) (m13 : Nat) (a : Int) : Option (Nat × List Int) := loopK (exec P S_s_l07All 78 (fuelOf fu []) (Code.sub [1, 1, 0, 1, 0, 0] (bodyF P 119))) f (T_s_l07All_2 p colour sign l13 m13 a) (kBlock 0 (kSeq (fun zs9 => exec P S_s_l07All 78 (fuelOf fu []) (Code.sub [1, 1, 1] (bodyF P 119)) zs9 (finT P 119 dec_l28_6)) (finT P 119 dec_l28_6)))
def B_s_l07All_2 (p : Int) (colour : Int) (sign : Int) (lo3 : (List Int) → Nat → Int → Option (Nat × List Int)) (rec2 : (List Int) → Nat → Int → Option (Nat × List Int)) (l13 : List Int) (m13 : Nat) (a : Int) : Option (Nat × List Int) :=
  (if (decide (a < p)) = true then lo3 l13 m13 0 else some (m13, l13))
def L_s_l07All_2 (fu : Nat) (p : Int) (colour : Int) (sign : Int) : Nat → (List Int) → Nat → Int → Option (Nat × List Int)
  | 0, _, _, _ => none
  | f + 1, l13, m13, a => B_s_l07All_2 p colour sign (L_s_l07All_3 fu p colour sign l13 m13 a (L_s_l07All_2 fu p colour sign f) fu) (L_s_l07All_2 fu p colour sign f) l13 m13 a
theorem loop_s_l07All_2 (fu : Nat) (p : Int) (colour : Int) (sign : Int) : ∀ (f : Nat) (l13 : List Int) (m13 : Nat) (a : Int), X_s_l07All_2 Tryz.prog fu p colour sign f l13 m13 a = L_s_l07All_2 fu p colour sign f l13 m13 a := by
  intro f
  induction f with
  | zero => intros; rfl
  | succ f ih =>
    intro l13 m13 a
    have h1 : X_s_l07All_2 Tryz.prog fu p colour sign (f + 1) l13 m13 a = B_s_l07All_2 p colour sign (X_s_l07All_3 Tryz.prog fu p colour sign l13 m13 a (fun t => loopK (exec Tryz.prog S_s_l07All 78 (fuelOf fu []) (Code.sub [1, 1, 0, 1, 0, 0] (bodyF Tryz.prog 119))) f t (kBlock 0 (kSeq (fun zs9 => exec Tryz.prog S_s_l07All 78 (fuelOf fu []) (Code.sub [1, 1, 1] (bodyF Tryz.prog 119)) zs9 (finT Tryz.prog 119 dec_l28_6)) (finT Tryz.prog 119 dec_l28_6)))) fu) (X_s_l07All_2 Tryz.prog fu p colour sign f) l13 m13 a := by kernel_rfl
    have h2 : X_s_l07All_2 Tryz.prog fu p colour sign f = L_s_l07All_2 fu p colour sign f := by funext l13 m13 a; exact ih l13 m13 a
    have c3 : (X_s_l07All_3 Tryz.prog fu p colour sign l13 m13 a (fun t => loopK (exec Tryz.prog S_s_l07All 78 (fuelOf fu []) (Code.sub [1, 1, 0, 1, 0, 0] (bodyF Tryz.prog 119))) f t (kBlock 0 (kSeq (fun zs9 => exec Tryz.prog S_s_l07All 78 (fuelOf fu []) (Code.sub [1, 1, 1] (bodyF Tryz.prog 119)) zs9 (finT Tryz.prog 119 dec_l28_6)) (finT Tryz.prog 119 dec_l28_6)))) fu) = L_s_l07All_3 fu p colour sign l13 m13 a (X_s_l07All_2 Tryz.prog fu p colour sign f) fu := by funext l13' m13' c; exact loop_s_l07All_3 fu p colour sign l13 m13 a (fun t => loopK (exec Tryz.prog S_s_l07All 78 (fuelOf fu []) (Code.sub [1, 1, 0, 1, 0, 0] (bodyF Tryz.prog 119))) f t (kBlock 0 (kSeq (fun zs9 => exec Tryz.prog S_s_l07All 78 (fuelOf fu []) (Code.sub [1, 1, 1] (bodyF Tryz.prog 119)) zs9 (finT Tryz.prog 119 dec_l28_6)) (finT Tryz.prog 119 dec_l28_6)))) fu l13' m13' c
    rw [h1, c3, h2]
    rfl
def G_s_l07All (p : Int) (colour : Int) (sign : Int) (lo2 : (List Int) → Nat → Int → Option (Nat × List Int)) : Option (Nat × List Int) :=
  lo2 [] 0 0
def Fo_s_l07All (fu : Nat) (p : Int) (colour : Int) (sign : Int) : Option (Nat × List Int) := G_s_l07All p colour sign (L_s_l07All_2 fu p colour sign fu)
theorem eqg_s_l07All (fu : Nat) (p : Int) (colour : Int) (sign : Int) : execT Tryz.prog S_s_l07All 119 78 (fuelOf fu []) dec_l28_6 [.v (.int .i64 p), .v (.int .i64 colour), .v (.int .i64 sign)] = G_s_l07All p colour sign (L_s_l07All_2 fu p colour sign fu) := by
  have h1 : execT Tryz.prog S_s_l07All 119 78 (fuelOf fu []) dec_l28_6 [.v (.int .i64 p), .v (.int .i64 colour), .v (.int .i64 sign)] = G_s_l07All p colour sign (X_s_l07All_2 Tryz.prog fu p colour sign fu) := by kernel_rfl
  have c2 : X_s_l07All_2 Tryz.prog fu p colour sign fu = L_s_l07All_2 fu p colour sign fu := by funext l13 m13 a; exact loop_s_l07All_2 fu p colour sign fu l13 m13 a
  rw [h1, c2]
theorem eq_s_l07All (fu : Nat) (p : Int) (colour : Int) (sign : Int) : execT Tryz.prog S_s_l07All 119 78 (fuelOf fu []) dec_l28_6 [.v (.int .i64 p), .v (.int .i64 colour), .v (.int .i64 sign)] = Fo_s_l07All fu p colour sign := eqg_s_l07All fu p colour sign
def ok_s_l07All : (Int) → (Int) → (Int) → (Bool) := shut fun (p : Int) (colour : Int) (sign : Int) => (Fo_s_l07All 1000000 p colour sign).isSome
def s_l07All : (Int) → (Int) → (Int) → (Nat × List Int) := shut fun (p : Int) (colour : Int) (sign : Int) => (Fo_s_l07All 1000000 p colour sign).getD (0, [])
theorem ok_s_l07All_of {p : Int} {colour : Int} {sign : Int} {r : Nat × List Int} (e : Fo_s_l07All 1000000 p colour sign = some r) : ok_s_l07All p colour sign = true := by
  unfold ok_s_l07All
  rw [shut_eq, e]
  rfl
theorem s_l07All_of {p : Int} {colour : Int} {sign : Int} {r : Nat × List Int} (e : Fo_s_l07All 1000000 p colour sign = some r) : s_l07All p colour sign = r := by
  unfold s_l07All
  rw [shut_eq, e]
  rfl
theorem tot_s_l07All (p : Int) (colour : Int) (sign : Int) (hp : (ok_s_l07All p colour sign) = true) : Fo_s_l07All 1000000 p colour sign = some (s_l07All p colour sign) := by
  unfold ok_s_l07All at hp
  rw [shut_eq] at hp
  unfold s_l07All
  rw [shut_eq]
  exact of_isSome hp
def run_s_l07All : List PV → Option (Bool × List TR)
  | [.v (.int .i64 p), .v (.int .i64 colour), .v (.int .i64 sign)] => some (ok_s_l07All p colour sign, enc_l28_6 (s_l07All p colour sign))
  | _ => none
theorem sound_s_l07All : Sound Tryz.prog 119 run_s_l07All := by
  refine sound_of de_l28_6 SO_s_l07All (by kernel_rfl) Tryz.func119 Tryz.ntmps119 rfl (by kernel_rfl) ?_
  intro W pvs avs rs hargs hrun
  unfold run_s_l07All at hrun
  split at hrun
  · simp only [Option.some.injEq, Prod.mk.injEq] at hrun
    obtain ⟨hp, rfl⟩ := hrun
    rename_i p colour sign
    exact ⟨_, _, _, hargs, rfl, (eq_s_l07All _ p colour sign).trans (tot_s_l07All p colour sign hp)⟩
  · cases hrun

def drB (p c : Int) : Bool := ([3, 5, 7, 11, 13, 17, 23] : List Int).contains p && ([0, 1, 2] : List Int).contains c
theorem all_chk : (([3, 5, 7, 11, 13, 17, 23] : List Int).all fun p => ([0, 1, 2] : List Int).all fun c => ([1, -1] : List Int).all fun s => match Fo_s_l07All 1000000 p c s with | some r => Nat.blt 0 r.1 && Nat.beq r.2.length (6 * r.1) | none => false) = true := by decide +kernel
theorem drB_mem {p c : Int} (h : drB p c = true) : p ∈ ([3, 5, 7, 11, 13, 17, 23] : List Int) ∧ c ∈ ([0, 1, 2] : List Int) := by
  unfold drB at h
  rw [Bool.and_eq_true, List.contains_iff_mem, List.contains_iff_mem] at h
  exact h
theorem drB_prB {p c : Int} (h : drB p c = true) : prB p = true := by
  have := (drB_mem h).1
  unfold prB
  simp at this ⊢
  omega
theorem all_facts {p c s : Int} (hd : drB p c = true) (hs : s ∈ ([1, 1, -1] : List Int)) : ∃ r, Fo_s_l07All 1000000 p c s = some r ∧ 0 < r.1 ∧ r.2.length = 6 * r.1 := by
  have hs' : s ∈ ([1, -1] : List Int) := by simp at hs ⊢; omega
  have h := List.all_eq_true.1 (List.all_eq_true.1 (List.all_eq_true.1 all_chk p (drB_mem hd).1) c (drB_mem hd).2) s hs'
  generalize Fo_s_l07All 1000000 p c s = o at h ⊢
  cases o with
  | none => cases h
  | some r =>
    have h : (Nat.blt 0 r.1 && Nat.beq r.2.length (6 * r.1)) = true := h
    rw [Bool.and_eq_true] at h
    exact ⟨r, rfl, Nat.le_of_ble_eq_true h.1, Nat.eq_of_beq_eq_true h.2⟩
theorem all_ok {p c s : Int} (hd : drB p c = true) (hs : s ∈ ([1, 1, -1] : List Int)) : ok_s_l07All p c s = true := by
  obtain ⟨r, h, _⟩ := all_facts hd hs
  exact ok_s_l07All_of h
theorem all_pos {p c s : Int} (hd : drB p c = true) (hs : s ∈ ([1, 1, -1] : List Int)) : (1 : Int) ≤ (((s_l07All p c s).1 : Nat) : Int) := by
  obtain ⟨r, h, h1, h2⟩ := all_facts hd hs
  rw [s_l07All_of h]
  omega
theorem all_len {p c s : Int} (hd : drB p c = true) (hs : s ∈ ([1, 1, -1] : List Int)) : (s_l07All p c s).2.length = 6 * (s_l07All p c s).1 := by
  obtain ⟨r, h, h1, h2⟩ := all_facts hd hs
  rw [s_l07All_of h, h2]
def S_s_l07About : Sums := ⟨tblS [(130, run_s_l07Lead), (129, run_s_l01Minus)], tblM []⟩
theorem SO_s_l07About : SumsOK Tryz.prog S_s_l07About := ⟨tblS_ok ⟨⟨Tryz.call130, sound_s_l07Lead⟩, ⟨Tryz.call129, sound_s_l01Minus⟩, True.intro⟩, tblM_ok True.intro⟩
def Fo_s_l07About (p : Int) (m : Int × Int × Int × Int × Int × Int) (a : Int × Int) : Option (Int × Int × Int × Int × Int × Int) :=
  (if (prB p) = true then (if (prB p) = true then some (m.1, m.2.1, m.2.2.1, m.2.2.2.1, (s_l01Minus p a (s_l07Lead p m a)).1, (s_l01Minus p a (s_l07Lead p m a)).2) else none) else none)
theorem eq_s_l07About (p : Int) (m : Int × Int × Int × Int × Int × Int) (a : Int × Int) : execT Tryz.prog S_s_l07About 121 16 (fun _ => 1000000) dec_a6 [.v (.int .i64 p), .v (.agg ⟨[.int .i64 m.1, .int .i64 m.2.1, .int .i64 m.2.2.1, .int .i64 m.2.2.2.1, .int .i64 m.2.2.2.2.1, .int .i64 m.2.2.2.2.2]⟩), .v (.agg ⟨[.int .i64 a.1, .int .i64 a.2]⟩)] = Fo_s_l07About p m a := by
  kernel_rfl
def s_l07About (p : Int) (m : Int × Int × Int × Int × Int × Int) (a : Int × Int) : Int × Int × Int × Int × Int × Int :=
  (m.1, m.2.1, m.2.2.1, m.2.2.2.1, (s_l01Minus p a (s_l07Lead p m a)).1, (s_l01Minus p a (s_l07Lead p m a)).2)
theorem tot_s_l07About (p : Int) (m : Int × Int × Int × Int × Int × Int) (a : Int × Int) (hp : (prB p) = true) : Fo_s_l07About p m a = some (s_l07About p m a) := by
  try have h0 := prB_ne hp
  unfold Fo_s_l07About s_l07About
  (try simp only [wI_eq])
  repeat' (first | with_reducible rfl | with_reducible refine chk_opt hp ?_ | with_reducible refine chk_opt h0 ?_ | refine chk_opt (and_all hp fun _ => hp) ?_ | refine chk_opt (and_all hp fun _ => rfl) ?_ | refine ite_opt (fun _ => ?_) (fun _ => ?_) | rfl)
def run_s_l07About : List PV → Option (Bool × List TR)
  | [.v (.int .i64 p), .v (.agg ⟨[.int .i64 m0, .int .i64 m1, .int .i64 m2, .int .i64 m3, .int .i64 m4, .int .i64 m5]⟩), .v (.agg ⟨[.int .i64 a0, .int .i64 a1]⟩)] => some (prB p, enc_a6 (s_l07About p (m0, m1, m2, m3, m4, m5) (a0, a1)))
  | _ => none
theorem sound_s_l07About : Sound Tryz.prog 121 run_s_l07About := by
  refine sound_of de_a6 SO_s_l07About (by kernel_rfl) Tryz.func121 Tryz.ntmps121 rfl (by kernel_rfl) ?_
  intro W pvs avs rs hargs hrun
  unfold run_s_l07About at hrun
  split at hrun
  · simp only [Option.some.injEq, Prod.mk.injEq] at hrun
    obtain ⟨hp, rfl⟩ := hrun
    rename_i p m0 m1 m2 m3 m4 m5 a0 a1
    exact ⟨_, _, _, hargs, rfl, (eq_s_l07About p (m0, m1, m2, m3, m4, m5) (a0, a1)).trans (tot_s_l07About p (m0, m1, m2, m3, m4, m5) (a0, a1) hp)⟩
  · cases hrun


end

end Go.Proofs.YtoblkbpejfojjaaGreatDoor
