import Derived.Test.YtfclaacaphpoaaaFb
import Derived.Test.YtfclaacaphpoaaaFc
import Derived.Test.YtfclaacaphpoaaaFd
import Derived.Test.YtfclaacaphpoaaaFe
import Derived.Test.YtfclaacaphpoaaaFf
import Derived.Test.YtfclaacaphpoaaaDx
import Derived.Test.YtfclaacaphpoaaaProg
set_option linter.unusedSimpArgs false
set_option linter.unusedVariables false
namespace Go.Proofs.Ytfclaacaphpoaaa
open Go.RowKit Try
noncomputable section
def Z8A : Sums := ⟨tblS [], tblM [], false, false⟩
theorem Zo3 : ZJ prog Z8A := ⟨ZD ⟨⟩, tM⟩
def Zmt (n : Nat) (l : List Int) (v44_2 i : Int) : Tab := ⟨[.row 1, jK, .val (.pointer none), .ptr 44 0, vI (i), .row 1, .row 1, vI (((n : Nat) : Int)), .val (.int .u64 (IntKind.u64.wrap (((n : Nat) : Int)))), .val (.int .u64 (IntKind.u64.wrap (13701 + (IntKind.u64.wrap (((n : Nat) : Int)))))), jK, .ptr 44 0, ] ++ (jN 25 ++ [jK]), [(0, .ros 0 (.ints [])), (1, .ros n (.byts l)), (44, .box 117 [.row 1, vI (0), .val (.int .u64 v44_2)])]⟩
def Z5I (P : Program) (fu Z2 : Nat) (Z3 : List Int) (f : Nat) (v44_2 i : Int) : Option P2 := ZH (exec P Z8A 38 (fun _ => fu + 100) (Code.sub [1, 1, 0, 1, 0, 0] (Zb P 67))) f (Zmt Z2 Z3 v44_2 i) (Zc 0 (kSeq (fun Zp => exec P Z8A 38 (fun _ => fu + 100) (Code.sub [1, 1, 1] (Zb P 67)) Zp (finB P 67 Zbi)) (finB P 67 Zbi)))
def Z8n (n : Nat) (l : List Int) (ZE : Int -> Int -> Option P2) (v44_2 i : Int) : Option P2 :=
 (if (decide (i < ((n : Nat) : Int))) = true then (if (decide (i < 4096)) = true then (if (decide (0 <= i) && decide (i < ((n : Nat) : Int))) = true then (if (Nat.ble (i.toNat * 1 + 1) l.length) = true then ZE (IntKind.u64.wrap ((IntKind.u64.wrap ((IntKind.u64.wrap (v44_2 * 1099511628211)) + (IntKind.u64.wrap (l.getD (i.toNat * 1) 0)))) + 199)) (wI (i + 1)) else none) else none) else some (0, v44_2)) else some (0, v44_2))
def Z45 (fu Z2 : Nat) (Z3 : List Int) : Nat -> Int -> Int -> Option P2
 | 0, _, _ => none
 | f + 1, v44_2, i => Z8n Z2 Z3 (Z45 fu Z2 Z3 f) v44_2 i
theorem Zi9 (fu Z2 : Nat) (Z3 : List Int) : ∀ (f : Nat) (v44_2 i : Int), Z5I prog fu Z2 Z3 f v44_2 i = Z45 fu Z2 Z3 f v44_2 i := by
 intro f
 induction f with
 | zero => intros; rfl
 | succ f ih =>
  intro v44_2 i
  have h1 : Z5I prog fu Z2 Z3 (f + 1) v44_2 i = Z8n Z2 Z3 (Z5I prog fu Z2 Z3 f) v44_2 i := by kernel_rfl
  have h2 : Z5I prog fu Z2 Z3 f = Z45 fu Z2 Z3 f := by funext v44_2 i; exact ih v44_2 i
  rw [h1, h2]
  rfl
def Zdo (Z2 : Nat) (Z3 : List Int) (lo0 : Int -> Int -> Option P2) : Option P2 :=
 lo0 (IntKind.u64.wrap (13701 + (IntKind.u64.wrap (((Z2 : Nat) : Int))))) 0
def Z7y (fu Z2 : Nat) (Z3 : List Int) : Option P2 := Zdo Z2 Z3 (Z45 fu Z2 Z3 (fu + 100))
theorem ZoD (fu Z2 : Nat) (Z3 : List Int) : Zqg prog Z8A 67 38 (fun _ => fu + 100) Zbi Z2 (.byts Z3) = Z7y fu Z2 Z3 := by
 have h1 : Zqg prog Z8A 67 38 (fun _ => fu + 100) Zbi Z2 (.byts Z3) = Zdo Z2 Z3 (Z5I prog fu Z2 Z3 (fu + 100)) := by kernel_rfl
 have c0 : Z5I prog fu Z2 Z3 (fu + 100) = Z45 fu Z2 Z3 (fu + 100) := by funext v44_2 i; exact Zi9 fu Z2 Z3 (fu + 100) v44_2 i
 rw [h1, c0]
 rfl
theorem ZsG (fu n : Nat) (l : List Int) (hc : Z2p n l = true) : ∀ (f : Nat) (v i : Int), 0 <= i -> i <= 4096 -> 4096 - i < f -> ∃ h, Z45 fu n l f v i = some (0, h)
 | 0, v, i, _, h1, h2 => by omega
 | f + 1, v, i, h0, h1, h2 => by
  rw [show Z45 fu n l (f + 1) v i = Z8n n l (Z45 fu n l f) v i from rfl]
  unfold Z8n
  by_cases hn : i < (n : Int)
  ·by_cases hk : i < 4096
   ·rw [if_pos (decide_eq_true hn), if_pos (decide_eq_true hk), if_pos (Z25 ⟨h0, hn⟩), if_pos (Z1n (by obtain ⟨e, _⟩ := ZgE hc; omega)), Z03, show wrap64 (i + 1) = i + 1 by unfold wrap64; omega]
    exact ZsG fu n l hc f _ _ (by omega) (by omega) (by omega)
   ·rw [if_pos (decide_eq_true hn), if_neg (by simp [hk])]
    exact ⟨_, rfl⟩
  ·rw [if_neg (by simp [hn])]
   exact ⟨_, rfl⟩
theorem Znm {n : Nat} {l : List Int} (hc : Z2p n l = true) : ∃ h, Z7y 1000000 n l = some (0, h) := by
 unfold Z7y Zdo
 exact ZsG _ n l hc _ _ _ (by decide) (by decide) (by decide)
def Z3Q (Z2 : Nat) (Z3 : List Int) : Int × Int := (Z7y 1000000 Z2 Z3).getD (0, 0)
theorem ZmY (Z2 : Nat) (Z3 : List Int) (hp : (Z2p Z2 Z3) = true) : Z7y 1000000 Z2 Z3 = some (Z3Q Z2 Z3) := by
 obtain ⟨h, e⟩ := Znm hp
 unfold Z3Q
 rw [e]
 rfl
def Z5L : BRun
 | [.s Z2 (.byts Z3)] => some (Z2p Z2 Z3, Zq7 (Z3Q Z2 Z3))
 | _ => none
theorem Z71 : Zod prog 67 Z5L := by
 refine Zub Zw1 Zo3 (by kernel_rfl) func67 ntmps67 rfl (by kernel_rfl) ?_
 intro m c e vals hrun
 unfold Z5L at hrun
 split at hrun
 ·rename_i heq
  simp only [List.cons.injEq, PV.s.injEq, and_true] at heq
  obtain ⟨rfl, rfl⟩ := heq
  simp only [Option.some.injEq, Prod.mk.injEq] at hrun
  obtain ⟨hp, hrun⟩ := hrun
  exact ⟨_, Z3Q _ _, by first | exact hrun.symm | exact (Prod.ext hrun.1 hrun.2).symm, (ZoD _ _ _).trans (ZmY _ _ hp)⟩
 ·cases hrun

theorem Z01 {n : Nat} {l : List Int} (hc : Z2p n l = true) : srcB n l (Z3Q n l) = true := by
 obtain ⟨h, e⟩ := Znm hc
 refine Zpw hc ?_
 unfold Z3Q
 rw [e]
 exact Int.le_refl 0
abbrev Z1F (Z2 : Nat) (Z3 : List Int) : Int × STy := (Z1u Z2 Z3 (Z3Q Z2 Z3))
abbrev ZcJ (Z2 : Nat) (Z3 : List Int) : (Int × Int × Int × Int × Int × Int) × STy := (Z5q Z2 Z3 ((Z1F Z2 Z3).2.2.2) ((Z1F Z2 Z3).1))
abbrev Z6s (Z2 : Nat) (Z3 : List Int) : Nat × List Int := (Z5r ((Z1F Z2 Z3).1) ((ZcJ Z2 Z3).1))
def Z3H : Sums := ⟨tblS [(64, Z6W)], tblM [(67, .src Z5L), (76, .box Z3u), (77, .box Z6V), (78, .box Z4v), (68, .box Z1d), (80, .box Z3P), (79, .box Z4S)], false, false⟩
theorem ZcS : ZJ prog Z3H := ⟨ZD ⟨⟨call64, ZaI⟩, ⟨⟩⟩, Z56 ⟨⟨call67, Z71⟩, ⟨call76, Z4V⟩, ⟨call77, ZaH⟩, ⟨call78, Z6c⟩, ⟨call68, Z15⟩, ⟨call80, Z55⟩, ⟨call79, Z6D⟩, ⟨⟩⟩⟩
def Zc0 (n : Nat) (l l18 : List Int) (v48_1 v48_2 : Int) (m18 : Nat) (i : Int) : Tab := ⟨[.row 0, jK, vI (0), .val (.slice none 0 0), .ptr 48 0, vI ((Z1F n l).1), .ptr 24 0, .row 72, .row 84, vI (i), jK, .row 0, .ptr 48 0, .ptr 48 0, vI ((Z1F n l).1), .ptr 48 0, vI ((Z1F n l).1), vT6 ((ZcJ n l).1), jK, vI ((Z1F n l).1), vT6 ((ZcJ n l).1), .row 84, ] ++ (jN 53 ++ [jK]), [(0, .ros n (.byts l)), (24, .box 25 [vI ((((ZcJ n l).1).1)), vI ((((ZcJ n l).1).2.1)), vI ((((ZcJ n l).1).2.2.1)), vI ((((ZcJ n l).1).2.2.2.1)), vI ((((ZcJ n l).1).2.2.2.2.1)), vI ((((ZcJ n l).1).2.2.2.2.2))]), (48, .box 117 [.row 0, vI (v48_1), .val (.int .u64 v48_2)]), (72, .row 27 2 m18 (.ints l18)), (84, .row 27 2 ((Z6s n l).1) (.ints ((Z6s n l).2)))]⟩
def Z1Y (P : Program) (fu Z2 : Nat) (Z3 : List Int) (f : Nat) (l18 : List Int) (v48_1 v48_2 : Int) (m18 : Nat) (i : Int) : Option (Int × Nat × List Int) := ZH (exec P Z3H 76 (fun _ => fu + 100) (Code.sub [1, 1, 1, 1, 1, 0, 1, 0, 0] (Zb P 26))) f (Zc0 Z2 Z3 l18 v48_1 v48_2 m18 i) (Zc 0 (kSeq (fun Zp => exec P Z3H 76 (fun _ => fu + 100) (Code.sub [1, 1, 1, 1, 1, 1] (Zb P 26)) Zp (finT P 26 Z7m)) (finT P 26 Z7m)))
def Z1Q (n : Nat) (l : List Int) (ZE : (List Int) -> Int -> Int -> Nat -> Int -> Option (Int × Nat × List Int)) (l18 : List Int) (v48_1 v48_2 : Int) (m18 : Nat) (i : Int) : Option (Int × Nat × List Int) :=
 (if (decide (i < 5)) = true then (if (srcB n l (v48_1, v48_2) && prB ((Z1F n l).1)) = true then (if (decide ((((Z6s n l).1 : Nat) : Int) > 4)) = true then (if (srcB n l ((ZW n l (v48_1, v48_2) ((Z1F n l).1)).2.2.2)) = true then (if (decide (((Zl n l ((ZW n l (v48_1, v48_2) ((Z1F n l).1)).2.2.2) 6).1) > 0)) = true then (if (srcB n l ((Zl n l ((ZW n l (v48_1, v48_2) ((Z1F n l).1)).2.2.2) 6).2.2.2)) = true then (if (!((((Z6s n l).1 : Nat) : Int) == 0)) = true then (if (decide (0 <= (wI (((Zl n l ((Zl n l ((ZW n l (v48_1, v48_2) ((Z1F n l).1)).2.2.2) 6).2.2.2) 2).1) + (wI ((wI (i * (((Z6s n l).1 : Nat) : Int))).tdiv 5)))).tmod (((Z6s n l).1 : Nat) : Int)) && decide ((wI (((Zl n l ((Zl n l ((ZW n l (v48_1, v48_2) ((Z1F n l).1)).2.2.2) 6).2.2.2) 2).1) + (wI ((wI (i * (((Z6s n l).1 : Nat) : Int))).tdiv 5)))).tmod (((Z6s n l).1 : Nat) : Int) < (((Z6s n l).1 : Nat) : Int))) = true then (if (Nat.ble ((((wI (((Zl n l ((Zl n l ((ZW n l (v48_1, v48_2) ((Z1F n l).1)).2.2.2) 6).2.2.2) 2).1) + (wI ((wI (i * (((Z6s n l).1 : Nat) : Int))).tdiv 5)))).tmod (((Z6s n l).1 : Nat) : Int)).toNat) * 2 + 2) (((Z6s n l).2).length)) = true then (if (Nat.ble 0 1 && Nat.ble (m18 + 1) 2000000 && Nat.beq 2 (2)) = true then ZE (l18 ++ [((Z6s n l).2).getD ((((wI (((Zl n l ((Zl n l ((ZW n l (v48_1, v48_2) ((Z1F n l).1)).2.2.2) 6).2.2.2) 2).1) + (wI ((wI (i * (((Z6s n l).1 : Nat) : Int))).tdiv 5)))).tmod (((Z6s n l).1 : Nat) : Int)).toNat) * 2 + 0) 0, ((Z6s n l).2).getD ((((wI (((Zl n l ((Zl n l ((ZW n l (v48_1, v48_2) ((Z1F n l).1)).2.2.2) 6).2.2.2) 2).1) + (wI ((wI (i * (((Z6s n l).1 : Nat) : Int))).tdiv 5)))).tmod (((Z6s n l).1 : Nat) : Int)).toNat) * 2 + 1) 0]) ((Zl n l ((Zl n l ((ZW n l (v48_1, v48_2) ((Z1F n l).1)).2.2.2) 6).2.2.2) 2).2.2.2.1) ((Zl n l ((Zl n l ((ZW n l (v48_1, v48_2) ((Z1F n l).1)).2.2.2) 6).2.2.2) 2).2.2.2.2) (m18 + 1) (wI (i + 1)) else none) else none) else none) else none) else none) else (if (Nat.ble 0 1 && Nat.ble (m18 + 1) 2000000 && Nat.beq 2 (2)) = true then ZE (l18 ++ [((ZW n l (v48_1, v48_2) ((Z1F n l).1)).1).1, ((ZW n l (v48_1, v48_2) ((Z1F n l).1)).1).2]) ((Zl n l ((ZW n l (v48_1, v48_2) ((Z1F n l).1)).2.2.2) 6).2.2.2.1) ((Zl n l ((ZW n l (v48_1, v48_2) ((Z1F n l).1)).2.2.2) 6).2.2.2.2) (m18 + 1) (wI (i + 1)) else none)) else none) else (if (Nat.ble 0 1 && Nat.ble (m18 + 1) 2000000 && Nat.beq 2 (2)) = true then ZE (l18 ++ [((ZW n l (v48_1, v48_2) ((Z1F n l).1)).1).1, ((ZW n l (v48_1, v48_2) ((Z1F n l).1)).1).2]) ((ZW n l (v48_1, v48_2) ((Z1F n l).1)).2.2.2.1) ((ZW n l (v48_1, v48_2) ((Z1F n l).1)).2.2.2.2) (m18 + 1) (wI (i + 1)) else none)) else none) else (if (srcB n l (v48_1, v48_2)) = true then (if (((Zl n l (v48_1, v48_2) 24).1) == 0) = true then (if (Nat.ble 0 1 && Nat.ble (m18 + 1) 2000000 && Nat.beq 2 (2)) = true then (if (srcB n l ((Zl n l (v48_1, v48_2) 24).2.2.2) && prB ((Z1F n l).1)) = true then some ((Z0U n l ((Zl n l (v48_1, v48_2) 24).2.2.2) ((Z1F n l).1)).1, (m18 + 1, l18 ++ [0, 0])) else none) else none) else (if (((Zl n l (v48_1, v48_2) 24).1) == 1) = true then (if (srcB n l ((Zl n l (v48_1, v48_2) 24).2.2.2) && prB ((Z1F n l).1)) = true then (if (decide (0 <= 0) && decide (0 < ((m18 : Nat) : Int))) = true then (if (Nat.ble (2) l18.length) = true then (if (srcB n l ((Z13 n l ((Zl n l (v48_1, v48_2) 24).2.2.2) ((Z1F n l).1) ((Z1F n l).1, 0)).2.2.2) && prB ((Z1F n l).1)) = true then some ((Z0U n l ((Z13 n l ((Zl n l (v48_1, v48_2) 24).2.2.2) ((Z1F n l).1) ((Z1F n l).1, 0)).2.2.2) ((Z1F n l).1)).1, (m18, (l18.set 0 (((Z13 n l ((Zl n l (v48_1, v48_2) 24).2.2.2) ((Z1F n l).1) ((Z1F n l).1, 0)).1).1)).set 1 (((Z13 n l ((Zl n l (v48_1, v48_2) 24).2.2.2) ((Z1F n l).1) ((Z1F n l).1, 0)).1).2))) else none) else none) else none) else none) else (if (srcB n l ((Zl n l (v48_1, v48_2) 24).2.2.2) && prB ((Z1F n l).1)) = true then some ((Z0U n l ((Zl n l (v48_1, v48_2) 24).2.2.2) ((Z1F n l).1)).1, (m18, l18)) else none))) else none))
def Z1S (fu Z2 : Nat) (Z3 : List Int) : Nat -> (List Int) -> Int -> Int -> Nat -> Int -> Option (Int × Nat × List Int)
 | 0, _, _, _, _, _ => none
 | f + 1, l18, v48_1, v48_2, m18, i => Z1Q Z2 Z3 (Z1S fu Z2 Z3 f) l18 v48_1 v48_2 m18 i
theorem Zaj (fu Z2 : Nat) (Z3 : List Int) : ∀ (f : Nat) (l18 : List Int) (v48_1 v48_2 : Int) (m18 : Nat) (i : Int), Z1Y prog fu Z2 Z3 f l18 v48_1 v48_2 m18 i = Z1S fu Z2 Z3 f l18 v48_1 v48_2 m18 i := by
 intro f
 induction f with
 | zero => intros; rfl
 | succ f ih =>
  intro l18 v48_1 v48_2 m18 i
  have h1 : Z1Y prog fu Z2 Z3 (f + 1) l18 v48_1 v48_2 m18 i = Z1Q Z2 Z3 (Z1Y prog fu Z2 Z3 f) l18 v48_1 v48_2 m18 i := by kernel_rfl
  have h2 : Z1Y prog fu Z2 Z3 f = Z1S fu Z2 Z3 f := by funext l18 v48_1 v48_2 m18 i; exact ih l18 v48_1 v48_2 m18 i
  rw [h1, h2]
  rfl
def Z5Y (Z2 : Nat) (Z3 : List Int) (lo0 : (List Int) -> Int -> Int -> Nat -> Int -> Option (Int × Nat × List Int)) : Option (Int × Nat × List Int) :=
 (if (Z2p Z2 Z3) = true then (if (srcB Z2 Z3 (Z3Q Z2 Z3)) = true then (if (srcB Z2 Z3 ((Z1F Z2 Z3).2.2.2) && prB ((Z1F Z2 Z3).1)) = true then (if (prB ((Z1F Z2 Z3).1)) = true then lo0 [] ((ZcJ Z2 Z3).2.2.2.1) ((ZcJ Z2 Z3).2.2.2.2) 0 0 else none) else none) else none) else none)
def Z2S (fu Z2 : Nat) (Z3 : List Int) : Option (Int × Nat × List Int) := Z5Y Z2 Z3 (Z1S fu Z2 Z3 (fu + 100))
theorem ZcV (fu Z2 : Nat) (Z3 : List Int) : eF fu Z3H 26 76 Z7m [.s Z2 (.byts Z3)] = Z2S fu Z2 Z3 := by
 have h1 : eF fu Z3H 26 76 Z7m [.s Z2 (.byts Z3)] = Z5Y Z2 Z3 (Z1Y prog fu Z2 Z3 (fu + 100)) := by kernel_rfl
 have c0 : Z1Y prog fu Z2 Z3 (fu + 100) = Z1S fu Z2 Z3 (fu + 100) := by funext l18 v48_1 v48_2 m18 i; exact Zaj fu Z2 Z3 (fu + 100) l18 v48_1 v48_2 m18 i
 rw [h1, c0]
 rfl
theorem ZwD {k N : Nat} {x : Int} (hk : k < 5) (hN : N <= 961) (h0 : 0 < N) (hx : 0 <= x /\ x < 2) : (decide (0 <= (wI (x + wI ((wI ((k : Int) * (N : Int))).tdiv 5))).tmod (N : Int)) && decide ((wI (x + wI ((wI ((k : Int) * (N : Int))).tdiv 5))).tmod (N : Int) < (N : Int))) = true /\ ((wI (x + wI ((wI ((k : Int) * (N : Int))).tdiv 5))).tmod (N : Int)).toNat < N := by
 have e1 : 0 <= (k : Int) * (N : Int) := Int.mul_nonneg (by omega) (by omega)
 have e2 : (k : Int) * (N : Int) <= 4 * 961 := Int.mul_le_mul (by omega) (by omega) (by omega) (by omega)
 generalize (k : Int) * (N : Int) = q at e1 e2 ⊢
 rw [Z03, Z03, Z03, show wrap64 q = q by unfold wrap64; omega, Int.tdiv_eq_ediv_of_nonneg e1, show wrap64 (q / 5) = q / 5 by unfold wrap64; omega, show wrap64 (x + q / 5) = x + q / 5 by unfold wrap64; omega, Int.tmod_eq_emod_of_nonneg (by omega)]
 have a := Int.emod_nonneg (x + q / 5) (show (N : Int) ≠ 0 by omega)
 have b := Int.emod_lt_of_pos (x + q / 5) (show (0 : Int) < N by omega)
 refine ⟨?_, by omega⟩
 rw [decide_eq_true a, decide_eq_true b]
 rfl
def Z4T (Z2 : Nat) (Z3 : List Int) : Int × Nat × List Int := (Z2S 1000000 Z2 Z3).getD (0, 0, [])
def Z3v : (Nat) -> (List Int) -> (Int × Nat × List Int) := shut Z4T
theorem Z7Y (Z2 : Nat) (Z3 : List Int) : Z3v Z2 Z3 = Z4T Z2 Z3 := by
 unfold Z3v
 rw [Z1e]
set_option maxHeartbeats 4000000 in
theorem Z7Z (Z2 : Nat) (Z3 : List Int) (hp : (Z2p Z2 Z3) = true) : ∃ r, Z2S 1000000 Z2 Z3 = some r /\ lenB r.2.1 2 r.2.2 = true := by
 have hs := Z01 hp
 have h0 : srcB Z2 Z3 (Z1F Z2 Z3).2.2.2 = true := ZC Z2 Z3 _ hs
 have hq : prB (Z1F Z2 Z3).1 = true := Z0f Z2 Z3 _ hs
 have h1 : srcB Z2 Z3 (ZcJ Z2 Z3).2.2.2 = true := Z1x Z2 Z3 _ _ h0
 have hN : (Z6s Z2 Z3).1 <= 961 := Nat.le_trans (List.length_filter_le _ _) (Zkt hq)
 have hL : (Z6s Z2 Z3).2.length = 2 * (Z6s Z2 Z3).1 := Z0q _
 have key : ∀ (m F : Nat) (l : List Int) (a b : Int) (k : Nat), k + m = 5 -> m < F -> l.length = 2 * k -> srcB Z2 Z3 (a, b) = true -> ∃ r, Z1S 1000000 Z2 Z3 F l a b k (k : Int) = some r /\ lenB r.2.1 2 r.2.2 = true := by
  intro m
  induction m with
  | zero =>
   intro F l a b k hk hF hl hs
   obtain ⟨F, rfl⟩ : ∃ G, F = G + 1 := ⟨F - 1, by omega⟩
   obtain rfl : k = 5 := by omega
   have s1 := fun n => Zf Z2 Z3 (a, b) n hs
   have s2 := fun n x => ZY Z2 Z3 _ (Z1F Z2 Z3).1 x (s1 n)
   show ∃ r, Z1Q Z2 Z3 _ l a b 5 ((5 : Nat) : Int) = some r /\ _
   unfold Z1Q
   rw [if_neg (by decide), if_pos hs]
   refine ZoN (fun _ => ?_) (fun _ => ZoN (fun _ => ?_) (fun _ => ?_))
   ·rw [if_pos (by decide), if_pos (Z1G (s1 _) hq)]
    exact ZoO (ZgX (n := 6) (by simp; omega) (by decide))
   ·rw [if_pos (Z1G (s1 _) hq), if_pos (by decide), if_pos (Z1n (by omega)), if_pos (Z1G (s2 _ _) hq)]
    exact ZoO (ZgX (n := 5) (by simp; omega) (by decide))
   ·rw [if_pos (Z1G (s1 _) hq)]
    exact ZoO (ZgX (n := 5) (by simp; omega) (by decide))
  | succ m ih =>
   intro F l a b k hk hF hl hs
   obtain ⟨F, rfl⟩ : ∃ G, F = G + 1 := ⟨F - 1, by omega⟩
   have s1 := ZT Z2 Z3 (a, b) (Z1F Z2 Z3).1 hs
   have s2 := Zf Z2 Z3 _ 6 s1
   have s3 := Zf Z2 Z3 _ 2 s2
   have r3 := Z0G Z2 Z3 _ 2 s2 (by decide)
   have hm : (Nat.ble 0 1 && Nat.ble (k + 1) 2000000 && Nat.beq 2 2) = true := by
    rw [Z1n (show k + 1 <= 2000000 by omega)]
    rfl
   have hw : wI ((k : Int) + 1) = ((k + 1 : Nat) : Int) := Z2o (n := 5) (by omega) (by decide)
   show ∃ r, Z1Q Z2 Z3 _ l a b k (k : Int) = some r /\ _
   unfold Z1Q
   rw [if_pos (by simp; omega), if_pos (Z1G hs hq), hw]
   refine ZoN (fun h4 => ?_) (fun _ => ?_)
   ·have h4 := of_decide_eq_true h4
    obtain ⟨i1, i2⟩ := ZwD (k := k) (N := (Z6s Z2 Z3).1) (by omega) hN (by omega) r3
    rw [if_pos s1]
    refine ZoN (fun _ => ?_) (fun _ => ?_)
    ·rw [if_pos s2, if_pos (by simp; omega), if_pos i1, if_pos (Z1n (by omega)), if_pos hm]
     exact ih F _ _ _ (k + 1) (by omega) (by omega) (by simp; omega) s3
    ·rw [if_pos hm]
     exact ih F _ _ _ (k + 1) (by omega) (by omega) (by simp; omega) s2
   ·rw [if_pos hm]
    exact ih F _ _ _ (k + 1) (by omega) (by omega) (by simp; omega) s1
 unfold Z2S Z5Y
 rw [if_pos hp, if_pos hs, if_pos (Z1G h0 hq), if_pos hq]
 exact key 5 _ [] _ _ 0 (by omega) (by decide) rfl h1
theorem Zby (Z2 : Nat) (Z3 : List Int) (hp : (Z2p Z2 Z3) = true) : (fun r : Int × Nat × List Int => lenB r.2.1 2 r.2.2 = true) (Z3v Z2 Z3) := by
 obtain ⟨r, e, h⟩ := Z7Z Z2 Z3 hp
 rw [Z7Y]
 unfold Z4T
 rw [e]
 first | done | exact h
theorem ZcA (Z2 : Nat) (Z3 : List Int) (hp : (Z2p Z2 Z3) = true) : Z2S 1000000 Z2 Z3 = some (Z3v Z2 Z3) := by
 obtain ⟨r, e, _⟩ := Z7Z Z2 Z3 hp
 rw [Z7Y]
 unfold Z4T
 rw [e]
 rfl
def Z5y : RunP
 | [.s Z2 (.byts Z3)] => some (Z2p Z2 Z3, ZiV (Z3v Z2 Z3))
 | _ => none
theorem Zba : Sound prog 26 Z5y := by
 refine ZN Zrv ZcS (by kernel_rfl) func26 ntmps26 rfl (by kernel_rfl) fun q r E => ?_
 unfold Z5y at E
 split at E
 ·obtain ⟨hp, rfl⟩ := so2 E
  rename_i Z2 Z3
  exact ⟨_, _, rfl, (ZcV _ Z2 Z3).trans (ZcA Z2 Z3 hp)⟩
 ·cases E

abbrev Za3 (Z2 : Nat) (Z3 : List Int) : Int × STy := (Z1u Z2 Z3 (Z3Q Z2 Z3))
abbrev Zj1 (Z2 : Nat) (Z3 : List Int) : Int × STy := (Zl Z2 Z3 ((Za3 Z2 Z3).2.2.2) ((Za3 Z2 Z3).1))
abbrev Zj2 (Z2 : Nat) (Z3 : List Int) : Int × STy := (Zl Z2 Z3 ((Zj1 Z2 Z3).2.2.2) 2)
abbrev Zj3 (Z2 : Nat) (Z3 : List Int) : Int × STy := (Zl Z2 Z3 ((Zj2 Z2 Z3).2.2.2) ((Za3 Z2 Z3).1))
abbrev Zj4 (Z2 : Nat) (Z3 : List Int) : Int × STy := (Zl Z2 Z3 ((Zj3 Z2 Z3).2.2.2) 2)
abbrev Zj5 (Z2 : Nat) (Z3 : List Int) : Int × STy := (Zl Z2 Z3 ((Zj4 Z2 Z3).2.2.2) ((Za3 Z2 Z3).1))
abbrev Zj6 (Z2 : Nat) (Z3 : List Int) : Int × STy := (Zl Z2 Z3 ((Zj5 Z2 Z3).2.2.2) 2)
abbrev Zj7 (Z2 : Nat) (Z3 : List Int) : Int × STy := (Zl Z2 Z3 ((Zj6 Z2 Z3).2.2.2) ((Za3 Z2 Z3).1))
abbrev Zj8 (Z2 : Nat) (Z3 : List Int) : Int × STy := (Zl Z2 Z3 ((Zj7 Z2 Z3).2.2.2) 2)
abbrev Zj9 (Z2 : Nat) (Z3 : List Int) : Int × STy := (Zl Z2 Z3 ((Zj8 Z2 Z3).2.2.2) ((Za3 Z2 Z3).1))
abbrev ZdL (Z2 : Nat) (Z3 : List Int) : Int × STy := (Zl Z2 Z3 ((Zj9 Z2 Z3).2.2.2) 2)
abbrev ZdM (Z2 : Nat) (Z3 : List Int) : Int × STy := (Zl Z2 Z3 ((ZdL Z2 Z3).2.2.2) ((Za3 Z2 Z3).1))
abbrev ZdN (Z2 : Nat) (Z3 : List Int) : Int × STy := (Zl Z2 Z3 ((ZdM Z2 Z3).2.2.2) 2)
abbrev Zc9 (Z2 : Nat) (Z3 : List Int) : Int × STy := (Zl Z2 Z3 ((ZdN Z2 Z3).2.2.2) 16)
abbrev Zp2 (Z2 : Nat) (Z3 : List Int) : Int × STy := (Z0U Z2 Z3 ((Zc9 Z2 Z3).2.2.2) ((Za3 Z2 Z3).1))
abbrev ZfT (Z2 : Nat) (Z3 : List Int) : Int × STy := (Zl Z2 Z3 ((Zc9 Z2 Z3).2.2.2) 6)
abbrev Zp3 (Z2 : Nat) (Z3 : List Int) : Int × STy := (Z3w Z2 Z3 ((ZfT Z2 Z3).2.2.2) 2 [(-1), (Za3 Z2 Z3).1])
abbrev Zv9 (Z2 : Nat) (Z3 : List Int) : Int × STy := (Z0U Z2 Z3 ((Zp3 Z2 Z3).2.2.2) ((Za3 Z2 Z3).1))
def ZcE : Sums := ⟨tblS [], tblM [(67, .src Z5L), (76, .box Z3u), (68, .box Z1d), (80, .box Z3P), (92, .box Z3C)], false, false⟩
theorem ZhC : ZJ prog ZcE := ⟨ZD ⟨⟩, Z56 ⟨⟨call67, Z71⟩, ⟨call76, Z4V⟩, ⟨call68, Z15⟩, ⟨call80, Z55⟩, ⟨call92, Z3X⟩, ⟨⟩⟩⟩
def Z81 (Z2 : Nat) (Z3 : List Int) : Option (Int × Nat × List Int) :=
 (if (Z2p Z2 Z3) = true then (if (srcB Z2 Z3 (Z3Q Z2 Z3)) = true then (if (srcB Z2 Z3 ((Za3 Z2 Z3).2.2.2)) = true then (if (srcB Z2 Z3 ((Zj1 Z2 Z3).2.2.2)) = true then (if (srcB Z2 Z3 ((Zj2 Z2 Z3).2.2.2)) = true then (if (srcB Z2 Z3 ((Zj3 Z2 Z3).2.2.2)) = true then (if (srcB Z2 Z3 ((Zj4 Z2 Z3).2.2.2)) = true then (if (srcB Z2 Z3 ((Zj5 Z2 Z3).2.2.2)) = true then (if (srcB Z2 Z3 ((Zj6 Z2 Z3).2.2.2)) = true then (if (srcB Z2 Z3 ((Zj7 Z2 Z3).2.2.2)) = true then (if (srcB Z2 Z3 ((Zj8 Z2 Z3).2.2.2)) = true then (if (srcB Z2 Z3 ((Zj9 Z2 Z3).2.2.2)) = true then (if (srcB Z2 Z3 ((ZdL Z2 Z3).2.2.2)) = true then (if (srcB Z2 Z3 ((ZdM Z2 Z3).2.2.2)) = true then (if (srcB Z2 Z3 ((ZdN Z2 Z3).2.2.2)) = true then (if (((Zc9 Z2 Z3).1) == 0) = true then (if (srcB Z2 Z3 ((Zc9 Z2 Z3).2.2.2) && prB ((Za3 Z2 Z3).1)) = true then some ((Zp2 Z2 Z3).1, (7, [wI (((Zj1 Z2 Z3).1) * ((Zj2 Z2 Z3).1)), wI (((Zj3 Z2 Z3).1) * ((Zj4 Z2 Z3).1)), wI (((Zj5 Z2 Z3).1) * ((Zj6 Z2 Z3).1)), wI (((Zj7 Z2 Z3).1) * ((Zj8 Z2 Z3).1)), wI (((Zj9 Z2 Z3).1) * ((ZdL Z2 Z3).1)), wI (((ZdM Z2 Z3).1) * ((ZdN Z2 Z3).1)), 0])) else none) else (if (((Zc9 Z2 Z3).1) == 1) = true then (if (srcB Z2 Z3 ((Zc9 Z2 Z3).2.2.2)) = true then (if (srcB Z2 Z3 ((ZfT Z2 Z3).2.2.2) && (lenB 2 1 ([(-1), (Za3 Z2 Z3).1]) && Nat.blt 0 2)) = true then (if (decide (0 <= (ZfT Z2 Z3).1) && decide ((ZfT Z2 Z3).1 < ((6 : Nat) : Int))) = true then (if (Nat.ble ((((ZfT Z2 Z3).1).toNat) * 1 + 1) 6) = true then (if (srcB Z2 Z3 ((Zp3 Z2 Z3).2.2.2) && prB ((Za3 Z2 Z3).1)) = true then some ((Zv9 Z2 Z3).1, (6, [wI (((Zj1 Z2 Z3).1) * ((Zj2 Z2 Z3).1)), wI (((Zj3 Z2 Z3).1) * ((Zj4 Z2 Z3).1)), wI (((Zj5 Z2 Z3).1) * ((Zj6 Z2 Z3).1)), wI (((Zj7 Z2 Z3).1) * ((Zj8 Z2 Z3).1)), wI (((Zj9 Z2 Z3).1) * ((ZdL Z2 Z3).1)), wI (((ZdM Z2 Z3).1) * ((ZdN Z2 Z3).1))].set ((((ZfT Z2 Z3).1).toNat) * 1 + 0) ((Zp3 Z2 Z3).1))) else none) else none) else none) else none) else none) else (if (srcB Z2 Z3 ((Zc9 Z2 Z3).2.2.2) && prB ((Za3 Z2 Z3).1)) = true then some ((Zp2 Z2 Z3).1, (6, [wI (((Zj1 Z2 Z3).1) * ((Zj2 Z2 Z3).1)), wI (((Zj3 Z2 Z3).1) * ((Zj4 Z2 Z3).1)), wI (((Zj5 Z2 Z3).1) * ((Zj6 Z2 Z3).1)), wI (((Zj7 Z2 Z3).1) * ((Zj8 Z2 Z3).1)), wI (((Zj9 Z2 Z3).1) * ((ZdL Z2 Z3).1)), wI (((ZdM Z2 Z3).1) * ((ZdN Z2 Z3).1))])) else none))) else none) else none) else none) else none) else none) else none) else none) else none) else none) else none) else none) else none) else none) else none) else none)
theorem ZhT (Z2 : Nat) (Z3 : List Int) : eT ZcE 29 47 ZfL [.s Z2 (.byts Z3)] = Z81 Z2 Z3 := by
 kernel_rfl
def Z6X (Z2 : Nat) (Z3 : List Int) : Int × Nat × List Int :=
 (if (((Zc9 Z2 Z3).1) == 0) = true then ((Zp2 Z2 Z3).1, (7, [wrap64 (((Zj1 Z2 Z3).1) * ((Zj2 Z2 Z3).1)), wrap64 (((Zj3 Z2 Z3).1) * ((Zj4 Z2 Z3).1)), wrap64 (((Zj5 Z2 Z3).1) * ((Zj6 Z2 Z3).1)), wrap64 (((Zj7 Z2 Z3).1) * ((Zj8 Z2 Z3).1)), wrap64 (((Zj9 Z2 Z3).1) * ((ZdL Z2 Z3).1)), wrap64 (((ZdM Z2 Z3).1) * ((ZdN Z2 Z3).1)), 0])) else (if (((Zc9 Z2 Z3).1) == 1) = true then ((Zv9 Z2 Z3).1, (6, [wrap64 (((Zj1 Z2 Z3).1) * ((Zj2 Z2 Z3).1)), wrap64 (((Zj3 Z2 Z3).1) * ((Zj4 Z2 Z3).1)), wrap64 (((Zj5 Z2 Z3).1) * ((Zj6 Z2 Z3).1)), wrap64 (((Zj7 Z2 Z3).1) * ((Zj8 Z2 Z3).1)), wrap64 (((Zj9 Z2 Z3).1) * ((ZdL Z2 Z3).1)), wrap64 (((ZdM Z2 Z3).1) * ((ZdN Z2 Z3).1))].set ((((ZfT Z2 Z3).1).toNat) * 1 + 0) ((Zp3 Z2 Z3).1))) else ((Zp2 Z2 Z3).1, (6, [wrap64 (((Zj1 Z2 Z3).1) * ((Zj2 Z2 Z3).1)), wrap64 (((Zj3 Z2 Z3).1) * ((Zj4 Z2 Z3).1)), wrap64 (((Zj5 Z2 Z3).1) * ((Zj6 Z2 Z3).1)), wrap64 (((Zj7 Z2 Z3).1) * ((Zj8 Z2 Z3).1)), wrap64 (((Zj9 Z2 Z3).1) * ((ZdL Z2 Z3).1)), wrap64 (((ZdM Z2 Z3).1) * ((ZdN Z2 Z3).1))]))))
def Zr : (Nat) -> (List Int) -> (Int × Nat × List Int) := shut Z6X
theorem Zbx (Z2 : Nat) (Z3 : List Int) : Zr Z2 Z3 = Z6X Z2 Z3 := by
 unfold Zr
 rw [Z1e]
theorem Zho (Z2 : Nat) (Z3 : List Int) (hp : (Z2p Z2 Z3) = true) : Z81 Z2 Z3 = some (Zr Z2 Z3) := by
 have hc := hp
 rw [Zbx]
 unfold Z81 Z6X
 (try simp only [Z03])
 repeat' (first | with_reducible rfl | refine Z04 (by first | (with_reducible assumption) | ((repeat (with_reducible first | assumption | exact Z01 hc | apply ZC | apply Zf | apply ZF | apply Zm)); done) | (with_reducible exact Z0f _ _ _ (by ((repeat (with_reducible first | assumption | exact Z01 hc | apply ZC | apply Zf | apply ZF | apply Zm)); done))) | fail | exact Z5x ‹_› | exact Z1G (by ((repeat (with_reducible first | assumption | exact Z01 hc | apply ZC | apply Zf | apply ZF | apply Zm)); done)) (by (first | (with_reducible assumption) | with_reducible exact Z0f _ _ _ (by ((repeat (with_reducible first | assumption | exact Z01 hc | apply ZC | apply Zf | apply ZF | apply Zm)); done)) | fail | rfl)) | exact Z4u ‹_› (by (first | exact Z0q _ | exact Z0y _)) | exact Z25 (Z0G _ _ _ _ (by ((repeat (with_reducible first | assumption | exact Z01 hc | apply ZC | apply Zf | apply ZF | apply Zm)); done)) (by decide)) | exact Z1n (Z3K _ _ _ _ (by ((repeat (with_reducible first | assumption | exact Z01 hc | apply ZC | apply Zf | apply ZF | apply Zm)); done)) (by decide) (by decide)) | exact Z1n (Z3s _ _ _ _ (by ((repeat (with_reducible first | assumption | exact Z01 hc | apply ZC | apply Zf | apply ZF | apply Zm)); done)) (by decide) (by decide)) | exact Z25 (Z0G _ _ _ _ (by ((repeat (with_reducible first | assumption | exact Z01 hc | apply ZC | apply Zf | apply ZF | apply Zm)); done)) (Z54 ‹_›)) | exact Z3t (by ((repeat (with_reducible first | assumption | exact Z01 hc | apply ZC | apply Zf | apply ZF | apply Zm)); done)) ‹_› (by (first | exact Z0q _ | exact Z0y _))) ?_ | refine ZS (fun _ => ?_) (fun _ => ?_) | rfl)
def Z7M : RunP
 | [.s Z2 (.byts Z3)] => some (Z2p Z2 Z3, Zlc (Zr Z2 Z3))
 | _ => none
theorem Zf0 : Sound prog 29 Z7M := by
 refine ZN ZtC ZhC (by kernel_rfl) func29 ntmps29 rfl (by kernel_rfl) fun q r E => ?_
 unfold Z7M at E
 split at E
 ·obtain ⟨hp, rfl⟩ := so2 E
  rename_i Z2 Z3
  exact ⟨_, _, rfl, (ZhT Z2 Z3).trans (Zho Z2 Z3 hp)⟩
 ·cases E

abbrev ZoZ (sn : Nat) (sl : List Int) (ss : P2) : Int × STy := (Z3w sn sl ((Zl sn sl ss 40).2.2.2) 3 [(-1), 3, 1099511627776])
abbrev Zp0 (sn : Nat) (sl : List Int) (ss : P2) : Int × STy := (Zl sn sl ((Zl sn sl ss 40).2.2.2) 3)
def Zam : Sums := ⟨tblS [], tblM [(68, .box Z1d), (92, .box Z3C)], false, false⟩
theorem Zfw : ZJ prog Zam := ⟨ZD ⟨⟩, Z56 ⟨⟨call68, Z15⟩, ⟨call92, Z3X⟩, ⟨⟩⟩⟩
def Z76 (sn : Nat) (sl : List Int) (ss : P2) : Option (Int × STy) :=
 (if (srcB sn sl ss) = true then (if (((Zl sn sl ss 40).1) == 0) = true then (if (srcB sn sl ((Zl sn sl ss 40).2.2.2) && (lenB 3 1 ([(-1), 3, 1099511627776]) && Nat.blt 0 3)) = true then some ((ZoZ sn sl ss).1, sn, sl, (ZoZ sn sl ss).2.2.2) else none) else (if (srcB sn sl ((Zl sn sl ss 40).2.2.2)) = true then some ((Zp0 sn sl ss).1, sn, sl, (Zp0 sn sl ss).2.2.2) else none)) else none)
theorem ZfP (sn : Nat) (sl : List Int) (ss : P2) : Zat prog Zam 123 11 (fun _ => 1000000) Z77 117 [.s sn (.byts sl), .v (.int .i64 ss.1), .v (.int .u64 ss.2)] [] = Z76 sn sl ss := by
 kernel_rfl
def Z5W (sn : Nat) (sl : List Int) (ss : P2) : Int × STy :=
 (if (((Zl sn sl ss 40).1) == 0) = true then ((ZoZ sn sl ss).1, sn, sl, (ZoZ sn sl ss).2.2.2) else ((Zp0 sn sl ss).1, sn, sl, (Zp0 sn sl ss).2.2.2))
def Z3W : (Nat) -> (List Int) -> P2 -> (Int × STy) := shut Z5W
theorem Zae (sn : Nat) (sl : List Int) (ss : P2) : Z3W sn sl ss = Z5W sn sl ss := by
 unfold Z3W
 rw [Z1e]
theorem Zf5 (sn : Nat) (sl : List Int) (ss : P2) (hp : (srcB sn sl ss) = true) : Z76 sn sl ss = some (Z3W sn sl ss) := by
 have hs := hp
 have hc := (Z2a hs).1
 rw [Zae]
 unfold Z76 Z5W
 (try simp only [Z03])
 repeat' (first | with_reducible rfl | refine Z04 (by first | (with_reducible assumption) | ((repeat (with_reducible first | assumption | apply Zf | apply Zm)); done) | (with_reducible exact Z0f _ _ _ (by ((repeat (with_reducible first | assumption | apply Zf | apply Zm)); done))) | fail | exact Z5x ‹_› | exact Z1G (by ((repeat (with_reducible first | assumption | apply Zf | apply Zm)); done)) (by (first | (with_reducible assumption) | with_reducible exact Z0f _ _ _ (by ((repeat (with_reducible first | assumption | apply Zf | apply Zm)); done)) | fail | rfl)) | exact Z4u ‹_› (by (first | exact Z0q _ | exact Z0y _)) | exact Z25 (Z0G _ _ _ _ (by ((repeat (with_reducible first | assumption | apply Zf | apply Zm)); done)) (by decide)) | exact Z1n (Z3K _ _ _ _ (by ((repeat (with_reducible first | assumption | apply Zf | apply Zm)); done)) (by decide) (by decide)) | exact Z1n (Z3s _ _ _ _ (by ((repeat (with_reducible first | assumption | apply Zf | apply Zm)); done)) (by decide) (by decide)) | exact Z25 (Z0G _ _ _ _ (by ((repeat (with_reducible first | assumption | apply Zf | apply Zm)); done)) (Z54 ‹_›)) | exact Z3t (by ((repeat (with_reducible first | assumption | apply Zf | apply Zm)); done)) ‹_› (by (first | exact Z0q _ | exact Z0y _))) ?_ | refine ZS (fun _ => ?_) (fun _ => ?_) | rfl)
theorem Z19 (sn : Nat) (sl : List Int) (ss : P2) (hs : srcB sn sl ss = true) : srcB sn sl (Z3W sn sl ss).2.2.2 = true := by
 have hc := (Z2a hs).1
 rw [Zae]
 unfold Z5W
 repeat' (first | (with_reducible first | assumption | apply Zf | apply Zm) | refine Z6R (P := fun r : Int × STy => srcB sn sl r.2.2.2 = true) ?_ ?_ | dsimp only)
def Z6C : PRun
 | 117, [.s sn (.byts sl), .v (.int .i64 s_1), .v (.int .u64 s_2)], [] => some (srcB sn sl (s_1, s_2), Z8b (Z3W sn sl (s_1, s_2)))
 | _, _, _ => none
theorem Zde : Z7E prog 123 Z6C := by
 refine Z5k Zbh Zfw (by kernel_rfl) func123 ntmps123 rfl (by kernel_rfl) ?_
 intro e bcs pvs rs bcs' hrun
 unfold Z6C at hrun
 split at hrun
 ·simp only [Option.some.injEq, Prod.mk.injEq] at hrun
  obtain ⟨hp, hrun⟩ := hrun
  rename_i sn sl s_1 s_2
  exact ⟨_, Z3W sn sl (s_1, s_2), by first | exact hrun.symm | exact (Prod.ext hrun.1 hrun.2).symm, (ZfP sn sl (s_1, s_2)).trans (Zf5 sn sl (s_1, s_2) hp)⟩
 ·cases hrun

def ZiO : Sums := ⟨tblS [(87, Z6L), (104, Z6U)], tblM [], false, false⟩
theorem Zo7 : ZJ prog ZiO := ⟨ZD ⟨⟨call87, Z99⟩, ⟨call104, ZaG⟩, ⟨⟩⟩, tM⟩
def ZbS (p Z8 : Int) (Z0 : Nat) (pointsl : List Int) : Option (Int) :=
 (if (lenB Z0 2 pointsl) = true then (if ((ZB p (Z06 Z0 pointsl)) == 0) = true then (if (!(Z4U Z8)) = true then some 2 else some (ZB p (Z06 Z0 pointsl))) else some (ZB p (Z06 Z0 pointsl))) else none)
theorem ZoH (p Z8 : Int) (Z0 : Nat) (pointsl : List Int) : eT ZiO 135 19 Z2T [pI p, pI Z8, .s Z0 (.ints pointsl)] = ZbS p Z8 Z0 pointsl := by
 kernel_rfl
def Z3R (p Z8 : Int) (Z0 : Nat) (pointsl : List Int) : Int :=
 (if ((ZB p (Z06 Z0 pointsl)) == 0) = true then (if (!(Z4U Z8)) = true then 2 else (ZB p (Z06 Z0 pointsl))) else (ZB p (Z06 Z0 pointsl)))
theorem Zn2 (p Z8 : Int) (Z0 : Nat) (pointsl : List Int) (hp : (lenB Z0 2 pointsl) = true) : ZbS p Z8 Z0 pointsl = some (Z3R p Z8 Z0 pointsl) := by
 unfold ZbS Z3R
 (try simp only [Z03])
 repeat' (first | with_reducible rfl | with_reducible refine Z04 hp ?_ | refine ZS (fun _ => ?_) (fun _ => ?_) | rfl)
def Zb5 : RunP
 | [.v (.int .i64 p), .v (.int .i64 Z8), .s Z0 (.ints pointsl)] => some (lenB Z0 2 pointsl, Z7V (Z3R p Z8 Z0 pointsl))
 | _ => none
theorem ZjY : Sound prog 135 Zb5 := by
 refine ZN Zdw Zo7 (by kernel_rfl) func135 ntmps135 rfl (by kernel_rfl) fun q r E => ?_
 unfold Zb5 at E
 split at E
 ·obtain ⟨hp, rfl⟩ := so2 E
  rename_i p Z8 Z0 pointsl
  exact ⟨_, _, rfl, (ZoH p Z8 Z0 pointsl).trans (Zn2 p Z8 Z0 pointsl hp)⟩
 ·cases E

theorem ZqG {p c : Int} {n : Nat} {l : List Int} (h : ¬ (Z3R p c n l != 0) = true) : prB p = true := by
 refine Z9R (Zx ?_)
 have h : Z3R p c n l = 0 := by simpa using h
 cases hf : Zo p
 ·simp [Z3R, ZB, Z0a, hf] at h
 ·rfl
def Zfc : Sums := ⟨tblS [(90, Z2e), (116, Z5h)], tblM [], false, false⟩
theorem ZkJ : ZJ prog Zfc := ⟨ZD ⟨⟨call90, Z2d⟩, ⟨call116, Z7i⟩, ⟨⟩⟩, tM⟩
def Z9J (p a : Int) (b c : Int) : Option P3 :=
 (if (prB p) = true then (if ((Z4 a p) == 0) = true then (if (prB p) = true then (if (prB p) = true then (if (prB p) = true then (if (prB p) = true then (if (prB p) = true then some ((Z4 (wI (a * (Zn (Z4 b p) p))) p), (Z4 (wI (b * (Zn (Z4 b p) p))) p), (Z4 (wI (c * (Zn (Z4 b p) p))) p)) else none) else none) else none) else none) else none) else (if (prB p) = true then (if (prB p) = true then (if (prB p) = true then (if (prB p) = true then some ((Z4 (wI (a * (Zn (Z4 a p) p))) p), (Z4 (wI (b * (Zn (Z4 a p) p))) p), (Z4 (wI (c * (Zn (Z4 a p) p))) p)) else none) else none) else none) else none)) else none)
theorem Zlo (p a : Int) (b c : Int) : eT Zfc 60 38 ZfK [pI p, pI a, pI b, pI c] = Z9J p a b c := by
 kernel_rfl
def Z0m (p a : Int) (b c : Int) : Int × Int × Int :=
 (if ((Z4 a p) == 0) = true then ((Z4 (wrap64 (a * (Zn (Z4 b p) p))) p), (Z4 (wrap64 (b * (Zn (Z4 b p) p))) p), (Z4 (wrap64 (c * (Zn (Z4 b p) p))) p)) else ((Z4 (wrap64 (a * (Zn (Z4 a p) p))) p), (Z4 (wrap64 (b * (Zn (Z4 a p) p))) p), (Z4 (wrap64 (c * (Zn (Z4 a p) p))) p)))
theorem Zkc (p a : Int) (b c : Int) (hp : (prB p) = true) : Z9J p a b c = some (Z0m p a b c) := by
 unfold Z9J Z0m
 (try simp only [Z03])
 repeat' (first | with_reducible rfl | with_reducible refine Z04 hp ?_ | refine ZS (fun _ => ?_) (fun _ => ?_) | rfl)
def Z94 : RunP
 | [.v (.int .i64 p), .v (.int .i64 a), .v (.int .i64 b), .v (.int .i64 c)] => some (prB p, ZrA (Z0m p a b c))
 | _ => none
theorem Zhj : Sound prog 60 Z94 := by
 refine ZN ZwJ ZkJ (by kernel_rfl) func60 ntmps60 rfl (by kernel_rfl) fun q r E => ?_
 unfold Z94 at E
 split at E
 ·obtain ⟨hp, rfl⟩ := so2 E
  rename_i p a b c
  exact ⟨_, _, rfl, (Zlo p a b c).trans (Zkc p a b c hp)⟩
 ·cases E

def Z6G : Sums := ⟨tblS [(135, Zb5), (60, Z94), (105, Z41)], tblM [], false, false⟩
theorem ZkI : ZJ prog Z6G := ⟨ZD ⟨⟨call135, ZjY⟩, ⟨call60, Zhj⟩, ⟨call105, Z6Q⟩, ⟨⟩⟩, tM⟩
def ZjB (p Z8 : Int) (a : P2) (l20 : List Int) (m20 : Nat) (i : Int) : Tab := ⟨[vI (p), vI (Z8), .val (.agg ⟨[.int .i64 a.1, .int .i64 a.2]⟩), jK, jK, .ptr 20 0, .val (.slice none 0 0), vI (0), vI ((Z3R p Z8 1 [a.1, a.2])), .row 80, vI (i), jK, vI (p), vI (Z8), .val (.agg ⟨[.int .i64 a.1, .int .i64 a.2]⟩), .row 60, vI ((Z3R p Z8 1 [a.1, a.2])), vI ((Z3R p Z8 1 [a.1, a.2])), vB (((Z3R p Z8 1 [a.1, a.2]) != 0)), ] ++ (jN 34 ++ [jK]), [(20, .box 27 [vI (a.1), vI (a.2)]), (60, .row 27 2 1 (.ints [a.1, a.2])), (80, .row 31 3 m20 (.ints l20))]⟩
def Z4K (P : Program) (fu : Nat) (p Z8 : Int) (a : P2) (f : Nat) (l20 : List Int) (m20 : Nat) (i : Int) : Option ((Nat × List Int) × Int) := ZH (exec P Z6G 54 (fun _ => fu + 100) (Code.sub [1, 1, 1, 0, 1, 0, 0] (Zb P 124))) f (ZjB p Z8 a l20 m20 i) (Zc 0 (kSeq (fun Zp => exec P Z6G 54 (fun _ => fu + 100) (Code.sub [1, 1, 1, 1] (Zb P 124)) Zp (finT P 124 Z7n)) (finT P 124 Z7n)))
def Z2O (p Z8 : Int) (a : P2) (ZE : (List Int) -> Nat -> Int -> Option ((Nat × List Int) × Int)) (l20 : List Int) (m20 : Nat) (i : Int) : Option ((Nat × List Int) × Int) :=
 (if (decide (i < p)) = true then (if (prB p) = true then (if (decide (i ≥ 0)) = true then (if (prB p) = true then (if (prB p) = true then (if (ZL p Z8 (Z0m p 1 i (wI (0 - (wI (a.1 + (wI (i * a.2))))))) (Z0m p 1 i (wI (0 - (wI (a.1 + (wI (i * a.2)))))))) = true then (if (Nat.ble 0 1 && Nat.ble (m20 + 1) 2000000 && Nat.beq 3 (3)) = true then ZE (l20 ++ [(Z0m p 1 i (wI (0 - (wI (a.1 + (wI (i * a.2))))))).1, (Z0m p 1 i (wI (0 - (wI (a.1 + (wI (i * a.2))))))).2.1, (Z0m p 1 i (wI (0 - (wI (a.1 + (wI (i * a.2))))))).2.2]) (m20 + 1) (wI (i + 1)) else none) else ZE l20 m20 (wI (i + 1))) else none) else none) else (if (prB p) = true then (if (ZL p Z8 (Z0m p 0 1 (wI (0 - a.2))) (Z0m p 0 1 (wI (0 - a.2)))) = true then (if (Nat.ble 0 1 && Nat.ble (m20 + 1) 2000000 && Nat.beq 3 (3)) = true then ZE (l20 ++ [(Z0m p 0 1 (wI (0 - a.2))).1, (Z0m p 0 1 (wI (0 - a.2))).2.1, (Z0m p 0 1 (wI (0 - a.2))).2.2]) (m20 + 1) (wI (i + 1)) else none) else ZE l20 m20 (wI (i + 1))) else none)) else none) else some ((m20, l20), 0))
def Z1P (fu : Nat) (p Z8 : Int) (a : P2) : Nat -> (List Int) -> Nat -> Int -> Option ((Nat × List Int) × Int)
 | 0, _, _, _ => none
 | f + 1, l20, m20, i => Z2O p Z8 a (Z1P fu p Z8 a f) l20 m20 i
theorem Zg0 (fu : Nat) (p Z8 : Int) (a : P2) : ∀ (f : Nat) (l20 : List Int) (m20 : Nat) (i : Int), Z4K prog fu p Z8 a f l20 m20 i = Z1P fu p Z8 a f l20 m20 i := by
 intro f
 induction f with
 | zero => intros; rfl
 | succ f ih =>
  intro l20 m20 i
  have h1 : Z4K prog fu p Z8 a (f + 1) l20 m20 i = Z2O p Z8 a (Z4K prog fu p Z8 a f) l20 m20 i := by kernel_rfl
  have h2 : Z4K prog fu p Z8 a f = Z1P fu p Z8 a f := by funext l20 m20 i; exact ih l20 m20 i
  rw [h1, h2]
  rfl
def ZaS (p Z8 : Int) (a : P2) (lo0 : (List Int) -> Nat -> Int -> Option ((Nat × List Int) × Int)) : Option ((Nat × List Int) × Int) :=
 (if ((Z3R p Z8 1 [a.1, a.2]) != 0) = true then some ((0, []), (Z3R p Z8 1 [a.1, a.2])) else lo0 [] 0 (-1))
def Z9I (fu : Nat) (p Z8 : Int) (a : P2) : Option ((Nat × List Int) × Int) := ZaS p Z8 a (Z1P fu p Z8 a (fu + 100))
theorem Zln (fu : Nat) (p Z8 : Int) (a : P2) : eF fu Z6G 124 54 Z7n [pI p, pI Z8, pA a] = Z9I fu p Z8 a := by
 have h1 : eF fu Z6G 124 54 Z7n [pI p, pI Z8, pA a] = ZaS p Z8 a (Z4K prog fu p Z8 a (fu + 100)) := by kernel_rfl
 have c0 : Z4K prog fu p Z8 a (fu + 100) = Z1P fu p Z8 a (fu + 100) := by funext l20 m20 i; exact Zg0 fu p Z8 a (fu + 100) l20 m20 i
 rw [h1, c0]
 rfl
def ZrT (p Z8 : Int) (a : P2) : List P3 := (((Z0m p 0 1 (wI (0 - a.2))) :: (List.range p.toNat).map fun k : Nat => Z0m p 1 (k : Int) (wI (0 - (wI (a.1 + (wI ((k : Int) * a.2)))))))).filter fun zz => ZL p Z8 zz zz
def Z6b (p Z8 : Int) (a : P2) : (Nat × List Int) × Int := if ((Z3R p Z8 1 [a.1, a.2]) != 0) = true then ((0, []), (Z3R p Z8 1 [a.1, a.2])) else (((ZrT p Z8 a).length, Z5d (ZrT p Z8 a)), 0)
theorem ZnD (p Z8 : Int) (a : P2) : (Z6b p Z8 a).1.2.length = 3 * (Z6b p Z8 a).1.1 := by
 unfold Z6b
 split
 ·rfl
 ·exact Z0y _
theorem ZqO {p : Int} (hp : prB p = true) (Z8 : Int) (a : P2) {F m : Nat} {l : List Int} (hF : p.toNat < F) (hm : m <= 1) : Z1P 1000000 p Z8 a F l m 0 = some ((m + (((List.range p.toNat).map fun k : Nat => Z0m p 1 (k : Int) (wI (0 - (wI (a.1 + (wI ((k : Int) * a.2))))))).filter fun zz => ZL p Z8 zz zz).length, l ++ Z5d (((List.range p.toNat).map fun k : Nat => Z0m p 1 (k : Int) (wI (0 - (wI (a.1 + (wI ((k : Int) * a.2))))))).filter fun zz => ZL p Z8 zz zz)), 0) := by
 obtain ⟨h1, h0, hpn⟩ := Z7J hp
 have hg : ((List.range p.toNat).flatMap fun k : Nat => if ZL p Z8 (Z0m p 1 (k : Int) (wI (0 - (wI (a.1 + (wI ((k : Int) * a.2))))))) (Z0m p 1 (k : Int) (wI (0 - (wI (a.1 + (wI ((k : Int) * a.2))))))) = true then [Z0m p 1 (k : Int) (wI (0 - (wI (a.1 + (wI ((k : Int) * a.2))))))] else []) = (((List.range p.toNat).map fun k : Nat => Z0m p 1 (k : Int) (wI (0 - (wI (a.1 + (wI ((k : Int) * a.2))))))).filter fun zz => ZL p Z8 zz zz) := by
  rw [<- ZdD, List.flatMap_map]
 rw [<- hg]
 refine gather (flat := Z5d) Zni rfl (L := fun f l m i => Z1P 1000000 p Z8 a f l m i) (n := p.toNat) (b := 1) (M := 1) (fun k : Nat => if ZL p Z8 (Z0m p 1 (k : Int) (wI (0 - (wI (a.1 + (wI ((k : Int) * a.2))))))) (Z0m p 1 (k : Int) (wI (0 - (wI (a.1 + (wI ((k : Int) * a.2))))))) = true then [Z0m p 1 (k : Int) (wI (0 - (wI (a.1 + (wI ((k : Int) * a.2))))))] else []) (F := F) (by intro k hk; split <;> simp)
  (fun f k l m hk hm => by
   show Z2O p Z8 a (Z1P 1000000 p Z8 a f) l m (k : Int) = _
   unfold Z2O
   have e2 : decide ((k : Int) ≥ 0) = true := by simp
   have e6 : (Nat.ble 0 1 && Nat.ble (m + 1) 2000000 && Nat.beq 3 3) = true := by simp; omega
   simp only [cndp hk, hp, e2, e6, if_true, Z2o hk (by omega)]
   generalize Z0m p 1 (k : Int) (wI (0 - (wI (a.1 + (wI ((k : Int) * a.2)))))) = Z
   cases ZL p Z8 Z Z
   ·simp only [Bool.false_eq_true, if_false]
    rw [show Z5d [] = [] from rfl, List.append_nil]
    rfl
   ·simp only [if_true]
    rfl)
  (fun f hm => by
   show Z2O p Z8 a (Z1P 1000000 p Z8 a f) _ _ ((p.toNat : Nat) : Int) = _
   unfold Z2O
   rw [if_neg (by simp; omega)]) hF hm
theorem Zkb (p Z8 : Int) (a : P2) : Z9I 1000000 p Z8 a = some (Z6b p Z8 a) := by
 unfold Z9I ZaS Z6b
 refine ZS (fun _ => rfl) (fun hc => ?_)
 have hp : prB p = true := ZqG hc
 obtain ⟨h1, h0, hpn⟩ := Z7J hp
 show Z2O p Z8 a (Z1P 1000000 p Z8 a _) [] 0 (-1) = _
 unfold Z2O
 have e1 : decide ((-1 : Int) < p) = true := by simp; omega
 have e2 : decide ((-1 : Int) ≥ 0) = false := by decide
 have e3 : (Nat.ble 0 1 && Nat.ble (0 + 1) 2000000 && Nat.beq 3 3) = true := rfl
 have e4 : wI (-1 + 1) = 0 := by rw [Z03]; unfold wrap64; omega
 simp only [e1, hp, e2, e3, e4, if_true, Bool.false_eq_true, if_false]
 unfold ZrT
 rw [List.filter_cons]
 cases hq : ZL p Z8 (Z0m p 0 1 (wI (0 - a.2))) (Z0m p 0 1 (wI (0 - a.2)))
 ·simp only [Bool.false_eq_true, if_false]
  rw [ZqO hp Z8 a (by omega) (by omega)]
  simp
 ·simp only [if_true]
  rw [ZqO hp Z8 a (by omega) (by omega), List.length_cons, Nat.add_comm]
  rfl
def Z93 : RunP
 | [.v (.int .i64 p), .v (.int .i64 Z8), .v (.agg ⟨[.int .i64 a0, .int .i64 a1]⟩)] => some (true, ZiX (Z6b p Z8 (a0, a1)))
 | _ => none
theorem Zhi : Sound prog 124 Z93 := by
 refine ZN Zrx ZkI (by kernel_rfl) func124 ntmps124 rfl (by kernel_rfl) fun q r E => ?_
 unfold Z93 at E
 split at E
 ·obtain ⟨hp, rfl⟩ := so2 E
  rename_i p Z8 a0 a1
  exact ⟨_, _, rfl, (Zln _ p Z8 (a0, a1)).trans (Zkb p Z8 (a0, a1))⟩
 ·cases E

abbrev Za2 (sn : Nat) (sl : List Int) (ss : P2) (p : Int) (l : P3) : Int × STy := (Zl sn sl ((Zl sn sl ss 40).2.2.2) 3)
abbrev ZdK (sn : Nat) (sl : List Int) (ss : P2) (p : Int) (l : P3) : Int × STy := (Z3w sn sl ((Za2 sn sl ss p l).2.2.2) 3 [(-1), p, 1099511627776])
abbrev Zp1 (sn : Nat) (sl : List Int) (ss : P2) (p : Int) (l : P3) : Int × STy := (Z3w sn sl ((Zl sn sl ss 40).2.2.2) 2 [0, 2])
def Zdu : Sums := ⟨tblS [], tblM [(68, .box Z1d), (92, .box Z3C)], false, false⟩
theorem Zju : ZJ prog Zdu := ⟨ZD ⟨⟩, Z56 ⟨⟨call68, Z15⟩, ⟨call92, Z3X⟩, ⟨⟩⟩⟩
def Z8R (sn : Nat) (sl : List Int) (ss : P2) (p : Int) (l : P3) : Option (P3 × STy) :=
 (if (srcB sn sl ss) = true then (if (((Zl sn sl ss 40).1) == 0) = true then (if (srcB sn sl ((Zl sn sl ss 40).2.2.2)) = true then (if (srcB sn sl ((Za2 sn sl ss p l).2.2.2) && (lenB 3 1 ([(-1), p, 1099511627776]) && Nat.blt 0 3)) = true then (if (decide (0 <= (Za2 sn sl ss p l).1) && decide ((Za2 sn sl ss p l).1 < ((3 : Nat) : Int))) = true then (if (Nat.ble (0 + ((((Za2 sn sl ss p l).1).toNat) * 1) + 1) 3) = true then some ((bif Nat.beq (0 + ((((Za2 sn sl ss p l).1).toNat) * 1)) 0 then ((ZdK sn sl ss p l).1) else l.1, bif Nat.beq (0 + ((((Za2 sn sl ss p l).1).toNat) * 1)) 1 then ((ZdK sn sl ss p l).1) else l.2.1, bif Nat.beq (0 + ((((Za2 sn sl ss p l).1).toNat) * 1)) 2 then ((ZdK sn sl ss p l).1) else l.2.2), sn, sl, (ZdK sn sl ss p l).2.2.2) else none) else none) else none) else none) else (if (((Zl sn sl ss 40).1) == 1) = true then (if (srcB sn sl ((Zl sn sl ss 40).2.2.2) && (lenB 2 1 ([0, 2]) && Nat.blt 0 2)) = true then some ((0, (Zp1 sn sl ss p l).1, 1), sn, sl, (Zp1 sn sl ss p l).2.2.2) else none) else (if (((Zl sn sl ss 40).1) == 2) = true then some ((2, 1, 0), sn, sl, (Zl sn sl ss 40).2.2.2) else some (l, sn, sl, (Zl sn sl ss 40).2.2.2)))) else none)
theorem ZjI (sn : Nat) (sl : List Int) (ss : P2) (p : Int) (l : P3) : Zat prog Zdu 125 28 (fun _ => 1000000) Zaq 117 [.s sn (.byts sl), .v (.int .i64 ss.1), .v (.int .u64 ss.2)] [.v (.int .i64 p), .v (.agg ⟨[.int .i64 l.1, .int .i64 l.2.1, .int .i64 l.2.2]⟩)] = Z8R sn sl ss p l := by
 kernel_rfl
def Z7O (sn : Nat) (sl : List Int) (ss : P2) (p : Int) (l : P3) : P3 × STy :=
 (if (((Zl sn sl ss 40).1) == 0) = true then ((bif Nat.beq (0 + ((((Za2 sn sl ss p l).1).toNat) * 1)) 0 then ((ZdK sn sl ss p l).1) else l.1, bif Nat.beq (0 + ((((Za2 sn sl ss p l).1).toNat) * 1)) 1 then ((ZdK sn sl ss p l).1) else l.2.1, bif Nat.beq (0 + ((((Za2 sn sl ss p l).1).toNat) * 1)) 2 then ((ZdK sn sl ss p l).1) else l.2.2), sn, sl, (ZdK sn sl ss p l).2.2.2) else (if (((Zl sn sl ss 40).1) == 1) = true then ((0, (Zp1 sn sl ss p l).1, 1), sn, sl, (Zp1 sn sl ss p l).2.2.2) else (if (((Zl sn sl ss 40).1) == 2) = true then ((2, 1, 0), sn, sl, (Zl sn sl ss 40).2.2.2) else (l, sn, sl, (Zl sn sl ss 40).2.2.2))))
def Z42 : (Nat) -> (List Int) -> P2 -> (Int) -> P3 -> (P3 × STy) := shut Z7O
theorem ZcN (sn : Nat) (sl : List Int) (ss : P2) (p : Int) (l : P3) : Z42 sn sl ss p l = Z7O sn sl ss p l := by
 unfold Z42
 rw [Z1e]
theorem Zix (sn : Nat) (sl : List Int) (ss : P2) (p : Int) (l : P3) (hp : (srcB sn sl ss && prB p) = true) : Z8R sn sl ss p l = some (Z42 sn sl ss p l) := by
 have hs := Zff hp
 have hc := (Z2a hs).1
 have hq := Zfg hp
 have h0 := Z6y hq
 rw [ZcN]
 unfold Z8R Z7O
 (try simp only [Z03])
 repeat' (first | with_reducible rfl | refine Z04 (by first | (with_reducible assumption) | ((repeat (with_reducible first | assumption | apply Zf | apply Zm)); done) | (with_reducible exact Z0f _ _ _ (by ((repeat (with_reducible first | assumption | apply Zf | apply Zm)); done))) | fail | exact Z5x ‹_› | exact Z1G (by ((repeat (with_reducible first | assumption | apply Zf | apply Zm)); done)) (by (first | (with_reducible assumption) | with_reducible exact Z0f _ _ _ (by ((repeat (with_reducible first | assumption | apply Zf | apply Zm)); done)) | fail | rfl)) | exact Z4u ‹_› (by (first | exact Z0q _ | exact Z0y _)) | exact Z25 (Z0G _ _ _ _ (by ((repeat (with_reducible first | assumption | apply Zf | apply Zm)); done)) (by decide)) | exact Z1n (Z3K _ _ _ _ (by ((repeat (with_reducible first | assumption | apply Zf | apply Zm)); done)) (by decide) (by decide)) | exact Z1n (Z3s _ _ _ _ (by ((repeat (with_reducible first | assumption | apply Zf | apply Zm)); done)) (by decide) (by decide)) | exact Z25 (Z0G _ _ _ _ (by ((repeat (with_reducible first | assumption | apply Zf | apply Zm)); done)) (Z54 ‹_›)) | exact Z3t (by ((repeat (with_reducible first | assumption | apply Zf | apply Zm)); done)) ‹_› (by (first | exact Z0q _ | exact Z0y _))) ?_ | refine ZS (fun _ => ?_) (fun _ => ?_) | rfl)
theorem Z1E (sn : Nat) (sl : List Int) (ss : P2) (p : Int) (l : P3) (hs : srcB sn sl ss = true) : srcB sn sl (Z42 sn sl ss p l).2.2.2 = true := by
 have hc := (Z2a hs).1
 rw [ZcN]
 unfold Z7O
 repeat' (first | (with_reducible first | assumption | apply Zf | apply Zm) | refine Z6R (P := fun r : P3 × STy => srcB sn sl r.2.2.2 = true) ?_ ?_ | dsimp only)
def Z8i : PRun
 | 117, [.s sn (.byts sl), .v (.int .i64 s_1), .v (.int .u64 s_2)], [.v (.int .i64 p), .v (.agg ⟨[.int .i64 l0, .int .i64 l1, .int .i64 l2]⟩)] => some (srcB sn sl (s_1, s_2) && prB p, ZdA (Z42 sn sl (s_1, s_2) p (l0, l1, l2)))
 | _, _, _ => none
theorem Zgc : Z7E prog 125 Z8i := by
 refine Z5k Zl5 Zju (by kernel_rfl) func125 ntmps125 rfl (by kernel_rfl) ?_
 intro e bcs pvs rs bcs' hrun
 unfold Z8i at hrun
 split at hrun
 ·simp only [Option.some.injEq, Prod.mk.injEq] at hrun
  obtain ⟨hp, hrun⟩ := hrun
  rename_i sn sl s_1 s_2 p l0 l1 l2
  exact ⟨_, Z42 sn sl (s_1, s_2) p (l0, l1, l2), by first | exact hrun.symm | exact (Prod.ext hrun.1 hrun.2).symm, (ZjI sn sl (s_1, s_2) p (l0, l1, l2)).trans (Zix sn sl (s_1, s_2) p (l0, l1, l2) hp)⟩
 ·cases hrun

abbrev Z52 (Z2 : Nat) (Z3 : List Int) : Int × STy := (Z1u Z2 Z3 (Z3Q Z2 Z3))
abbrev Znw (Z2 : Nat) (Z3 : List Int) : P2 × STy := (ZW Z2 Z3 ((Z52 Z2 Z3).2.2.2) ((Z52 Z2 Z3).1))
abbrev ZsZ (Z2 : Nat) (Z3 : List Int) : P3 × STy := (Z3D Z2 Z3 ((Znw Z2 Z3).2.2.2) ((Z52 Z2 Z3).1))
abbrev Zaw (Z2 : Nat) (Z3 : List Int) : Int × STy := (Z3W Z2 Z3 ((ZsZ Z2 Z3).2.2.2))
abbrev Zfk (Z2 : Nat) (Z3 : List Int) : (Nat × List Int) × Int := (Z6b ((Z52 Z2 Z3).1) ((Zaw Z2 Z3).1) ((Znw Z2 Z3).1))
abbrev Znx (Z2 : Nat) (Z3 : List Int) : Int × STy := (Zl Z2 Z3 ((Zaw Z2 Z3).2.2.2) 4)
abbrev Zjc (Z2 : Nat) (Z3 : List Int) : Int × STy := (Zl Z2 Z3 ((Znx Z2 Z3).2.2.2) ((((Zfk Z2 Z3).1).1 : Nat) : Int))
abbrev Zt0 (Z2 : Nat) (Z3 : List Int) : Int × STy := (Z0U Z2 Z3 ((Zjc Z2 Z3).2.2.2) ((Z52 Z2 Z3).1))
abbrev Zt1 (Z2 : Nat) (Z3 : List Int) : P2 × STy := (Z13 Z2 Z3 ((Zt0 Z2 Z3).2.2.2) ((Z52 Z2 Z3).1) ((Znw Z2 Z3).1))
abbrev ZwR (Z2 : Nat) (Z3 : List Int) : P3 × STy := (Z42 Z2 Z3 ((Zt1 Z2 Z3).2.2.2) ((Z52 Z2 Z3).1) ((((Zfk Z2 Z3).1).2).getD ((((Zjc Z2 Z3).1).toNat) * 3 + 0) 0, (((Zfk Z2 Z3).1).2).getD ((((Zjc Z2 Z3).1).toNat) * 3 + 1) 0, (((Zfk Z2 Z3).1).2).getD ((((Zjc Z2 Z3).1).toNat) * 3 + 2) 0))
abbrev Zp9 (Z2 : Nat) (Z3 : List Int) : Int × STy := (Z0U Z2 Z3 ((Znx Z2 Z3).2.2.2) ((Z52 Z2 Z3).1))
abbrev Zpa (Z2 : Nat) (Z3 : List Int) : P2 × STy := (Z13 Z2 Z3 ((Zp9 Z2 Z3).2.2.2) ((Z52 Z2 Z3).1) ((Znw Z2 Z3).1))
abbrev Zvc (Z2 : Nat) (Z3 : List Int) : P3 × STy := (Z42 Z2 Z3 ((Zpa Z2 Z3).2.2.2) ((Z52 Z2 Z3).1) ((ZsZ Z2 Z3).1))
abbrev ZfU (Z2 : Nat) (Z3 : List Int) : Int × STy := (Z0U Z2 Z3 ((Zaw Z2 Z3).2.2.2) ((Z52 Z2 Z3).1))
abbrev ZfV (Z2 : Nat) (Z3 : List Int) : P2 × STy := (Z13 Z2 Z3 ((ZfU Z2 Z3).2.2.2) ((Z52 Z2 Z3).1) ((Znw Z2 Z3).1))
abbrev Zpb (Z2 : Nat) (Z3 : List Int) : P3 × STy := (Z42 Z2 Z3 ((ZfV Z2 Z3).2.2.2) ((Z52 Z2 Z3).1) ((ZsZ Z2 Z3).1))
def ZiP : Sums := ⟨tblS [(124, Z93)], tblM [(67, .src Z5L), (76, .box Z3u), (78, .box Z4v), (69, .box Z5V), (123, .box Z6C), (68, .box Z1d), (80, .box Z3P), (79, .box Z4S), (125, .box Z8i)], false, false⟩
theorem Zo8 : ZJ prog ZiP := ⟨ZD ⟨⟨call124, Zhi⟩, ⟨⟩⟩, Z56 ⟨⟨call67, Z71⟩, ⟨call76, Z4V⟩, ⟨call78, Z6c⟩, ⟨call69, Z9g⟩, ⟨call123, Zde⟩, ⟨call68, Z15⟩, ⟨call80, Z55⟩, ⟨call79, Z6D⟩, ⟨call125, Zgc⟩, ⟨⟩⟩⟩
def ZbT (Z2 : Nat) (Z3 : List Int) : Option (Int × Int × P2 × Int × Int × Int) :=
 (if (Z2p Z2 Z3) = true then (if (srcB Z2 Z3 (Z3Q Z2 Z3)) = true then (if (srcB Z2 Z3 ((Z52 Z2 Z3).2.2.2) && prB ((Z52 Z2 Z3).1)) = true then (if (srcB Z2 Z3 ((Znw Z2 Z3).2.2.2) && prB ((Z52 Z2 Z3).1)) = true then (if (srcB Z2 Z3 ((ZsZ Z2 Z3).2.2.2)) = true then (if (((Zfk Z2 Z3).2) == 0) = true then (if (decide (((((Zfk Z2 Z3).1).1 : Nat) : Int) > 0)) = true then (if (srcB Z2 Z3 ((Zaw Z2 Z3).2.2.2)) = true then (if (((Znx Z2 Z3).1) == 0) = true then (if (srcB Z2 Z3 ((Znx Z2 Z3).2.2.2)) = true then (if (decide (0 <= (Zjc Z2 Z3).1) && decide ((Zjc Z2 Z3).1 < ((((Zfk Z2 Z3).1).1 : Nat) : Int))) = true then (if (Nat.ble ((((Zjc Z2 Z3).1).toNat) * 3 + 3) ((((Zfk Z2 Z3).1).2).length)) = true then (if (srcB Z2 Z3 ((Zjc Z2 Z3).2.2.2) && prB ((Z52 Z2 Z3).1)) = true then (if (srcB Z2 Z3 ((Zt0 Z2 Z3).2.2.2) && prB ((Z52 Z2 Z3).1)) = true then (if (srcB Z2 Z3 ((Zt1 Z2 Z3).2.2.2) && prB ((Z52 Z2 Z3).1)) = true then some ((Zt0 Z2 Z3).1, (Zaw Z2 Z3).1, ((Zt1 Z2 Z3).1), ((ZwR Z2 Z3).1)) else none) else none) else none) else none) else none) else none) else (if (srcB Z2 Z3 ((Znx Z2 Z3).2.2.2) && prB ((Z52 Z2 Z3).1)) = true then (if (srcB Z2 Z3 ((Zp9 Z2 Z3).2.2.2) && prB ((Z52 Z2 Z3).1)) = true then (if (srcB Z2 Z3 ((Zpa Z2 Z3).2.2.2) && prB ((Z52 Z2 Z3).1)) = true then some ((Zp9 Z2 Z3).1, (Zaw Z2 Z3).1, ((Zpa Z2 Z3).1), ((Zvc Z2 Z3).1)) else none) else none) else none)) else none) else (if (srcB Z2 Z3 ((Zaw Z2 Z3).2.2.2) && prB ((Z52 Z2 Z3).1)) = true then (if (srcB Z2 Z3 ((ZfU Z2 Z3).2.2.2) && prB ((Z52 Z2 Z3).1)) = true then (if (srcB Z2 Z3 ((ZfV Z2 Z3).2.2.2) && prB ((Z52 Z2 Z3).1)) = true then some ((ZfU Z2 Z3).1, (Zaw Z2 Z3).1, ((ZfV Z2 Z3).1), ((Zpb Z2 Z3).1)) else none) else none) else none)) else (if (srcB Z2 Z3 ((Zaw Z2 Z3).2.2.2) && prB ((Z52 Z2 Z3).1)) = true then (if (srcB Z2 Z3 ((ZfU Z2 Z3).2.2.2) && prB ((Z52 Z2 Z3).1)) = true then (if (srcB Z2 Z3 ((ZfV Z2 Z3).2.2.2) && prB ((Z52 Z2 Z3).1)) = true then some ((ZfU Z2 Z3).1, (Zaw Z2 Z3).1, ((ZfV Z2 Z3).1), ((Zpb Z2 Z3).1)) else none) else none) else none)) else none) else none) else none) else none) else none)
theorem ZoI (Z2 : Nat) (Z3 : List Int) : eT ZiP 96 63 Z8p [.s Z2 (.byts Z3)] = ZbT Z2 Z3 := by
 kernel_rfl
def ZdX (Z2 : Nat) (Z3 : List Int) : Int × Int × P2 × Int × Int × Int :=
 (if (((Zfk Z2 Z3).2) == 0) = true then (if (decide (((((Zfk Z2 Z3).1).1 : Nat) : Int) > 0)) = true then (if (((Znx Z2 Z3).1) == 0) = true then ((Zt0 Z2 Z3).1, (Zaw Z2 Z3).1, ((Zt1 Z2 Z3).1), ((ZwR Z2 Z3).1)) else ((Zp9 Z2 Z3).1, (Zaw Z2 Z3).1, ((Zpa Z2 Z3).1), ((Zvc Z2 Z3).1))) else ((ZfU Z2 Z3).1, (Zaw Z2 Z3).1, ((ZfV Z2 Z3).1), ((Zpb Z2 Z3).1))) else ((ZfU Z2 Z3).1, (Zaw Z2 Z3).1, ((ZfV Z2 Z3).1), ((Zpb Z2 Z3).1)))
def Z4M : (Nat) -> (List Int) -> (Int × Int × P2 × Int × Int × Int) := shut ZdX
theorem Zpp (Z2 : Nat) (Z3 : List Int) : Z4M Z2 Z3 = ZdX Z2 Z3 := by
 unfold Z4M
 rw [Z1e]
theorem Zn3 (Z2 : Nat) (Z3 : List Int) (hp : (Z2p Z2 Z3) = true) : ZbT Z2 Z3 = some (Z4M Z2 Z3) := by
 have hc := hp
 rw [Zpp]
 unfold ZbT ZdX
 (try simp only [Z03])
 repeat' (first | with_reducible rfl | refine Z04 (by first | (with_reducible assumption) | ((repeat (with_reducible first | assumption | exact Z01 hc | apply ZC | apply ZT | apply ZZ | apply Z19 | apply Zf | apply ZF | apply ZY | apply Z1E)); done) | (with_reducible exact Z0f _ _ _ (by ((repeat (with_reducible first | assumption | exact Z01 hc | apply ZC | apply ZT | apply ZZ | apply Z19 | apply Zf | apply ZF | apply ZY | apply Z1E)); done))) | fail | exact Z5x ‹_› | exact Z1G (by ((repeat (with_reducible first | assumption | exact Z01 hc | apply ZC | apply ZT | apply ZZ | apply Z19 | apply Zf | apply ZF | apply ZY | apply Z1E)); done)) (by (first | (with_reducible assumption) | with_reducible exact Z0f _ _ _ (by ((repeat (with_reducible first | assumption | exact Z01 hc | apply ZC | apply ZT | apply ZZ | apply Z19 | apply Zf | apply ZF | apply ZY | apply Z1E)); done)) | fail | rfl)) | exact Z4u ‹_› (by (first | exact ZnD _ _ _ | exact Z0q _ | exact Z0y _)) | exact Z25 (Z0G _ _ _ _ (by ((repeat (with_reducible first | assumption | exact Z01 hc | apply ZC | apply ZT | apply ZZ | apply Z19 | apply Zf | apply ZF | apply ZY | apply Z1E)); done)) (by decide)) | exact Z1n (Z3K _ _ _ _ (by ((repeat (with_reducible first | assumption | exact Z01 hc | apply ZC | apply ZT | apply ZZ | apply Z19 | apply Zf | apply ZF | apply ZY | apply Z1E)); done)) (by decide) (by decide)) | exact Z1n (Z3s _ _ _ _ (by ((repeat (with_reducible first | assumption | exact Z01 hc | apply ZC | apply ZT | apply ZZ | apply Z19 | apply Zf | apply ZF | apply ZY | apply Z1E)); done)) (by decide) (by decide)) | exact Z25 (Z0G _ _ _ _ (by ((repeat (with_reducible first | assumption | exact Z01 hc | apply ZC | apply ZT | apply ZZ | apply Z19 | apply Zf | apply ZF | apply ZY | apply Z1E)); done)) (Z54 ‹_›)) | exact Z3t (by ((repeat (with_reducible first | assumption | exact Z01 hc | apply ZC | apply ZT | apply ZZ | apply Z19 | apply Zf | apply ZF | apply ZY | apply Z1E)); done)) ‹_› (by (first | exact ZnD _ _ _ | exact Z0q _ | exact Z0y _))) ?_ | refine ZS (fun _ => ?_) (fun _ => ?_) | rfl)
def Zb6 : RunP
 | [.s Z2 (.byts Z3)] => some (Z2p Z2 Z3, ZaV (Z4M Z2 Z3))
 | _ => none
theorem ZjZ : Sound prog 96 Zb6 := by
 refine ZN ZgF Zo8 (by kernel_rfl) func96 ntmps96 rfl (by kernel_rfl) fun q r E => ?_
 unfold Zb6 at E
 split at E
 ·obtain ⟨hp, rfl⟩ := so2 E
  rename_i Z2 Z3
  exact ⟨_, _, rfl, (ZoI Z2 Z3).trans (Zn3 Z2 Z3 hp)⟩
 ·cases E

def Z9U : Sums := ⟨tblS [(96, Zb6)], tblM [], false, false⟩
theorem ZeB : ZJ prog Z9U := ⟨ZD ⟨⟨call96, ZjZ⟩, ⟨⟩⟩, tM⟩
def Z6v (Z2 : Nat) (Z3 : List Int) : Option (Int × Int × P2 × Int × Int × Int) :=
 (if (Z2p Z2 Z3) = true then some ((Z4M Z2 Z3).1, (Z4M Z2 Z3).2.1, ((Z4M Z2 Z3).2.2.1), ((Z4M Z2 Z3).2.2.2)) else none)
theorem ZeK (Z2 : Nat) (Z3 : List Int) : eT Z9U 32 12 Z8p [.s Z2 (.byts Z3)] = Z6v Z2 Z3 := by
 kernel_rfl
def Z7g (Z2 : Nat) (Z3 : List Int) : Int × Int × P2 × Int × Int × Int :=
 ((Z4M Z2 Z3).1, (Z4M Z2 Z3).2.1, ((Z4M Z2 Z3).2.2.1), ((Z4M Z2 Z3).2.2.2))
def Z5i : (Nat) -> (List Int) -> (Int × Int × P2 × Int × Int × Int) := shut Z7g
theorem ZeY (Z2 : Nat) (Z3 : List Int) : Z5i Z2 Z3 = Z7g Z2 Z3 := by
 unfold Z5i
 rw [Z1e]
theorem Zef (Z2 : Nat) (Z3 : List Int) (hp : (Z2p Z2 Z3) = true) : Z6v Z2 Z3 = some (Z5i Z2 Z3) := by
 have hc := hp
 rw [ZeY]
 unfold Z6v Z7g
 (try simp only [Z03])
 repeat' (first | with_reducible rfl | refine Z04 (by first | (with_reducible assumption) | ((repeat (with_reducible first | assumption)); done) | (with_reducible exact Z0f _ _ _ (by ((repeat (with_reducible first | assumption)); done))) | fail | exact Z5x ‹_› | exact Z1G (by ((repeat (with_reducible first | assumption)); done)) (by (first | (with_reducible assumption) | with_reducible exact Z0f _ _ _ (by ((repeat (with_reducible first | assumption)); done)) | fail | rfl)) | exact Z4u ‹_› (by (first | exact Z0q _ | exact Z0y _)) | exact Z25 (Z0G _ _ _ _ (by ((repeat (with_reducible first | assumption)); done)) (by decide)) | exact Z1n (Z3K _ _ _ _ (by ((repeat (with_reducible first | assumption)); done)) (by decide) (by decide)) | exact Z1n (Z3s _ _ _ _ (by ((repeat (with_reducible first | assumption)); done)) (by decide) (by decide)) | exact Z25 (Z0G _ _ _ _ (by ((repeat (with_reducible first | assumption)); done)) (Z54 ‹_›)) | exact Z3t (by ((repeat (with_reducible first | assumption)); done)) ‹_› (by (first | exact Z0q _ | exact Z0y _))) ?_ | refine ZS (fun _ => ?_) (fun _ => ?_) | rfl)
def Z6a : RunP
 | [.s Z2 (.byts Z3)] => some (Z2p Z2 Z3, ZaV (Z5i Z2 Z3))
 | _ => none
theorem Zcx : Sound prog 32 Z6a := by
 refine ZN ZgF ZeB (by kernel_rfl) func32 ntmps32 rfl (by kernel_rfl) fun q r E => ?_
 unfold Z6a at E
 split at E
 ·obtain ⟨hp, rfl⟩ := so2 E
  rename_i Z2 Z3
  exact ⟨_, _, rfl, (ZeK Z2 Z3).trans (Zef Z2 Z3 hp)⟩
 ·cases E

abbrev Z65 (sn : Nat) (sl : List Int) (ss : P2) (p : Int) (k : Int × Int × Int × Int × Int × Int) : Int × STy := (Zl sn sl ((Zl sn sl ss 30).2.2.2) 6)
abbrev Z7H (sn : Nat) (sl : List Int) (ss : P2) (p : Int) (k : Int × Int × Int × Int × Int × Int) : Int × STy := (Z3w sn sl ((Z65 sn sl ss p k).2.2.2) 4 [(-1), p, 0, 2])
def ZkT : Sums := ⟨tblS [], tblM [(68, .box Z1d), (92, .box Z3C)], false, false⟩
theorem ZpM : ZJ prog ZkT := ⟨ZD ⟨⟩, Z56 ⟨⟨call68, Z15⟩, ⟨call92, Z3X⟩, ⟨⟩⟩⟩
def Zdm (sn : Nat) (sl : List Int) (ss : P2) (p : Int) (k : Int × Int × Int × Int × Int × Int) : Option ((Int × Int × Int × Int × Int × Int) × STy) :=
 (if (srcB sn sl ss) = true then (if (((Zl sn sl ss 30).1) == 0) = true then (if (srcB sn sl ((Zl sn sl ss 30).2.2.2)) = true then (if (srcB sn sl ((Z65 sn sl ss p k).2.2.2) && (lenB 4 1 ([(-1), p, 0, 2]) && Nat.blt 0 4)) = true then (if (decide (0 <= (Z65 sn sl ss p k).1) && decide ((Z65 sn sl ss p k).1 < ((6 : Nat) : Int))) = true then (if (Nat.ble (0 + ((((Z65 sn sl ss p k).1).toNat) * 1) + 1) 6) = true then some ((bif Nat.beq (0 + ((((Z65 sn sl ss p k).1).toNat) * 1)) 0 then ((Z7H sn sl ss p k).1) else k.1, bif Nat.beq (0 + ((((Z65 sn sl ss p k).1).toNat) * 1)) 1 then ((Z7H sn sl ss p k).1) else k.2.1, bif Nat.beq (0 + ((((Z65 sn sl ss p k).1).toNat) * 1)) 2 then ((Z7H sn sl ss p k).1) else k.2.2.1, bif Nat.beq (0 + ((((Z65 sn sl ss p k).1).toNat) * 1)) 3 then ((Z7H sn sl ss p k).1) else k.2.2.2.1, bif Nat.beq (0 + ((((Z65 sn sl ss p k).1).toNat) * 1)) 4 then ((Z7H sn sl ss p k).1) else k.2.2.2.2.1, bif Nat.beq (0 + ((((Z65 sn sl ss p k).1).toNat) * 1)) 5 then ((Z7H sn sl ss p k).1) else k.2.2.2.2.2), sn, sl, (Z7H sn sl ss p k).2.2.2) else none) else none) else none) else none) else some (k, sn, sl, (Zl sn sl ss 30).2.2.2)) else none)
theorem Zqf (sn : Nat) (sl : List Int) (ss : P2) (p : Int) (k : Int × Int × Int × Int × Int × Int) : Zat prog ZkT 111 18 (fun _ => 1000000) Zar 117 [.s sn (.byts sl), .v (.int .i64 ss.1), .v (.int .u64 ss.2)] [.v (.int .i64 p), .v (.agg ⟨[.int .i64 k.1, .int .i64 k.2.1, .int .i64 k.2.2.1, .int .i64 k.2.2.2.1, .int .i64 k.2.2.2.2.1, .int .i64 k.2.2.2.2.2]⟩)] = Zdm sn sl ss p k := by
 kernel_rfl
def Zct (sn : Nat) (sl : List Int) (ss : P2) (p : Int) (k : Int × Int × Int × Int × Int × Int) : (Int × Int × Int × Int × Int × Int) × STy :=
 (if (((Zl sn sl ss 30).1) == 0) = true then ((bif Nat.beq (0 + ((((Z65 sn sl ss p k).1).toNat) * 1)) 0 then ((Z7H sn sl ss p k).1) else k.1, bif Nat.beq (0 + ((((Z65 sn sl ss p k).1).toNat) * 1)) 1 then ((Z7H sn sl ss p k).1) else k.2.1, bif Nat.beq (0 + ((((Z65 sn sl ss p k).1).toNat) * 1)) 2 then ((Z7H sn sl ss p k).1) else k.2.2.1, bif Nat.beq (0 + ((((Z65 sn sl ss p k).1).toNat) * 1)) 3 then ((Z7H sn sl ss p k).1) else k.2.2.2.1, bif Nat.beq (0 + ((((Z65 sn sl ss p k).1).toNat) * 1)) 4 then ((Z7H sn sl ss p k).1) else k.2.2.2.2.1, bif Nat.beq (0 + ((((Z65 sn sl ss p k).1).toNat) * 1)) 5 then ((Z7H sn sl ss p k).1) else k.2.2.2.2.2), sn, sl, (Z7H sn sl ss p k).2.2.2) else (k, sn, sl, (Zl sn sl ss 30).2.2.2))
def Z7R : (Nat) -> (List Int) -> P2 -> (Int) -> (Int × Int × Int × Int × Int × Int) -> ((Int × Int × Int × Int × Int × Int) × STy) := shut Zct
theorem Zji (sn : Nat) (sl : List Int) (ss : P2) (p : Int) (k : Int × Int × Int × Int × Int × Int) : Z7R sn sl ss p k = Zct sn sl ss p k := by
 unfold Z7R
 rw [Z1e]
theorem ZpE (sn : Nat) (sl : List Int) (ss : P2) (p : Int) (k : Int × Int × Int × Int × Int × Int) (hp : (srcB sn sl ss && prB p) = true) : Zdm sn sl ss p k = some (Z7R sn sl ss p k) := by
 have hs := Zff hp
 have hc := (Z2a hs).1
 have hq := Zfg hp
 have h0 := Z6y hq
 rw [Zji]
 unfold Zdm Zct
 (try simp only [Z03])
 repeat' (first | with_reducible rfl | refine Z04 (by first | (with_reducible assumption) | ((repeat (with_reducible first | assumption | apply Zf | apply Zm)); done) | (with_reducible exact Z0f _ _ _ (by ((repeat (with_reducible first | assumption | apply Zf | apply Zm)); done))) | fail | exact Z5x ‹_› | exact Z1G (by ((repeat (with_reducible first | assumption | apply Zf | apply Zm)); done)) (by (first | (with_reducible assumption) | with_reducible exact Z0f _ _ _ (by ((repeat (with_reducible first | assumption | apply Zf | apply Zm)); done)) | fail | rfl)) | exact Z4u ‹_› (by (first | exact Z0q _ | exact Z0y _)) | exact Z25 (Z0G _ _ _ _ (by ((repeat (with_reducible first | assumption | apply Zf | apply Zm)); done)) (by decide)) | exact Z1n (Z3K _ _ _ _ (by ((repeat (with_reducible first | assumption | apply Zf | apply Zm)); done)) (by decide) (by decide)) | exact Z1n (Z3s _ _ _ _ (by ((repeat (with_reducible first | assumption | apply Zf | apply Zm)); done)) (by decide) (by decide)) | exact Z25 (Z0G _ _ _ _ (by ((repeat (with_reducible first | assumption | apply Zf | apply Zm)); done)) (Z54 ‹_›)) | exact Z3t (by ((repeat (with_reducible first | assumption | apply Zf | apply Zm)); done)) ‹_› (by (first | exact Z0q _ | exact Z0y _))) ?_ | refine ZS (fun _ => ?_) (fun _ => ?_) | rfl)
theorem Z3B (sn : Nat) (sl : List Int) (ss : P2) (p : Int) (k : Int × Int × Int × Int × Int × Int) (hs : srcB sn sl ss = true) : srcB sn sl (Z7R sn sl ss p k).2.2.2 = true := by
 have hc := (Z2a hs).1
 rw [Zji]
 unfold Zct
 repeat' (first | (with_reducible first | assumption | apply Zf | apply Zm) | refine Z6R (P := fun r : (Int × Int × Int × Int × Int × Int) × STy => srcB sn sl r.2.2.2 = true) ?_ ?_ | dsimp only)
def Zcq : PRun
 | 117, [.s sn (.byts sl), .v (.int .i64 s_1), .v (.int .u64 s_2)], [.v (.int .i64 p), .v (.agg ⟨[.int .i64 k0, .int .i64 k1, .int .i64 k2, .int .i64 k3, .int .i64 k4, .int .i64 k5]⟩)] => some (srcB sn sl (s_1, s_2) && prB p, ZdB (Z7R sn sl (s_1, s_2) p (k0, k1, k2, k3, k4, k5)))
 | _, _, _ => none
theorem Zm2 : Z7E prog 111 Zcq := by
 refine Z5k Zl6 ZpM (by kernel_rfl) func111 ntmps111 rfl (by kernel_rfl) ?_
 intro e bcs pvs rs bcs' hrun
 unfold Zcq at hrun
 split at hrun
 ·simp only [Option.some.injEq, Prod.mk.injEq] at hrun
  obtain ⟨hp, hrun⟩ := hrun
  rename_i sn sl s_1 s_2 p k0 k1 k2 k3 k4 k5
  exact ⟨_, Z7R sn sl (s_1, s_2) p (k0, k1, k2, k3, k4, k5), by first | exact hrun.symm | exact (Prod.ext hrun.1 hrun.2).symm, (Zqf sn sl (s_1, s_2) p (k0, k1, k2, k3, k4, k5)).trans (ZpE sn sl (s_1, s_2) p (k0, k1, k2, k3, k4, k5) hp)⟩
 ·cases hrun

abbrev Z5n (Z2 : Nat) (Z3 : List Int) : Int × STy := (Z1u Z2 Z3 (Z3Q Z2 Z3))
abbrev Zns (Z2 : Nat) (Z3 : List Int) : (Int × Int × Int × Int × Int × Int) × STy := (Z5q Z2 Z3 ((Z5n Z2 Z3).2.2.2) ((Z5n Z2 Z3).1))
abbrev Znt (Z2 : Nat) (Z3 : List Int) : P2 × STy := (ZW Z2 Z3 ((Zns Z2 Z3).2.2.2) ((Z5n Z2 Z3).1))
abbrev ZlC (Z2 : Nat) (Z3 : List Int) : Nat × List Int := (Z5r ((Z5n Z2 Z3).1) ((Zns Z2 Z3).1))
abbrev Znu (Z2 : Nat) (Z3 : List Int) : Int × STy := (Zl Z2 Z3 ((Znt Z2 Z3).2.2.2) 2)
abbrev ZlD (Z2 : Nat) (Z3 : List Int) : Int × STy := (Zl Z2 Z3 ((Znu Z2 Z3).2.2.2) (((ZlC Z2 Z3).1 : Nat) : Int))
abbrev ZsJ (Z2 : Nat) (Z3 : List Int) : Int × STy := (Z0U Z2 Z3 ((ZlD Z2 Z3).2.2.2) ((Z5n Z2 Z3).1))
abbrev ZsK (Z2 : Nat) (Z3 : List Int) : (Int × Int × Int × Int × Int × Int) × STy := (Z7R Z2 Z3 ((ZsJ Z2 Z3).2.2.2) ((Z5n Z2 Z3).1) ((Zns Z2 Z3).1))
abbrev ZwQ (Z2 : Nat) (Z3 : List Int) : P2 × STy := (Z13 Z2 Z3 ((ZsK Z2 Z3).2.2.2) ((Z5n Z2 Z3).1) (((ZlC Z2 Z3).2).getD ((((ZlD Z2 Z3).1).toNat) * 2 + 0) 0, ((ZlC Z2 Z3).2).getD ((((ZlD Z2 Z3).1).toNat) * 2 + 1) 0))
abbrev ZsL (Z2 : Nat) (Z3 : List Int) : Int × STy := (Z0U Z2 Z3 ((Znu Z2 Z3).2.2.2) ((Z5n Z2 Z3).1))
abbrev Zp4 (Z2 : Nat) (Z3 : List Int) : (Int × Int × Int × Int × Int × Int) × STy := (Z7R Z2 Z3 ((ZsL Z2 Z3).2.2.2) ((Z5n Z2 Z3).1) ((Zns Z2 Z3).1))
abbrev Zva (Z2 : Nat) (Z3 : List Int) : P2 × STy := (Z13 Z2 Z3 ((Zp4 Z2 Z3).2.2.2) ((Z5n Z2 Z3).1) ((Znt Z2 Z3).1))
abbrev Zp5 (Z2 : Nat) (Z3 : List Int) : Int × STy := (Z0U Z2 Z3 ((Znt Z2 Z3).2.2.2) ((Z5n Z2 Z3).1))
abbrev Zp6 (Z2 : Nat) (Z3 : List Int) : (Int × Int × Int × Int × Int × Int) × STy := (Z7R Z2 Z3 ((Zp5 Z2 Z3).2.2.2) ((Z5n Z2 Z3).1) ((Zns Z2 Z3).1))
abbrev Zvb (Z2 : Nat) (Z3 : List Int) : P2 × STy := (Z13 Z2 Z3 ((Zp6 Z2 Z3).2.2.2) ((Z5n Z2 Z3).1) ((Znt Z2 Z3).1))
def ZiS : Sums := ⟨tblS [(64, Z6W)], tblM [(67, .src Z5L), (76, .box Z3u), (77, .box Z6V), (78, .box Z4v), (68, .box Z1d), (80, .box Z3P), (111, .box Zcq), (79, .box Z4S)], false, false⟩
theorem Zoc : ZJ prog ZiS := ⟨ZD ⟨⟨call64, ZaI⟩, ⟨⟩⟩, Z56 ⟨⟨call67, Z71⟩, ⟨call76, Z4V⟩, ⟨call77, ZaH⟩, ⟨call78, Z6c⟩, ⟨call68, Z15⟩, ⟨call80, Z55⟩, ⟨call111, Zm2⟩, ⟨call79, Z6D⟩, ⟨⟩⟩⟩
def ZbX (Z2 : Nat) (Z3 : List Int) : Option (Int × (Int × Int × Int × Int × Int × Int) × Int × Int) :=
 (if (Z2p Z2 Z3) = true then (if (srcB Z2 Z3 (Z3Q Z2 Z3)) = true then (if (srcB Z2 Z3 ((Z5n Z2 Z3).2.2.2) && prB ((Z5n Z2 Z3).1)) = true then (if (srcB Z2 Z3 ((Zns Z2 Z3).2.2.2) && prB ((Z5n Z2 Z3).1)) = true then (if (prB ((Z5n Z2 Z3).1)) = true then (if (decide ((((ZlC Z2 Z3).1 : Nat) : Int) > 0)) = true then (if (srcB Z2 Z3 ((Znt Z2 Z3).2.2.2)) = true then (if (((Znu Z2 Z3).1) == 0) = true then (if (srcB Z2 Z3 ((Znu Z2 Z3).2.2.2)) = true then (if (decide (0 <= (ZlD Z2 Z3).1) && decide ((ZlD Z2 Z3).1 < (((ZlC Z2 Z3).1 : Nat) : Int))) = true then (if (Nat.ble ((((ZlD Z2 Z3).1).toNat) * 2 + 2) (((ZlC Z2 Z3).2).length)) = true then (if (srcB Z2 Z3 ((ZlD Z2 Z3).2.2.2) && prB ((Z5n Z2 Z3).1)) = true then (if (srcB Z2 Z3 ((ZsJ Z2 Z3).2.2.2) && prB ((Z5n Z2 Z3).1)) = true then (if (srcB Z2 Z3 ((ZsK Z2 Z3).2.2.2) && prB ((Z5n Z2 Z3).1)) = true then some ((ZsJ Z2 Z3).1, ((ZsK Z2 Z3).1), ((ZwQ Z2 Z3).1)) else none) else none) else none) else none) else none) else none) else (if (srcB Z2 Z3 ((Znu Z2 Z3).2.2.2) && prB ((Z5n Z2 Z3).1)) = true then (if (srcB Z2 Z3 ((ZsL Z2 Z3).2.2.2) && prB ((Z5n Z2 Z3).1)) = true then (if (srcB Z2 Z3 ((Zp4 Z2 Z3).2.2.2) && prB ((Z5n Z2 Z3).1)) = true then some ((ZsL Z2 Z3).1, ((Zp4 Z2 Z3).1), ((Zva Z2 Z3).1)) else none) else none) else none)) else none) else (if (srcB Z2 Z3 ((Znt Z2 Z3).2.2.2) && prB ((Z5n Z2 Z3).1)) = true then (if (srcB Z2 Z3 ((Zp5 Z2 Z3).2.2.2) && prB ((Z5n Z2 Z3).1)) = true then (if (srcB Z2 Z3 ((Zp6 Z2 Z3).2.2.2) && prB ((Z5n Z2 Z3).1)) = true then some ((Zp5 Z2 Z3).1, ((Zp6 Z2 Z3).1), ((Zvb Z2 Z3).1)) else none) else none) else none)) else none) else none) else none) else none) else none)
theorem ZoM (Z2 : Nat) (Z3 : List Int) : eT ZiS 40 49 Zdx [.s Z2 (.byts Z3)] = ZbX Z2 Z3 := by
 kernel_rfl
def Ze0 (Z2 : Nat) (Z3 : List Int) : Int × (Int × Int × Int × Int × Int × Int) × Int × Int :=
 (if (decide ((((ZlC Z2 Z3).1 : Nat) : Int) > 0)) = true then (if (((Znu Z2 Z3).1) == 0) = true then ((ZsJ Z2 Z3).1, ((ZsK Z2 Z3).1), ((ZwQ Z2 Z3).1)) else ((ZsL Z2 Z3).1, ((Zp4 Z2 Z3).1), ((Zva Z2 Z3).1))) else ((Zp5 Z2 Z3).1, ((Zp6 Z2 Z3).1), ((Zvb Z2 Z3).1)))
def Z7s : (Nat) -> (List Int) -> (Int × (Int × Int × Int × Int × Int × Int) × Int × Int) := shut Ze0
theorem Zpr (Z2 : Nat) (Z3 : List Int) : Z7s Z2 Z3 = Ze0 Z2 Z3 := by
 unfold Z7s
 rw [Z1e]
theorem Zn7 (Z2 : Nat) (Z3 : List Int) (hp : (Z2p Z2 Z3) = true) : ZbX Z2 Z3 = some (Z7s Z2 Z3) := by
 have hc := hp
 rw [Zpr]
 unfold ZbX Ze0
 (try simp only [Z03])
 repeat' (first | with_reducible rfl | refine Z04 (by first | (with_reducible assumption) | ((repeat (with_reducible first | assumption | exact Z01 hc | apply ZC | apply Z1x | apply ZT | apply Zf | apply ZF | apply Z3B | apply ZY)); done) | (with_reducible exact Z0f _ _ _ (by ((repeat (with_reducible first | assumption | exact Z01 hc | apply ZC | apply Z1x | apply ZT | apply Zf | apply ZF | apply Z3B | apply ZY)); done))) | fail | exact Z5x ‹_› | exact Z1G (by ((repeat (with_reducible first | assumption | exact Z01 hc | apply ZC | apply Z1x | apply ZT | apply Zf | apply ZF | apply Z3B | apply ZY)); done)) (by (first | (with_reducible assumption) | with_reducible exact Z0f _ _ _ (by ((repeat (with_reducible first | assumption | exact Z01 hc | apply ZC | apply Z1x | apply ZT | apply Zf | apply ZF | apply Z3B | apply ZY)); done)) | fail | rfl)) | exact Z4u ‹_› (by (first | exact Z0q _ | exact Z0y _)) | exact Z25 (Z0G _ _ _ _ (by ((repeat (with_reducible first | assumption | exact Z01 hc | apply ZC | apply Z1x | apply ZT | apply Zf | apply ZF | apply Z3B | apply ZY)); done)) (by decide)) | exact Z1n (Z3K _ _ _ _ (by ((repeat (with_reducible first | assumption | exact Z01 hc | apply ZC | apply Z1x | apply ZT | apply Zf | apply ZF | apply Z3B | apply ZY)); done)) (by decide) (by decide)) | exact Z1n (Z3s _ _ _ _ (by ((repeat (with_reducible first | assumption | exact Z01 hc | apply ZC | apply Z1x | apply ZT | apply Zf | apply ZF | apply Z3B | apply ZY)); done)) (by decide) (by decide)) | exact Z25 (Z0G _ _ _ _ (by ((repeat (with_reducible first | assumption | exact Z01 hc | apply ZC | apply Z1x | apply ZT | apply Zf | apply ZF | apply Z3B | apply ZY)); done)) (Z54 ‹_›)) | exact Z3t (by ((repeat (with_reducible first | assumption | exact Z01 hc | apply ZC | apply Z1x | apply ZT | apply Zf | apply ZF | apply Z3B | apply ZY)); done)) ‹_› (by (first | exact Z0q _ | exact Z0y _))) ?_ | refine ZS (fun _ => ?_) (fun _ => ?_) | rfl)
def Zb9 : RunP
 | [.s Z2 (.byts Z3)] => some (Z2p Z2 Z3, ZiU (Z7s Z2 Z3))
 | _ => none
theorem Zk2 : Sound prog 40 Zb9 := by
 refine ZN Zru Zoc (by kernel_rfl) func40 ntmps40 rfl (by kernel_rfl) fun q r E => ?_
 unfold Zb9 at E
 split at E
 ·obtain ⟨hp, rfl⟩ := so2 E
  rename_i Z2 Z3
  exact ⟨_, _, rfl, (ZoM Z2 Z3).trans (Zn7 Z2 Z3 hp)⟩
 ·cases E

def ZiQ : Sums := ⟨tblS [(40, Zb9)], tblM [], false, false⟩
theorem Zo9 : ZJ prog ZiQ := ⟨ZD ⟨⟨call40, Zk2⟩, ⟨⟩⟩, tM⟩
def ZbU (Z2 : Nat) (Z3 : List Int) : Option (Int × Int × Int × Int × Int × Int × Int) :=
 (if (Z2p Z2 Z3) = true then some ((Z7s Z2 Z3).1, ((Z7s Z2 Z3).2.1)) else none)
theorem ZoJ (Z2 : Nat) (Z3 : List Int) : eT ZiQ 52 15 ZgG [.s Z2 (.byts Z3)] = ZbU Z2 Z3 := by
 kernel_rfl
def ZdZ (Z2 : Nat) (Z3 : List Int) : Int × Int × Int × Int × Int × Int × Int :=
 ((Z7s Z2 Z3).1, ((Z7s Z2 Z3).2.1))
def Z7r : (Nat) -> (List Int) -> (Int × Int × Int × Int × Int × Int × Int) := shut ZdZ
theorem Zpq (Z2 : Nat) (Z3 : List Int) : Z7r Z2 Z3 = ZdZ Z2 Z3 := by
 unfold Z7r
 rw [Z1e]
theorem Zn4 (Z2 : Nat) (Z3 : List Int) (hp : (Z2p Z2 Z3) = true) : ZbU Z2 Z3 = some (Z7r Z2 Z3) := by
 have hc := hp
 rw [Zpq]
 unfold ZbU ZdZ
 (try simp only [Z03])
 repeat' (first | with_reducible rfl | refine Z04 (by first | (with_reducible assumption) | ((repeat (with_reducible first | assumption)); done) | (with_reducible exact Z0f _ _ _ (by ((repeat (with_reducible first | assumption)); done))) | fail | exact Z5x ‹_› | exact Z1G (by ((repeat (with_reducible first | assumption)); done)) (by (first | (with_reducible assumption) | with_reducible exact Z0f _ _ _ (by ((repeat (with_reducible first | assumption)); done)) | fail | rfl)) | exact Z4u ‹_› (by (first | exact Z0q _ | exact Z0y _)) | exact Z25 (Z0G _ _ _ _ (by ((repeat (with_reducible first | assumption)); done)) (by decide)) | exact Z1n (Z3K _ _ _ _ (by ((repeat (with_reducible first | assumption)); done)) (by decide) (by decide)) | exact Z1n (Z3s _ _ _ _ (by ((repeat (with_reducible first | assumption)); done)) (by decide) (by decide)) | exact Z25 (Z0G _ _ _ _ (by ((repeat (with_reducible first | assumption)); done)) (Z54 ‹_›)) | exact Z3t (by ((repeat (with_reducible first | assumption)); done)) ‹_› (by (first | exact Z0q _ | exact Z0y _))) ?_ | refine ZS (fun _ => ?_) (fun _ => ?_) | rfl)
def Zb7 : RunP
 | [.s Z2 (.byts Z3)] => some (Z2p Z2 Z3, Zlb (Z7r Z2 Z3))
 | _ => none
theorem Zk0 : Sound prog 52 Zb7 := by
 refine ZN Zsy Zo9 (by kernel_rfl) func52 ntmps52 rfl (by kernel_rfl) fun q r E => ?_
 unfold Zb7 at E
 split at E
 ·obtain ⟨hp, rfl⟩ := so2 E
  rename_i Z2 Z3
  exact ⟨_, _, rfl, (ZoJ Z2 Z3).trans (Zn4 Z2 Z3 hp)⟩
 ·cases E

def ZcF : Sums := ⟨tblS [(52, Zb7)], tblM [], false, false⟩
theorem ZhD : ZJ prog ZcF := ⟨ZD ⟨⟨call52, Zk0⟩, ⟨⟩⟩, tM⟩
def Z82 (Z2 : Nat) (Z3 : List Int) : Option (Int × Int × Int × Int × Int × Int × Int) :=
 (if (Z2p Z2 Z3) = true then some ((Z7r Z2 Z3).1, ((Z7r Z2 Z3).2)) else none)
theorem ZhU (Z2 : Nat) (Z3 : List Int) : eT ZcF 35 8 ZgG [.s Z2 (.byts Z3)] = Z82 Z2 Z3 := by
 kernel_rfl
def Z96 (Z2 : Nat) (Z3 : List Int) : Int × Int × Int × Int × Int × Int × Int :=
 ((Z7r Z2 Z3).1, ((Z7r Z2 Z3).2))
def Zh : (Nat) -> (List Int) -> (Int × Int × Int × Int × Int × Int × Int) := shut Z96
theorem Zik (Z2 : Nat) (Z3 : List Int) : Zh Z2 Z3 = Z96 Z2 Z3 := by
 unfold Zh
 rw [Z1e]
theorem Zhp (Z2 : Nat) (Z3 : List Int) (hp : (Z2p Z2 Z3) = true) : Z82 Z2 Z3 = some (Zh Z2 Z3) := by
 have hc := hp
 rw [Zik]
 unfold Z82 Z96
 (try simp only [Z03])
 repeat' (first | with_reducible rfl | refine Z04 (by first | (with_reducible assumption) | ((repeat (with_reducible first | assumption)); done) | (with_reducible exact Z0f _ _ _ (by ((repeat (with_reducible first | assumption)); done))) | fail | exact Z5x ‹_› | exact Z1G (by ((repeat (with_reducible first | assumption)); done)) (by (first | (with_reducible assumption) | with_reducible exact Z0f _ _ _ (by ((repeat (with_reducible first | assumption)); done)) | fail | rfl)) | exact Z4u ‹_› (by (first | exact Z0q _ | exact Z0y _)) | exact Z25 (Z0G _ _ _ _ (by ((repeat (with_reducible first | assumption)); done)) (by decide)) | exact Z1n (Z3K _ _ _ _ (by ((repeat (with_reducible first | assumption)); done)) (by decide) (by decide)) | exact Z1n (Z3s _ _ _ _ (by ((repeat (with_reducible first | assumption)); done)) (by decide) (by decide)) | exact Z25 (Z0G _ _ _ _ (by ((repeat (with_reducible first | assumption)); done)) (Z54 ‹_›)) | exact Z3t (by ((repeat (with_reducible first | assumption)); done)) ‹_› (by (first | exact Z0q _ | exact Z0y _))) ?_ | refine ZS (fun _ => ?_) (fun _ => ?_) | rfl)
def Z7N : RunP
 | [.s Z2 (.byts Z3)] => some (Z2p Z2 Z3, Zlb (Zh Z2 Z3))
 | _ => none
theorem Zf1 : Sound prog 35 Z7N := by
 refine ZN Zsy ZhD (by kernel_rfl) func35 ntmps35 rfl (by kernel_rfl) fun q r E => ?_
 unfold Z7N at E
 split at E
 ·obtain ⟨hp, rfl⟩ := so2 E
  rename_i Z2 Z3
  exact ⟨_, _, rfl, (ZhU Z2 Z3).trans (Zhp Z2 Z3 hp)⟩
 ·cases E

end

end Go.Proofs.Ytfclaacaphpoaaa
