import Derived.Test.YtfclaacaphpoaaaFa
import Derived.Test.YtfclaacaphpoaaaProg
set_option linter.unusedSimpArgs false
set_option linter.unusedVariables false
namespace Go.Proofs.Ytfclaacaphpoaaa
open Go.RowKit Try
noncomputable section
def Zso : Sums := ⟨tblS [], tblM [], false, false⟩
theorem Zuk : ZJ prog Zso := ⟨ZD ⟨⟩, tM⟩
def Zky (Z2 : Nat) (Z3 : List Int) : Option (Bool) :=
 some (decide (((Z2 : Nat) : Int) > 4096))
theorem ZuM (Z2 : Nat) (Z3 : List Int) : eT Zso 5 6 Z0o [.s Z2 (.byts Z3)] = Zky Z2 Z3 := by
 kernel_rfl
def Zbo (Z2 : Nat) (Z3 : List Int) : Bool :=
 decide (((Z2 : Nat) : Int) > 4096)
theorem Zug (Z2 : Nat) (Z3 : List Int) : Zky Z2 Z3 = some (Zbo Z2 Z3) := by
 unfold Zky Zbo
 (try simp only [Z03])
 repeat' (first | with_reducible rfl | refine ZS (fun _ => ?_) (fun _ => ?_) | rfl)
def Zij : RunP
 | [.s Z2 (.byts Z3)] => some (true, Z4Q (Zbo Z2 Z3))
 | _ => none
theorem Zr6 : Sound prog 5 Zij := by
 refine ZN Z7T Zuk (by kernel_rfl) func5 ntmps5 rfl (by kernel_rfl) fun q r E => ?_
 unfold Zij at E
 split at E
 ·obtain ⟨hp, rfl⟩ := so2 E
  rename_i Z2 Z3
  exact ⟨_, _, rfl, (ZuM Z2 Z3).trans (Zug Z2 Z3)⟩
 ·cases E

def ZiM : Sums := ⟨tblS [], tblM [], false, false⟩
theorem Zo5 : ZJ prog ZiM := ⟨ZD ⟨⟩, tM⟩
def ZbQ (sn : Nat) (sl : List Int) (ss : P2) (n_ : Int) : Option (Int × STy) :=
 (if (decide (n_ < 1)) = true then some (0, sn, sl, ss) else (if (decide (ss.1 < ((sn : Nat) : Int))) = true then (if (decide (0 <= ss.1) && decide (ss.1 < ((sn : Nat) : Int))) = true then (if (Nat.ble (ss.1.toNat * 1 + 1) sl.length) = true then (if (!(n_ == 0)) = true then some ((wI ((wI (andI .u64 (shrI (IntKind.u64.wrap ((IntKind.u64.wrap (ss.2 * 6364136223846793005)) + 1442695040888963407)) 33) 16777215)) + (wI (sl.getD (ss.1.toNat * 1) 0)))).tmod n_, sn, sl, wI (ss.1 + 1), IntKind.u64.wrap ((IntKind.u64.wrap (ss.2 * 6364136223846793005)) + 1442695040888963407)) else none) else none) else none) else (if (!(n_ == 0)) = true then some ((wI (andI .u64 (shrI (IntKind.u64.wrap ((IntKind.u64.wrap (ss.2 * 6364136223846793005)) + 1442695040888963407)) 33) 16777215)).tmod n_, sn, sl, ss.1, IntKind.u64.wrap ((IntKind.u64.wrap (ss.2 * 6364136223846793005)) + 1442695040888963407)) else none)))
theorem ZoF (sn : Nat) (sl : List Int) (ss : P2) (n_ : Int) : Zat prog ZiM 68 58 (fun _ => 1000000) Z77 117 [.s sn (.byts sl), .v (.int .i64 ss.1), .v (.int .u64 ss.2)] [.v (.int .i64 n_)] = ZbQ sn sl ss n_ := by
 kernel_rfl
def Z8I (sn : Nat) (sl : List Int) (ss : P2) (n_ : Int) : Int × STy :=
 (if (decide (n_ < 1)) = true then (0, sn, sl, ss) else (if (decide (ss.1 < ((sn : Nat) : Int))) = true then ((wrap64 ((wrap64 (andI .u64 (shrI (IntKind.u64.wrap ((IntKind.u64.wrap (ss.2 * 6364136223846793005)) + 1442695040888963407)) 33) 16777215)) + (wrap64 (sl.getD (ss.1.toNat * 1) 0)))).tmod n_, sn, sl, wrap64 (ss.1 + 1), IntKind.u64.wrap ((IntKind.u64.wrap (ss.2 * 6364136223846793005)) + 1442695040888963407)) else ((wrap64 (andI .u64 (shrI (IntKind.u64.wrap ((IntKind.u64.wrap (ss.2 * 6364136223846793005)) + 1442695040888963407)) 33) 16777215)).tmod n_, sn, sl, ss.1, IntKind.u64.wrap ((IntKind.u64.wrap (ss.2 * 6364136223846793005)) + 1442695040888963407))))
def Zl : (Nat) -> (List Int) -> P2 -> (Int) -> (Int × STy) := shut Z8I
theorem Zcr (sn : Nat) (sl : List Int) (ss : P2) (n_ : Int) : Zl sn sl ss n_ = Z8I sn sl ss n_ := by
 unfold Zl
 rw [Z1e]
theorem Zn0 (sn : Nat) (sl : List Int) (ss : P2) (n_ : Int) (hp : (srcB sn sl ss) = true) : ZbQ sn sl ss n_ = some (Zl sn sl ss n_) := by
 have hs := hp
 have hc := (Z2a hs).1
 obtain ⟨hl, hb, _⟩ := ZgE hc
 have ha := (Z2a hs).2
 rw [Zcr]
 unfold ZbQ Z8I
 (try simp only [Z03])
 refine ZS (fun _ => rfl) (fun hn => ?_)
 have hn : (!(n_ == 0)) = true := by
  have : ¬ n_ < 1 := by simpa using hn
  have : n_ ≠ 0 := by omega
  simpa using this
 refine ZS (fun hk => ?_) (fun _ => Z04 hn rfl)
 have hk := of_decide_eq_true hk
 exact Z04 (Z25 ⟨ha, hk⟩) (Z04 (Z1n (by omega)) (Z04 hn rfl))
theorem Zf (sn : Nat) (sl : List Int) (ss : P2) (n_ : Int) (hs : srcB sn sl ss = true) : srcB sn sl (Zl sn sl ss n_).2.2.2 = true := by
 have hc := (Z2a hs).1
 have ha := (Z2a hs).2
 obtain ⟨hl, hb, _⟩ := ZgE hc
 rw [Zcr]
 unfold Z8I
 refine Z6R (P := fun r : Int × STy => srcB sn sl r.2.2.2 = true) hs ?_
 by_cases hk : ss.1 < (sn : Int)
 ·rw [if_pos (decide_eq_true hk)]
  refine Zpw hc ?_
  show 0 <= wrap64 (ss.1 + 1)
  unfold wrap64
  omega
 ·rw [if_neg (by simp [hk])]
  exact Zpw hc ha
theorem Z0G (sn : Nat) (sl : List Int) (ss : P2) (n : Int) (hs : srcB sn sl ss = true) (hn : 1 <= n) : 0 <= (Zl sn sl ss n).1 /\ (Zl sn sl ss n).1 < n := by
 have hc := (Z2a hs).1
 have ha := (Z2a hs).2
 obtain ⟨hl, _, hb⟩ := ZgE hc
 rw [Zcr]
 unfold Z8I
 rw [if_neg (by simp; omega)]
 generalize (IntKind.u64.wrap ((IntKind.u64.wrap (ss.2 * 6364136223846793005)) + 1442695040888963407)) = w
 have hr := Zun (shrI w 33)
 generalize andI .u64 (shrI w 33) 16777215 = z at hr ⊢
 have key : ∀ x : Int, 0 <= x -> 0 <= x.tmod n /\ x.tmod n < n := fun x hx => by
  rw [Int.tmod_eq_emod_of_nonneg hx]
  exact ⟨Int.emod_nonneg _ (by omega), Int.emod_lt_of_pos _ (by omega)⟩
 refine Z6R (P := fun r : Int × STy => 0 <= r.1 /\ r.1 < n) ?_ ?_
 ·refine key _ ?_
  have h2 : 0 <= sl.getD (ss.1.toNat * 1) 0 /\ sl.getD (ss.1.toNat * 1) 0 < 256 := by
   by_cases hk : ss.1.toNat * 1 < sl.length
   ·exact hb _ (Zqr hk)
   ·rw [List.getD_eq_getElem?_getD, List.getElem?_eq_none (by omega)]
    decide
  generalize sl.getD (ss.1.toNat * 1) 0 = y at h2 ⊢
  unfold wrap64
  omega
 ·refine key _ ?_
  unfold wrap64
  omega
theorem Z3K (sn : Nat) (sl : List Int) (ss : P2) (n : Int) {w c m : Nat} (hs : srcB sn sl ss = true) (hn : 1 <= n) (hm : (n.toNat - 1) * w + c <= m) : (Zl sn sl ss n).1.toNat * w + c <= m := by
 obtain ⟨h0, h1⟩ := Z0G sn sl ss n hs hn
 have : (Zl sn sl ss n).1.toNat <= n.toNat - 1 := by omega
 have := Nat.mul_le_mul_right w this
 omega
theorem Z3s (sn : Nat) (sl : List Int) (ss : P2) (n : Int) {w c m b : Nat} (hs : srcB sn sl ss = true) (hn : 1 <= n) (hm : b + (n.toNat - 1) * w + c <= m) : b + (Zl sn sl ss n).1.toNat * w + c <= m := by
 have := Z3K sn sl ss n (w := w) (c := b + c) (m := m) hs hn (by omega)
 omega
theorem Z54 {n : Nat} (h : decide (((n : Nat) : Int) > 0) = true) : (1 : Int) <= ((n : Nat) : Int) := by
 have := of_decide_eq_true h
 omega
theorem Z5x {n : Nat} (h : decide (((n : Nat) : Int) > 0) = true) : (decide ((0 : Int) <= 0) && decide ((0 : Int) < ((n : Nat) : Int))) = true := by
 have := of_decide_eq_true h
 simp
 omega
theorem Z4u {n w : Nat} {l : List Int} (h : decide (((n : Nat) : Int) > 0) = true) (hl : l.length = w * n) : Nat.ble w l.length = true := by
 have := of_decide_eq_true h
 refine Z1n ?_
 rw [hl]
 exact Nat.le_mul_of_pos_right w (by omega)
theorem Z3t {sn : Nat} {sl : List Int} {ss : P2} {n w : Nat} {l : List Int} (hs : srcB sn sl ss = true) (h : decide (((n : Nat) : Int) > 0) = true) (hl : l.length = w * n) : Nat.ble ((Zl sn sl ss ((n : Nat) : Int)).1.toNat * w + w) l.length = true := by
 have h1 := Z54 h
 refine Z1n (Z3K sn sl ss _ hs h1 ?_)
 rw [hl, Int.toNat_natCast]
 obtain ⟨m, rfl⟩ : ∃ m, n = m + 1 := ⟨n - 1, by omega⟩
 rw [Nat.add_sub_cancel, Nat.mul_add, Nat.mul_one, Nat.mul_comm w m]
 exact Nat.le_refl _
def Z1d : PRun
 | 117, [.s sn (.byts sl), .v (.int .i64 s_1), .v (.int .u64 s_2)], [.v (.int .i64 n_)] => some (srcB sn sl (s_1, s_2), Z8b (Zl sn sl (s_1, s_2) n_))
 | _, _, _ => none
theorem Z15 : Z7E prog 68 Z1d := by
 refine Z5k Zbh Zo5 (by kernel_rfl) func68 ntmps68 rfl (by kernel_rfl) ?_
 intro e bcs pvs rs bcs' hrun
 unfold Z1d at hrun
 split at hrun
 ·simp only [Option.some.injEq, Prod.mk.injEq] at hrun
  obtain ⟨hp, hrun⟩ := hrun
  rename_i sn sl s_1 s_2 n_
  exact ⟨_, Zl sn sl (s_1, s_2) n_, by first | exact hrun.symm | exact (Prod.ext hrun.1 hrun.2).symm, (ZoF sn sl (s_1, s_2) n_).trans (Zn0 sn sl (s_1, s_2) n_ hp)⟩
 ·cases hrun

abbrev ZgU (sn : Nat) (sl : List Int) (ss : P2) (Zi : Nat) (listl : List Int) : Int × STy := (Zl sn sl ss ((Zi : Nat) : Int))
def ZiN : Sums := ⟨tblS [], tblM [(68, .box Z1d)], false, false⟩
theorem Zo6 : ZJ prog ZiN := ⟨ZD ⟨⟩, Z56 ⟨⟨call68, Z15⟩, ⟨⟩⟩⟩
def ZbR (sn : Nat) (sl : List Int) (ss : P2) (Zi : Nat) (listl : List Int) : Option (Int × STy) :=
 (if (srcB sn sl ss) = true then (if (decide (0 <= (ZgU sn sl ss Zi listl).1) && decide ((ZgU sn sl ss Zi listl).1 < ((Zi : Nat) : Int))) = true then (if (Nat.ble ((((ZgU sn sl ss Zi listl).1).toNat) * 1 + 1) listl.length) = true then some (listl.getD ((((ZgU sn sl ss Zi listl).1).toNat) * 1) 0, sn, sl, (ZgU sn sl ss Zi listl).2.2.2) else none) else none) else none)
theorem ZoG (sn : Nat) (sl : List Int) (ss : P2) (Zi : Nat) (listl : List Int) : Zat prog ZiN 92 12 (fun _ => 1000000) Z77 117 [.s sn (.byts sl), .v (.int .i64 ss.1), .v (.int .u64 ss.2)] [.s Zi (.ints listl)] = ZbR sn sl ss Zi listl := by
 kernel_rfl
def Z8J (sn : Nat) (sl : List Int) (ss : P2) (Zi : Nat) (listl : List Int) : Int × STy :=
 (listl.getD ((((ZgU sn sl ss Zi listl).1).toNat) * 1) 0, sn, sl, (ZgU sn sl ss Zi listl).2.2.2)
def Z3w : (Nat) -> (List Int) -> P2 -> (Nat) -> (List Int) -> (Int × STy) := shut Z8J
theorem Zcs (sn : Nat) (sl : List Int) (ss : P2) (Zi : Nat) (listl : List Int) : Z3w sn sl ss Zi listl = Z8J sn sl ss Zi listl := by
 unfold Z3w
 rw [Z1e]
theorem Zn1 (sn : Nat) (sl : List Int) (ss : P2) (Zi : Nat) (listl : List Int) (hp : (srcB sn sl ss && (lenB Zi 1 listl && Nat.blt 0 Zi)) = true) : ZbR sn sl ss Zi listl = some (Z3w sn sl ss Zi listl) := by
 have hs := Zff hp
 have hc := (Z2a hs).1
 have hk := Zfg hp
 obtain ⟨hl, _⟩ := Z53 (Zff hk)
 have h0 : 0 < Zi := Zst (Zfg hk)
 have hr := Z0G sn sl ss (Zi : Int) hs (by omega)
 rw [Zcs]
 unfold ZbR Z8J
 dsimp only [ZgU]
 exact Z04 hs (Z04 (Z25 hr) (Z04 (Z1n (by omega)) rfl))
theorem Zm (sn : Nat) (sl : List Int) (ss : P2) (Zi : Nat) (listl : List Int) (hs : srcB sn sl ss = true) : srcB sn sl (Z3w sn sl ss Zi listl).2.2.2 = true := by
 have hc := (Z2a hs).1
 rw [Zcs]
 unfold Z8J
 repeat' (first | (with_reducible first | assumption | apply Zf) | refine Z6R (P := fun r : Int × STy => srcB sn sl r.2.2.2 = true) ?_ ?_ | dsimp only)
theorem ZvC (sn : Nat) (sl : List Int) (ss : P2) (Zi : Nat) (listl : List Int) (hs : srcB sn sl ss = true) (hk : (lenB Zi 1 listl && Nat.blt 0 Zi) = true) : (Z3w sn sl ss Zi listl).1 ∈ listl := by
 obtain ⟨hl, _⟩ := Z53 (Zff hk)
 have h0 : 0 < Zi := Zst (Zfg hk)
 have hr := Z0G sn sl ss (Zi : Int) hs (by omega)
 rw [Zcs]
 unfold Z8J
 dsimp only [ZgU]
 exact Zqr (by omega)
def Z3C : PRun
 | 117, [.s sn (.byts sl), .v (.int .i64 s_1), .v (.int .u64 s_2)], [.s Zi (.ints listl)] => some (srcB sn sl (s_1, s_2) && (lenB Zi 1 listl && Nat.blt 0 Zi), Z8b (Z3w sn sl (s_1, s_2) Zi listl))
 | _, _, _ => none
theorem Z3X : Z7E prog 92 Z3C := by
 refine Z5k Zbh Zo6 (by kernel_rfl) func92 ntmps92 rfl (by kernel_rfl) ?_
 intro e bcs pvs rs bcs' hrun
 unfold Z3C at hrun
 split at hrun
 ·simp only [Option.some.injEq, Prod.mk.injEq] at hrun
  obtain ⟨hp, hrun⟩ := hrun
  rename_i sn sl s_1 s_2 Zi listl
  exact ⟨_, Z3w sn sl (s_1, s_2) Zi listl, by first | exact hrun.symm | exact (Prod.ext hrun.1 hrun.2).symm, (ZoG sn sl (s_1, s_2) Zi listl).trans (Zn1 sn sl (s_1, s_2) Zi listl hp)⟩
 ·cases hrun

abbrev ZsN (sn : Nat) (sl : List Int) (ss : P2) : Int × STy := (Z3w sn sl ss 13 [3, 5, 5, 7, 7, 11, 13, 13, 17, 19, 23, 29, 31])
def Zbc : Sums := ⟨tblS [], tblM [(92, .box Z3C)], false, false⟩
theorem Zgu : ZJ prog Zbc := ⟨ZD ⟨⟩, Z56 ⟨⟨call92, Z3X⟩, ⟨⟩⟩⟩
def Z7w (sn : Nat) (sl : List Int) (ss : P2) : Option (Int × STy) :=
 (if (srcB sn sl ss && (lenB 13 1 ([3, 5, 5, 7, 7, 11, 13, 13, 17, 19, 23, 29, 31]) && Nat.blt 0 13)) = true then some ((ZsN sn sl ss).1, sn, sl, (ZsN sn sl ss).2.2.2) else none)
theorem ZgN (sn : Nat) (sl : List Int) (ss : P2) : Zat prog Zbc 76 6 (fun _ => 1000000) Z77 117 [.s sn (.byts sl), .v (.int .i64 ss.1), .v (.int .u64 ss.2)] [] = Z7w sn sl ss := by
 kernel_rfl
def Z6o (sn : Nat) (sl : List Int) (ss : P2) : Int × STy :=
 ((ZsN sn sl ss).1, sn, sl, (ZsN sn sl ss).2.2.2)
def Z1u : (Nat) -> (List Int) -> P2 -> (Int × STy) := shut Z6o
theorem Z7P (sn : Nat) (sl : List Int) (ss : P2) : Z1u sn sl ss = Z6o sn sl ss := by
 unfold Z1u
 rw [Z1e]
theorem Zgk (sn : Nat) (sl : List Int) (ss : P2) (hp : (srcB sn sl ss) = true) : Z7w sn sl ss = some (Z1u sn sl ss) := by
 have hs := hp
 have hc := (Z2a hs).1
 rw [Z7P]
 unfold Z7w Z6o
 (try simp only [Z03])
 repeat' (first | with_reducible rfl | refine Z04 (by first | (with_reducible assumption) | ((repeat (with_reducible first | assumption | apply Zm)); done) | (with_reducible exact Z0f _ _ _ (by ((repeat (with_reducible first | assumption | apply Zm)); done))) | fail | exact Z5x ‹_› | exact Z1G (by ((repeat (with_reducible first | assumption | apply Zm)); done)) (by (first | (with_reducible assumption) | with_reducible exact Z0f _ _ _ (by ((repeat (with_reducible first | assumption | apply Zm)); done)) | fail | rfl)) | exact Z4u ‹_› (by (first | exact Z0q _ | exact Z0y _)) | exact Z25 (Z0G _ _ _ _ (by ((repeat (with_reducible first | assumption | apply Zm)); done)) (by decide)) | exact Z1n (Z3K _ _ _ _ (by ((repeat (with_reducible first | assumption | apply Zm)); done)) (by decide) (by decide)) | exact Z1n (Z3s _ _ _ _ (by ((repeat (with_reducible first | assumption | apply Zm)); done)) (by decide) (by decide)) | exact Z25 (Z0G _ _ _ _ (by ((repeat (with_reducible first | assumption | apply Zm)); done)) (Z54 ‹_›)) | exact Z3t (by ((repeat (with_reducible first | assumption | apply Zm)); done)) ‹_› (by (first | exact Z0q _ | exact Z0y _))) ?_ | refine ZS (fun _ => ?_) (fun _ => ?_) | rfl)
theorem ZC (sn : Nat) (sl : List Int) (ss : P2) (hs : srcB sn sl ss = true) : srcB sn sl (Z1u sn sl ss).2.2.2 = true := by
 have hc := (Z2a hs).1
 rw [Z7P]
 unfold Z6o
 repeat' (first | (with_reducible first | assumption | apply Zm) | refine Z6R (P := fun r : Int × STy => srcB sn sl r.2.2.2 = true) ?_ ?_ | dsimp only)
theorem ZrG (sn : Nat) (sl : List Int) (ss : P2) (hs : srcB sn sl ss = true) : (Z1u sn sl ss).1 ∈ [3, 5, 5, 7, 7, 11, 13, 13, 17, 19, 23, 29, 31] := by
 rw [Z7P]
 exact ZvC sn sl ss _ _ hs rfl
theorem Z0f (sn : Nat) (sl : List Int) (ss : P2) (hs : srcB sn sl ss = true) : prB (Z1u sn sl ss).1 = true := by
 have h := ZrG sn sl ss hs
 have : ∀ x ∈ [3, 5, 5, 7, 7, 11, 13, 13, 17, 19, 23, 29, (31 : Int)], prB x = true := by decide
 exact this _ h
def Z3u : PRun
 | 117, [.s sn (.byts sl), .v (.int .i64 s_1), .v (.int .u64 s_2)], [] => some (srcB sn sl (s_1, s_2), Z8b (Z1u sn sl (s_1, s_2)))
 | _, _, _ => none
theorem Z4V : Z7E prog 76 Z3u := by
 refine Z5k Zbh Zgu (by kernel_rfl) func76 ntmps76 rfl (by kernel_rfl) ?_
 intro e bcs pvs rs bcs' hrun
 unfold Z3u at hrun
 split at hrun
 ·simp only [Option.some.injEq, Prod.mk.injEq] at hrun
  obtain ⟨hp, hrun⟩ := hrun
  rename_i sn sl s_1 s_2
  exact ⟨_, Z1u sn sl (s_1, s_2), by first | exact hrun.symm | exact (Prod.ext hrun.1 hrun.2).symm, (ZgN sn sl (s_1, s_2)).trans (Zgk sn sl (s_1, s_2) hp)⟩
 ·cases hrun

abbrev ZsY (sn : Nat) (sl : List Int) (ss : P2) (p : Int) : Int × STy := (Z3w sn sl ((Zl sn sl ss 40).2.2.2) 8 [2, 1, 0, (-3), 9, 15, 37, 1099511627776])
def ZcG : Sums := ⟨tblS [], tblM [(68, .box Z1d), (92, .box Z3C)], false, false⟩
theorem ZhE : ZJ prog ZcG := ⟨ZD ⟨⟩, Z56 ⟨⟨call68, Z15⟩, ⟨call92, Z3X⟩, ⟨⟩⟩⟩
def Z83 (sn : Nat) (sl : List Int) (ss : P2) (p : Int) : Option (Int × STy) :=
 (if (srcB sn sl ss) = true then (if (((Zl sn sl ss 40).1) == 0) = true then (if (srcB sn sl ((Zl sn sl ss 40).2.2.2) && (lenB 8 1 ([2, 1, 0, (-3), 9, 15, 37, 1099511627776]) && Nat.blt 0 8)) = true then some ((ZsY sn sl ss p).1, sn, sl, (ZsY sn sl ss p).2.2.2) else none) else some (p, sn, sl, (Zl sn sl ss 40).2.2.2)) else none)
theorem ZhV (sn : Nat) (sl : List Int) (ss : P2) (p : Int) : Zat prog ZcG 80 12 (fun _ => 1000000) Z77 117 [.s sn (.byts sl), .v (.int .i64 ss.1), .v (.int .u64 ss.2)] [.v (.int .i64 p)] = Z83 sn sl ss p := by
 kernel_rfl
def Z6Y (sn : Nat) (sl : List Int) (ss : P2) (p : Int) : Int × STy :=
 (if (((Zl sn sl ss 40).1) == 0) = true then ((ZsY sn sl ss p).1, sn, sl, (ZsY sn sl ss p).2.2.2) else (p, sn, sl, (Zl sn sl ss 40).2.2.2))
def Z0U : (Nat) -> (List Int) -> P2 -> (Int) -> (Int × STy) := shut Z6Y
theorem Zbz (sn : Nat) (sl : List Int) (ss : P2) (p : Int) : Z0U sn sl ss p = Z6Y sn sl ss p := by
 unfold Z0U
 rw [Z1e]
theorem Zhq (sn : Nat) (sl : List Int) (ss : P2) (p : Int) (hp : (srcB sn sl ss && prB p) = true) : Z83 sn sl ss p = some (Z0U sn sl ss p) := by
 have hs := Zff hp
 have hc := (Z2a hs).1
 have hq := Zfg hp
 have h0 := Z6y hq
 rw [Zbz]
 unfold Z83 Z6Y
 (try simp only [Z03])
 repeat' (first | with_reducible rfl | refine Z04 (by first | (with_reducible assumption) | ((repeat (with_reducible first | assumption | apply Zf | apply Zm)); done) | (with_reducible exact Z0f _ _ _ (by ((repeat (with_reducible first | assumption | apply Zf | apply Zm)); done))) | fail | exact Z5x ‹_› | exact Z1G (by ((repeat (with_reducible first | assumption | apply Zf | apply Zm)); done)) (by (first | (with_reducible assumption) | with_reducible exact Z0f _ _ _ (by ((repeat (with_reducible first | assumption | apply Zf | apply Zm)); done)) | fail | rfl)) | exact Z4u ‹_› (by (first | exact Z0q _ | exact Z0y _)) | exact Z25 (Z0G _ _ _ _ (by ((repeat (with_reducible first | assumption | apply Zf | apply Zm)); done)) (by decide)) | exact Z1n (Z3K _ _ _ _ (by ((repeat (with_reducible first | assumption | apply Zf | apply Zm)); done)) (by decide) (by decide)) | exact Z1n (Z3s _ _ _ _ (by ((repeat (with_reducible first | assumption | apply Zf | apply Zm)); done)) (by decide) (by decide)) | exact Z25 (Z0G _ _ _ _ (by ((repeat (with_reducible first | assumption | apply Zf | apply Zm)); done)) (Z54 ‹_›)) | exact Z3t (by ((repeat (with_reducible first | assumption | apply Zf | apply Zm)); done)) ‹_› (by (first | exact Z0q _ | exact Z0y _))) ?_ | refine ZS (fun _ => ?_) (fun _ => ?_) | rfl)
theorem ZF (sn : Nat) (sl : List Int) (ss : P2) (p : Int) (hs : srcB sn sl ss = true) : srcB sn sl (Z0U sn sl ss p).2.2.2 = true := by
 have hc := (Z2a hs).1
 rw [Zbz]
 unfold Z6Y
 repeat' (first | (with_reducible first | assumption | apply Zf | apply Zm) | refine Z6R (P := fun r : Int × STy => srcB sn sl r.2.2.2 = true) ?_ ?_ | dsimp only)
def Z3P : PRun
 | 117, [.s sn (.byts sl), .v (.int .i64 s_1), .v (.int .u64 s_2)], [.v (.int .i64 p)] => some (srcB sn sl (s_1, s_2) && prB p, Z8b (Z0U sn sl (s_1, s_2) p))
 | _, _, _ => none
theorem Z55 : Z7E prog 80 Z3P := by
 refine Z5k Zbh ZhE (by kernel_rfl) func80 ntmps80 rfl (by kernel_rfl) ?_
 intro e bcs pvs rs bcs' hrun
 unfold Z3P at hrun
 split at hrun
 ·simp only [Option.some.injEq, Prod.mk.injEq] at hrun
  obtain ⟨hp, hrun⟩ := hrun
  rename_i sn sl s_1 s_2 p
  exact ⟨_, Z0U sn sl (s_1, s_2) p, by first | exact hrun.symm | exact (Prod.ext hrun.1 hrun.2).symm, (ZhV sn sl (s_1, s_2) p).trans (Zhq sn sl (s_1, s_2) p hp)⟩
 ·cases hrun

abbrev ZsU (sn : Nat) (sl : List Int) (ss : P2) (p : Int) : Int × STy := (Zl sn sl ((Zl sn sl ss 4).2.2.2) 3)
abbrev ZsV (sn : Nat) (sl : List Int) (ss : P2) (p : Int) : Int × STy := (Zl sn sl ((ZsU sn sl ss p).2.2.2) 3)
abbrev ZsW (sn : Nat) (sl : List Int) (ss : P2) (p : Int) : Int × STy := (Zl sn sl ((Zl sn sl ss 4).2.2.2) p)
abbrev ZsX (sn : Nat) (sl : List Int) (ss : P2) (p : Int) : Int × STy := (Zl sn sl ((ZsW sn sl ss p).2.2.2) p)
def Zbd : Sums := ⟨tblS [], tblM [(68, .box Z1d)], false, false⟩
theorem Zgv : ZJ prog Zbd := ⟨ZD ⟨⟩, Z56 ⟨⟨call68, Z15⟩, ⟨⟩⟩⟩
def Z7x (sn : Nat) (sl : List Int) (ss : P2) (p : Int) : Option (P2 × STy) :=
 (if (srcB sn sl ss) = true then (if (((Zl sn sl ss 4).1) == 0) = true then (if (srcB sn sl ((Zl sn sl ss 4).2.2.2)) = true then (if (srcB sn sl ((ZsU sn sl ss p).2.2.2)) = true then some (((ZsU sn sl ss p).1, (ZsV sn sl ss p).1), sn, sl, (ZsV sn sl ss p).2.2.2) else none) else none) else (if (srcB sn sl ((Zl sn sl ss 4).2.2.2)) = true then (if (srcB sn sl ((ZsW sn sl ss p).2.2.2)) = true then some (((ZsW sn sl ss p).1, (ZsX sn sl ss p).1), sn, sl, (ZsX sn sl ss p).2.2.2) else none) else none)) else none)
theorem ZgO (sn : Nat) (sl : List Int) (ss : P2) (p : Int) : Zat prog Zbd 78 20 (fun _ => 1000000) Zap 117 [.s sn (.byts sl), .v (.int .i64 ss.1), .v (.int .u64 ss.2)] [.v (.int .i64 p)] = Z7x sn sl ss p := by
 kernel_rfl
def Z6p (sn : Nat) (sl : List Int) (ss : P2) (p : Int) : P2 × STy :=
 (if (((Zl sn sl ss 4).1) == 0) = true then (((ZsU sn sl ss p).1, (ZsV sn sl ss p).1), sn, sl, (ZsV sn sl ss p).2.2.2) else (((ZsW sn sl ss p).1, (ZsX sn sl ss p).1), sn, sl, (ZsX sn sl ss p).2.2.2))
def ZW : (Nat) -> (List Int) -> P2 -> (Int) -> (P2 × STy) := shut Z6p
theorem ZaB (sn : Nat) (sl : List Int) (ss : P2) (p : Int) : ZW sn sl ss p = Z6p sn sl ss p := by
 unfold ZW
 rw [Z1e]
theorem Zgl (sn : Nat) (sl : List Int) (ss : P2) (p : Int) (hp : (srcB sn sl ss && prB p) = true) : Z7x sn sl ss p = some (ZW sn sl ss p) := by
 have hs := Zff hp
 have hc := (Z2a hs).1
 have hq := Zfg hp
 have h0 := Z6y hq
 rw [ZaB]
 unfold Z7x Z6p
 (try simp only [Z03])
 repeat' (first | with_reducible rfl | refine Z04 (by first | (with_reducible assumption) | ((repeat (with_reducible first | assumption | apply Zf)); done) | (with_reducible exact Z0f _ _ _ (by ((repeat (with_reducible first | assumption | apply Zf)); done))) | fail | exact Z5x ‹_› | exact Z1G (by ((repeat (with_reducible first | assumption | apply Zf)); done)) (by (first | (with_reducible assumption) | with_reducible exact Z0f _ _ _ (by ((repeat (with_reducible first | assumption | apply Zf)); done)) | fail | rfl)) | exact Z4u ‹_› (by (first | exact Z0q _ | exact Z0y _)) | exact Z25 (Z0G _ _ _ _ (by ((repeat (with_reducible first | assumption | apply Zf)); done)) (by decide)) | exact Z1n (Z3K _ _ _ _ (by ((repeat (with_reducible first | assumption | apply Zf)); done)) (by decide) (by decide)) | exact Z1n (Z3s _ _ _ _ (by ((repeat (with_reducible first | assumption | apply Zf)); done)) (by decide) (by decide)) | exact Z25 (Z0G _ _ _ _ (by ((repeat (with_reducible first | assumption | apply Zf)); done)) (Z54 ‹_›)) | exact Z3t (by ((repeat (with_reducible first | assumption | apply Zf)); done)) ‹_› (by (first | exact Z0q _ | exact Z0y _))) ?_ | refine ZS (fun _ => ?_) (fun _ => ?_) | rfl)
theorem ZT (sn : Nat) (sl : List Int) (ss : P2) (p : Int) (hs : srcB sn sl ss = true) : srcB sn sl (ZW sn sl ss p).2.2.2 = true := by
 have hc := (Z2a hs).1
 rw [ZaB]
 unfold Z6p
 repeat' (first | (with_reducible first | assumption | apply Zf) | refine Z6R (P := fun r : P2 × STy => srcB sn sl r.2.2.2 = true) ?_ ?_ | dsimp only)
def Z4v : PRun
 | 117, [.s sn (.byts sl), .v (.int .i64 s_1), .v (.int .u64 s_2)], [.v (.int .i64 p)] => some (srcB sn sl (s_1, s_2) && prB p, Zdz (ZW sn sl (s_1, s_2) p))
 | _, _, _ => none
theorem Z6c : Z7E prog 78 Z4v := by
 refine Z5k Zl4 Zgv (by kernel_rfl) func78 ntmps78 rfl (by kernel_rfl) ?_
 intro e bcs pvs rs bcs' hrun
 unfold Z4v at hrun
 split at hrun
 ·simp only [Option.some.injEq, Prod.mk.injEq] at hrun
  obtain ⟨hp, hrun⟩ := hrun
  rename_i sn sl s_1 s_2 p
  exact ⟨_, ZW sn sl (s_1, s_2) p, by first | exact hrun.symm | exact (Prod.ext hrun.1 hrun.2).symm, (ZgO sn sl (s_1, s_2) p).trans (Zgl sn sl (s_1, s_2) p hp)⟩
 ·cases hrun

abbrev ZgT (sn : Nat) (sl : List Int) (ss : P2) (p : Int) (a : P2) : Int × STy := (Zl sn sl ((Zl sn sl ss 40).2.2.2) 2)
abbrev Znv (sn : Nat) (sl : List Int) (ss : P2) (p : Int) (a : P2) : Int × STy := (Z3w sn sl ((ZgT sn sl ss p a).2.2.2) 3 [(-1), p, 1099511627776])
def ZcH : Sums := ⟨tblS [], tblM [(68, .box Z1d), (92, .box Z3C)], false, false⟩
theorem ZhF : ZJ prog ZcH := ⟨ZD ⟨⟩, Z56 ⟨⟨call68, Z15⟩, ⟨call92, Z3X⟩, ⟨⟩⟩⟩
def Z84 (sn : Nat) (sl : List Int) (ss : P2) (p : Int) (a : P2) : Option (P2 × STy) :=
 (if (srcB sn sl ss) = true then (if (((Zl sn sl ss 40).1) == 0) = true then (if (srcB sn sl ((Zl sn sl ss 40).2.2.2)) = true then (if (srcB sn sl ((ZgT sn sl ss p a).2.2.2) && (lenB 3 1 ([(-1), p, 1099511627776]) && Nat.blt 0 3)) = true then (if (decide (0 <= (ZgT sn sl ss p a).1) && decide ((ZgT sn sl ss p a).1 < ((2 : Nat) : Int))) = true then (if (Nat.ble (0 + ((((ZgT sn sl ss p a).1).toNat) * 1) + 1) 2) = true then some ((bif Nat.beq (0 + ((((ZgT sn sl ss p a).1).toNat) * 1)) 0 then ((Znv sn sl ss p a).1) else a.1, bif Nat.beq (0 + ((((ZgT sn sl ss p a).1).toNat) * 1)) 1 then ((Znv sn sl ss p a).1) else a.2), sn, sl, (Znv sn sl ss p a).2.2.2) else none) else none) else none) else none) else some (a, sn, sl, (Zl sn sl ss 40).2.2.2)) else none)
theorem ZhW (sn : Nat) (sl : List Int) (ss : P2) (p : Int) (a : P2) : Zat prog ZcH 79 18 (fun _ => 1000000) Zap 117 [.s sn (.byts sl), .v (.int .i64 ss.1), .v (.int .u64 ss.2)] [.v (.int .i64 p), .v (.agg ⟨[.int .i64 a.1, .int .i64 a.2]⟩)] = Z84 sn sl ss p a := by
 kernel_rfl
def Z6Z (sn : Nat) (sl : List Int) (ss : P2) (p : Int) (a : P2) : P2 × STy :=
 (if (((Zl sn sl ss 40).1) == 0) = true then ((bif Nat.beq (0 + ((((ZgT sn sl ss p a).1).toNat) * 1)) 0 then ((Znv sn sl ss p a).1) else a.1, bif Nat.beq (0 + ((((ZgT sn sl ss p a).1).toNat) * 1)) 1 then ((Znv sn sl ss p a).1) else a.2), sn, sl, (Znv sn sl ss p a).2.2.2) else (a, sn, sl, (Zl sn sl ss 40).2.2.2))
def Z13 : (Nat) -> (List Int) -> P2 -> (Int) -> P2 -> (P2 × STy) := shut Z6Z
theorem ZbA (sn : Nat) (sl : List Int) (ss : P2) (p : Int) (a : P2) : Z13 sn sl ss p a = Z6Z sn sl ss p a := by
 unfold Z13
 rw [Z1e]
theorem Zhr (sn : Nat) (sl : List Int) (ss : P2) (p : Int) (a : P2) (hp : (srcB sn sl ss && prB p) = true) : Z84 sn sl ss p a = some (Z13 sn sl ss p a) := by
 have hs := Zff hp
 have hc := (Z2a hs).1
 have hq := Zfg hp
 have h0 := Z6y hq
 rw [ZbA]
 unfold Z84 Z6Z
 (try simp only [Z03])
 repeat' (first | with_reducible rfl | refine Z04 (by first | (with_reducible assumption) | ((repeat (with_reducible first | assumption | apply Zf | apply Zm)); done) | (with_reducible exact Z0f _ _ _ (by ((repeat (with_reducible first | assumption | apply Zf | apply Zm)); done))) | fail | exact Z5x ‹_› | exact Z1G (by ((repeat (with_reducible first | assumption | apply Zf | apply Zm)); done)) (by (first | (with_reducible assumption) | with_reducible exact Z0f _ _ _ (by ((repeat (with_reducible first | assumption | apply Zf | apply Zm)); done)) | fail | rfl)) | exact Z4u ‹_› (by (first | exact Z0q _ | exact Z0y _)) | exact Z25 (Z0G _ _ _ _ (by ((repeat (with_reducible first | assumption | apply Zf | apply Zm)); done)) (by decide)) | exact Z1n (Z3K _ _ _ _ (by ((repeat (with_reducible first | assumption | apply Zf | apply Zm)); done)) (by decide) (by decide)) | exact Z1n (Z3s _ _ _ _ (by ((repeat (with_reducible first | assumption | apply Zf | apply Zm)); done)) (by decide) (by decide)) | exact Z25 (Z0G _ _ _ _ (by ((repeat (with_reducible first | assumption | apply Zf | apply Zm)); done)) (Z54 ‹_›)) | exact Z3t (by ((repeat (with_reducible first | assumption | apply Zf | apply Zm)); done)) ‹_› (by (first | exact Z0q _ | exact Z0y _))) ?_ | refine ZS (fun _ => ?_) (fun _ => ?_) | rfl)
theorem ZY (sn : Nat) (sl : List Int) (ss : P2) (p : Int) (a : P2) (hs : srcB sn sl ss = true) : srcB sn sl (Z13 sn sl ss p a).2.2.2 = true := by
 have hc := (Z2a hs).1
 rw [ZbA]
 unfold Z6Z
 repeat' (first | (with_reducible first | assumption | apply Zf | apply Zm) | refine Z6R (P := fun r : P2 × STy => srcB sn sl r.2.2.2 = true) ?_ ?_ | dsimp only)
def Z4S : PRun
 | 117, [.s sn (.byts sl), .v (.int .i64 s_1), .v (.int .u64 s_2)], [.v (.int .i64 p), .v (.agg ⟨[.int .i64 a0, .int .i64 a1]⟩)] => some (srcB sn sl (s_1, s_2) && prB p, Zdz (Z13 sn sl (s_1, s_2) p (a0, a1)))
 | _, _, _ => none
theorem Z6D : Z7E prog 79 Z4S := by
 refine Z5k Zl4 ZhF (by kernel_rfl) func79 ntmps79 rfl (by kernel_rfl) ?_
 intro e bcs pvs rs bcs' hrun
 unfold Z4S at hrun
 split at hrun
 ·simp only [Option.some.injEq, Prod.mk.injEq] at hrun
  obtain ⟨hp, hrun⟩ := hrun
  rename_i sn sl s_1 s_2 p a0 a1
  exact ⟨_, Z13 sn sl (s_1, s_2) p (a0, a1), by first | exact hrun.symm | exact (Prod.ext hrun.1 hrun.2).symm, (ZhW sn sl (s_1, s_2) p (a0, a1)).trans (Zhr sn sl (s_1, s_2) p (a0, a1) hp)⟩
 ·cases hrun

abbrev ZqE (sn : Nat) (sl : List Int) (ss : P2) (p : Int) : Int × STy := (Zl sn sl ss (wI (p + 1)))
abbrev Zja (sn : Nat) (sl : List Int) (ss : P2) (p : Int) : Int × STy := (Zl sn sl ((ZqE sn sl ss p).2.2.2) p)
abbrev ZsM (sn : Nat) (sl : List Int) (ss : P2) (p : Int) : Int × STy := (Zl sn sl ((Zja sn sl ss p).2.2.2) p)
def ZcI : Sums := ⟨tblS [], tblM [(68, .box Z1d)], false, false⟩
theorem ZhG : ZJ prog ZcI := ⟨ZD ⟨⟩, Z56 ⟨⟨call68, Z15⟩, ⟨⟩⟩⟩
def Z85 (sn : Nat) (sl : List Int) (ss : P2) (p : Int) : Option (P3 × STy) :=
 (if (srcB sn sl ss) = true then (if (((ZqE sn sl ss p).1) == 0) = true then (if (srcB sn sl ((ZqE sn sl ss p).2.2.2)) = true then some ((0, 1, (Zja sn sl ss p).1), sn, sl, (Zja sn sl ss p).2.2.2) else none) else (if (srcB sn sl ((ZqE sn sl ss p).2.2.2)) = true then (if (srcB sn sl ((Zja sn sl ss p).2.2.2)) = true then some ((1, (Zja sn sl ss p).1, (ZsM sn sl ss p).1), sn, sl, (ZsM sn sl ss p).2.2.2) else none) else none)) else none)
theorem ZhX (sn : Nat) (sl : List Int) (ss : P2) (p : Int) : Zat prog ZcI 69 21 (fun _ => 1000000) Zaq 117 [.s sn (.byts sl), .v (.int .i64 ss.1), .v (.int .u64 ss.2)] [.v (.int .i64 p)] = Z85 sn sl ss p := by
 kernel_rfl
def Z70 (sn : Nat) (sl : List Int) (ss : P2) (p : Int) : P3 × STy :=
 (if (((ZqE sn sl ss p).1) == 0) = true then ((0, 1, (Zja sn sl ss p).1), sn, sl, (Zja sn sl ss p).2.2.2) else ((1, (Zja sn sl ss p).1, (ZsM sn sl ss p).1), sn, sl, (ZsM sn sl ss p).2.2.2))
def Z3D : (Nat) -> (List Int) -> P2 -> (Int) -> (P3 × STy) := shut Z70
theorem ZbB (sn : Nat) (sl : List Int) (ss : P2) (p : Int) : Z3D sn sl ss p = Z70 sn sl ss p := by
 unfold Z3D
 rw [Z1e]
theorem Zhs (sn : Nat) (sl : List Int) (ss : P2) (p : Int) (hp : (srcB sn sl ss && prB p) = true) : Z85 sn sl ss p = some (Z3D sn sl ss p) := by
 have hs := Zff hp
 have hc := (Z2a hs).1
 have hq := Zfg hp
 have h0 := Z6y hq
 rw [ZbB]
 unfold Z85 Z70
 (try simp only [Z03])
 repeat' (first | with_reducible rfl | refine Z04 (by first | (with_reducible assumption) | ((repeat (with_reducible first | assumption | apply Zf)); done) | (with_reducible exact Z0f _ _ _ (by ((repeat (with_reducible first | assumption | apply Zf)); done))) | fail | exact Z5x ‹_› | exact Z1G (by ((repeat (with_reducible first | assumption | apply Zf)); done)) (by (first | (with_reducible assumption) | with_reducible exact Z0f _ _ _ (by ((repeat (with_reducible first | assumption | apply Zf)); done)) | fail | rfl)) | exact Z4u ‹_› (by (first | exact Z0q _ | exact Z0y _)) | exact Z25 (Z0G _ _ _ _ (by ((repeat (with_reducible first | assumption | apply Zf)); done)) (by decide)) | exact Z1n (Z3K _ _ _ _ (by ((repeat (with_reducible first | assumption | apply Zf)); done)) (by decide) (by decide)) | exact Z1n (Z3s _ _ _ _ (by ((repeat (with_reducible first | assumption | apply Zf)); done)) (by decide) (by decide)) | exact Z25 (Z0G _ _ _ _ (by ((repeat (with_reducible first | assumption | apply Zf)); done)) (Z54 ‹_›)) | exact Z3t (by ((repeat (with_reducible first | assumption | apply Zf)); done)) ‹_› (by (first | exact Z0q _ | exact Z0y _))) ?_ | refine ZS (fun _ => ?_) (fun _ => ?_) | rfl)
theorem ZZ (sn : Nat) (sl : List Int) (ss : P2) (p : Int) (hs : srcB sn sl ss = true) : srcB sn sl (Z3D sn sl ss p).2.2.2 = true := by
 have hc := (Z2a hs).1
 rw [ZbB]
 unfold Z70
 repeat' (first | (with_reducible first | assumption | apply Zf) | refine Z6R (P := fun r : P3 × STy => srcB sn sl r.2.2.2 = true) ?_ ?_ | dsimp only)
def Z5V : PRun
 | 117, [.s sn (.byts sl), .v (.int .i64 s_1), .v (.int .u64 s_2)], [.v (.int .i64 p)] => some (srcB sn sl (s_1, s_2) && prB p, ZdA (Z3D sn sl (s_1, s_2) p))
 | _, _, _ => none
theorem Z9g : Z7E prog 69 Z5V := by
 refine Z5k Zl5 ZhG (by kernel_rfl) func69 ntmps69 rfl (by kernel_rfl) ?_
 intro e bcs pvs rs bcs' hrun
 unfold Z5V at hrun
 split at hrun
 ·simp only [Option.some.injEq, Prod.mk.injEq] at hrun
  obtain ⟨hp, hrun⟩ := hrun
  rename_i sn sl s_1 s_2 p
  exact ⟨_, Z3D sn sl (s_1, s_2) p, by first | exact hrun.symm | exact (Prod.ext hrun.1 hrun.2).symm, (ZhX sn sl (s_1, s_2) p).trans (Zhs sn sl (s_1, s_2) p hp)⟩
 ·cases hrun

abbrev ZsO (sn : Nat) (sl : List Int) (ss : P2) (p : Int) : Int × STy := (Zl sn sl ((Zl sn sl ss p).2.2.2) p)
abbrev ZsP (sn : Nat) (sl : List Int) (ss : P2) (p : Int) : Int × STy := (Zl sn sl ((ZsO sn sl ss p).2.2.2) p)
abbrev ZsQ (sn : Nat) (sl : List Int) (ss : P2) (p : Int) : Int × STy := (Zl sn sl ((ZsP sn sl ss p).2.2.2) p)
abbrev ZsR (sn : Nat) (sl : List Int) (ss : P2) (p : Int) : Int × STy := (Zl sn sl ((ZsQ sn sl ss p).2.2.2) p)
abbrev ZsS (sn : Nat) (sl : List Int) (ss : P2) (p : Int) : Int × STy := (Zl sn sl ((ZsR sn sl ss p).2.2.2) p)
abbrev Zjb (sn : Nat) (sl : List Int) (ss : P2) (p : Int) : Int × STy := (Zl sn sl ((ZsS sn sl ss p).2.2.2) 4)
abbrev Z1h (sn : Nat) (sl : List Int) (ss : P2) (p : Int) : P3 × STy := (Z3D sn sl ((Zjb sn sl ss p).2.2.2) p)
abbrev Z7q (sn : Nat) (sl : List Int) (ss : P2) (p : Int) : P3 × STy := (Z3D sn sl ((Z1h sn sl ss p).2.2.2) p)
abbrev Zfj (sn : Nat) (sl : List Int) (ss : P2) (p : Int) : Int × STy := (Zl sn sl ((Z7q sn sl ss p).2.2.2) 3)
abbrev ZsT (sn : Nat) (sl : List Int) (ss : P2) (p : Int) : (Int × Int × Int × Int × Int × Int) × Bool := (ZO p 6 [wI ((((Z1h sn sl ss p).1).1) * (((Z1h sn sl ss p).1).1)), wI ((wI ((((Z1h sn sl ss p).1).1) * (((Z1h sn sl ss p).1).2.1))) + (wI ((((Z1h sn sl ss p).1).2.1) * (((Z1h sn sl ss p).1).1)))), wI ((((Z1h sn sl ss p).1).2.1) * (((Z1h sn sl ss p).1).2.1)), wI ((wI ((((Z1h sn sl ss p).1).1) * (((Z1h sn sl ss p).1).2.2))) + (wI ((((Z1h sn sl ss p).1).2.2) * (((Z1h sn sl ss p).1).1)))), wI ((wI ((((Z1h sn sl ss p).1).2.1) * (((Z1h sn sl ss p).1).2.2))) + (wI ((((Z1h sn sl ss p).1).2.2) * (((Z1h sn sl ss p).1).2.1)))), wI ((((Z1h sn sl ss p).1).2.2) * (((Z1h sn sl ss p).1).2.2))])
abbrev Zp7 (sn : Nat) (sl : List Int) (ss : P2) (p : Int) : (Int × Int × Int × Int × Int × Int) × Bool := (ZO p 6 [wI ((((Z1h sn sl ss p).1).1) * (((Z7q sn sl ss p).1).1)), wI ((wI ((((Z1h sn sl ss p).1).1) * (((Z7q sn sl ss p).1).2.1))) + (wI ((((Z1h sn sl ss p).1).2.1) * (((Z7q sn sl ss p).1).1)))), wI ((((Z1h sn sl ss p).1).2.1) * (((Z7q sn sl ss p).1).2.1)), wI ((wI ((((Z1h sn sl ss p).1).1) * (((Z7q sn sl ss p).1).2.2))) + (wI ((((Z1h sn sl ss p).1).2.2) * (((Z7q sn sl ss p).1).1)))), wI ((wI ((((Z1h sn sl ss p).1).2.1) * (((Z7q sn sl ss p).1).2.2))) + (wI ((((Z1h sn sl ss p).1).2.2) * (((Z7q sn sl ss p).1).2.1)))), wI ((((Z1h sn sl ss p).1).2.2) * (((Z7q sn sl ss p).1).2.2))])
abbrev Zp8 (sn : Nat) (sl : List Int) (ss : P2) (p : Int) : (Int × Int × Int × Int × Int × Int) × Bool := (ZO p 6 [(Zl sn sl ss p).1, (ZsO sn sl ss p).1, (ZsP sn sl ss p).1, (ZsQ sn sl ss p).1, (ZsR sn sl ss p).1, (ZsS sn sl ss p).1])
def Zfe : Sums := ⟨tblS [(91, Z5M)], tblM [(68, .box Z1d), (69, .box Z5V)], false, false⟩
theorem ZkL : ZJ prog Zfe := ⟨ZD ⟨⟨call91, Z72⟩, ⟨⟩⟩, Z56 ⟨⟨call68, Z15⟩, ⟨call69, Z9g⟩, ⟨⟩⟩⟩
def Z9L (sn : Nat) (sl : List Int) (ss : P2) (p : Int) : Option ((Int × Int × Int × Int × Int × Int) × STy) :=
 (if (srcB sn sl ss) = true then (if (srcB sn sl ((Zl sn sl ss p).2.2.2)) = true then (if (srcB sn sl ((ZsO sn sl ss p).2.2.2)) = true then (if (srcB sn sl ((ZsP sn sl ss p).2.2.2)) = true then (if (srcB sn sl ((ZsQ sn sl ss p).2.2.2)) = true then (if (srcB sn sl ((ZsR sn sl ss p).2.2.2)) = true then (if (srcB sn sl ((ZsS sn sl ss p).2.2.2)) = true then (if (((Zjb sn sl ss p).1) == 0) = true then (if (srcB sn sl ((Zjb sn sl ss p).2.2.2) && prB p) = true then (if (srcB sn sl ((Z1h sn sl ss p).2.2.2) && prB p) = true then (if (srcB sn sl ((Z7q sn sl ss p).2.2.2)) = true then (if (((Zfj sn sl ss p).1) == 0) = true then (if (prB p && (Nat.beq 6 6 && Nat.beq [wI ((((Z1h sn sl ss p).1).1) * (((Z1h sn sl ss p).1).1)), wI ((wI ((((Z1h sn sl ss p).1).1) * (((Z1h sn sl ss p).1).2.1))) + (wI ((((Z1h sn sl ss p).1).2.1) * (((Z1h sn sl ss p).1).1)))), wI ((((Z1h sn sl ss p).1).2.1) * (((Z1h sn sl ss p).1).2.1)), wI ((wI ((((Z1h sn sl ss p).1).1) * (((Z1h sn sl ss p).1).2.2))) + (wI ((((Z1h sn sl ss p).1).2.2) * (((Z1h sn sl ss p).1).1)))), wI ((wI ((((Z1h sn sl ss p).1).2.1) * (((Z1h sn sl ss p).1).2.2))) + (wI ((((Z1h sn sl ss p).1).2.2) * (((Z1h sn sl ss p).1).2.1)))), wI ((((Z1h sn sl ss p).1).2.2) * (((Z1h sn sl ss p).1).2.2))].length 6)) = true then (if (!((ZsT sn sl ss p).2)) = true then some ((1, 0, 1, 0, 0, 1), sn, sl, (Zfj sn sl ss p).2.2.2) else some (((ZsT sn sl ss p).1), sn, sl, (Zfj sn sl ss p).2.2.2)) else none) else (if (prB p && (Nat.beq 6 6 && Nat.beq [wI ((((Z1h sn sl ss p).1).1) * (((Z7q sn sl ss p).1).1)), wI ((wI ((((Z1h sn sl ss p).1).1) * (((Z7q sn sl ss p).1).2.1))) + (wI ((((Z1h sn sl ss p).1).2.1) * (((Z7q sn sl ss p).1).1)))), wI ((((Z1h sn sl ss p).1).2.1) * (((Z7q sn sl ss p).1).2.1)), wI ((wI ((((Z1h sn sl ss p).1).1) * (((Z7q sn sl ss p).1).2.2))) + (wI ((((Z1h sn sl ss p).1).2.2) * (((Z7q sn sl ss p).1).1)))), wI ((wI ((((Z1h sn sl ss p).1).2.1) * (((Z7q sn sl ss p).1).2.2))) + (wI ((((Z1h sn sl ss p).1).2.2) * (((Z7q sn sl ss p).1).2.1)))), wI ((((Z1h sn sl ss p).1).2.2) * (((Z7q sn sl ss p).1).2.2))].length 6)) = true then (if (!((Zp7 sn sl ss p).2)) = true then some ((1, 0, 1, 0, 0, 1), sn, sl, (Zfj sn sl ss p).2.2.2) else some (((Zp7 sn sl ss p).1), sn, sl, (Zfj sn sl ss p).2.2.2)) else none)) else none) else none) else none) else (if (prB p && (Nat.beq 6 6 && Nat.beq [(Zl sn sl ss p).1, (ZsO sn sl ss p).1, (ZsP sn sl ss p).1, (ZsQ sn sl ss p).1, (ZsR sn sl ss p).1, (ZsS sn sl ss p).1].length 6)) = true then (if (!((Zp8 sn sl ss p).2)) = true then some ((1, 0, 1, 0, 0, 1), sn, sl, (Zjb sn sl ss p).2.2.2) else some (((Zp8 sn sl ss p).1), sn, sl, (Zjb sn sl ss p).2.2.2)) else none)) else none) else none) else none) else none) else none) else none) else none)
theorem Zlq (sn : Nat) (sl : List Int) (ss : P2) (p : Int) : Zat prog Zfe 77 94 (fun _ => 1000000) Zar 117 [.s sn (.byts sl), .v (.int .i64 ss.1), .v (.int .u64 ss.2)] [.v (.int .i64 p)] = Z9L sn sl ss p := by
 kernel_rfl
def Z8u (sn : Nat) (sl : List Int) (ss : P2) (p : Int) : (Int × Int × Int × Int × Int × Int) × STy :=
 (if (((Zjb sn sl ss p).1) == 0) = true then (if (((Zfj sn sl ss p).1) == 0) = true then (if (!((ZsT sn sl ss p).2)) = true then ((1, 0, 1, 0, 0, 1), sn, sl, (Zfj sn sl ss p).2.2.2) else (((ZsT sn sl ss p).1), sn, sl, (Zfj sn sl ss p).2.2.2)) else (if (!((Zp7 sn sl ss p).2)) = true then ((1, 0, 1, 0, 0, 1), sn, sl, (Zfj sn sl ss p).2.2.2) else (((Zp7 sn sl ss p).1), sn, sl, (Zfj sn sl ss p).2.2.2))) else (if (!((Zp8 sn sl ss p).2)) = true then ((1, 0, 1, 0, 0, 1), sn, sl, (Zjb sn sl ss p).2.2.2) else (((Zp8 sn sl ss p).1), sn, sl, (Zjb sn sl ss p).2.2.2)))
def Z5q : (Nat) -> (List Int) -> P2 -> (Int) -> ((Int × Int × Int × Int × Int × Int) × STy) := shut Z8u
theorem ZdY (sn : Nat) (sl : List Int) (ss : P2) (p : Int) : Z5q sn sl ss p = Z8u sn sl ss p := by
 unfold Z5q
 rw [Z1e]
theorem Zke (sn : Nat) (sl : List Int) (ss : P2) (p : Int) (hp : (srcB sn sl ss && prB p) = true) : Z9L sn sl ss p = some (Z5q sn sl ss p) := by
 have hs := Zff hp
 have hc := (Z2a hs).1
 have hq := Zfg hp
 have h0 := Z6y hq
 rw [ZdY]
 unfold Z9L Z8u
 (try simp only [Z03])
 repeat' (first | with_reducible rfl | refine Z04 (by first | (with_reducible assumption) | ((repeat (with_reducible first | assumption | apply Zf | apply ZZ)); done) | (with_reducible exact Z0f _ _ _ (by ((repeat (with_reducible first | assumption | apply Zf | apply ZZ)); done))) | fail | exact Z5x ‹_› | exact Z1G (by ((repeat (with_reducible first | assumption | apply Zf | apply ZZ)); done)) (by (first | (with_reducible assumption) | with_reducible exact Z0f _ _ _ (by ((repeat (with_reducible first | assumption | apply Zf | apply ZZ)); done)) | fail | rfl)) | exact Z4u ‹_› (by (first | exact Z0q _ | exact Z0y _)) | exact Z25 (Z0G _ _ _ _ (by ((repeat (with_reducible first | assumption | apply Zf | apply ZZ)); done)) (by decide)) | exact Z1n (Z3K _ _ _ _ (by ((repeat (with_reducible first | assumption | apply Zf | apply ZZ)); done)) (by decide) (by decide)) | exact Z1n (Z3s _ _ _ _ (by ((repeat (with_reducible first | assumption | apply Zf | apply ZZ)); done)) (by decide) (by decide)) | exact Z25 (Z0G _ _ _ _ (by ((repeat (with_reducible first | assumption | apply Zf | apply ZZ)); done)) (Z54 ‹_›)) | exact Z3t (by ((repeat (with_reducible first | assumption | apply Zf | apply ZZ)); done)) ‹_› (by (first | exact Z0q _ | exact Z0y _))) ?_ | refine ZS (fun _ => ?_) (fun _ => ?_) | rfl)
theorem Z1x (sn : Nat) (sl : List Int) (ss : P2) (p : Int) (hs : srcB sn sl ss = true) : srcB sn sl (Z5q sn sl ss p).2.2.2 = true := by
 have hc := (Z2a hs).1
 rw [ZdY]
 unfold Z8u
 repeat' (first | (with_reducible first | assumption | apply Zf | apply ZZ) | refine Z6R (P := fun r : (Int × Int × Int × Int × Int × Int) × STy => srcB sn sl r.2.2.2 = true) ?_ ?_ | dsimp only)
def Z6V : PRun
 | 117, [.s sn (.byts sl), .v (.int .i64 s_1), .v (.int .u64 s_2)], [.v (.int .i64 p)] => some (srcB sn sl (s_1, s_2) && prB p, ZdB (Z5q sn sl (s_1, s_2) p))
 | _, _, _ => none
theorem ZaH : Z7E prog 77 Z6V := by
 refine Z5k Zl6 ZkL (by kernel_rfl) func77 ntmps77 rfl (by kernel_rfl) ?_
 intro e bcs pvs rs bcs' hrun
 unfold Z6V at hrun
 split at hrun
 ·simp only [Option.some.injEq, Prod.mk.injEq] at hrun
  obtain ⟨hp, hrun⟩ := hrun
  rename_i sn sl s_1 s_2 p
  exact ⟨_, Z5q sn sl (s_1, s_2) p, by first | exact hrun.symm | exact (Prod.ext hrun.1 hrun.2).symm, (Zlq sn sl (s_1, s_2) p).trans (Zke sn sl (s_1, s_2) p hp)⟩
 ·cases hrun

end

end Go.Proofs.Ytfclaacaphpoaaa
