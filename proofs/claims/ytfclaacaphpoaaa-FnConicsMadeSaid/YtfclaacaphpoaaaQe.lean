import Derived.Test.YtfclaacaphpoaaaQd
set_option linter.unusedSimpArgs false
set_option linter.unusedVariables false
namespace Go.Proofs.Ytfclaacaphpoaaa
open Go.RowKit
theorem ZvH {p : Int} (hp : Pr p) : ∃ q : Nat, q ≠ 0 /\ (q : Int) = p := by unfold Pr at hp; exact ⟨p.toNat, by omega, by omega⟩
theorem ZxL (x p : Int) : (x.tmod p == 0) = (x % p == 0) := by
 rw [Bool.eq_iff_iff]
 simp only [beq_iff_eq]
 exact ⟨fun h => Int.emod_eq_zero_of_dvd (Int.dvd_of_tmod_eq_zero h), fun h => Int.tmod_eq_zero_of_dvd (Int.dvd_of_emod_eq_zero h)⟩
theorem ZlK {p : Int} {k : P6} {a : P2} (h : Zo p = true) (hk : Z0Z p k = true) (ha : ZI p a = true) : Z1g p a k = (Z0h p k a == 0) := by
 have hp := Zx h
 obtain ⟨k0, k1, k2, k3, k4, k5⟩ := Zj0 hk
 obtain ⟨a0, a1⟩ := Z0d ha
 replace k0 := Z7U hp k0; replace k1 := Z7U hp k1; replace k2 := Z7U hp k2; replace k3 := Z7U hp k3; replace k4 := Z7U hp k4; replace k5 := Z7U hp k5
 replace a0 := Z7U hp a0; replace a1 := Z7U hp a1
 have r0 : (wrap64 (a.1 * a.1)).tmod p = (a.1 * a.1) % p := by rw [Zrk a0 a0, Zec (Znz a0 a0).1]
 have r1 : (wrap64 (a.1 * a.2)).tmod p = (a.1 * a.2) % p := by rw [Zrk a0 a1, Zec (Znz a0 a1).1]
 have r2 : (wrap64 (a.2 * a.2)).tmod p = (a.2 * a.2) % p := by rw [Zrk a1 a1, Zec (Znz a1 a1).1]
 unfold Z1g Z4s Z0h Z4
 rw [ZxL]
 simp only [r0, r1, r2]
 refine congrArg (fun x : Int => x == 0) ?_
 apply W.mods
 ·(repeat' (first | exact W.bd (by assumption) | exact W.bd (Zpk (by assumption) _) | exact W.lit _ (by decide) | with_reducible apply W.rest (by assumption) | with_reducible apply W.smod (by assumption) | with_reducible apply W.mod (by assumption) | with_reducible apply W.mul | with_reducible apply W.sub | with_reducible apply W.add | with_reducible apply W.neg | decide))
 ·(repeat' (first | exact W.bd (by assumption) | exact W.bd (Zpk (by assumption) _) | exact W.lit _ (by decide) | with_reducible apply W.rest (by assumption) | with_reducible apply W.smod (by assumption) | with_reducible apply W.mod (by assumption) | with_reducible apply W.mul | with_reducible apply W.sub | with_reducible apply W.add | with_reducible apply W.neg | decide))
 ·obtain ⟨q, hq, rfl⟩ := ZvH hp
  haveI : NeZero q := ⟨hq⟩
  apply Zu0
  simp only [Zph, Zs3, ZvB, ZvA, ZaA, Zpi]
  grind

end Go.Proofs.Ytfclaacaphpoaaa
