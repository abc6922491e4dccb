import Derived.Test.YtfclaacaphpoaaaQe
set_option linter.unusedSimpArgs false
set_option linter.unusedVariables false
namespace Go.Proofs.Ytfclaacaphpoaaa
open Go.RowKit
theorem Zu7 {p : Int} (hp : Pr p) : ∃ q : Nat, q ≠ 0 /\ (q : Int) = p := by unfold Pr at hp; exact ⟨p.toNat, by omega, by omega⟩
structure Hom (p : Int) (K : Type) [Lean.Grind.Field K] (φ : Int -> K) : Prop where
 add : ∀ x y, φ (x + y) = φ x + φ y
 mul : ∀ x y, φ (x * y) = φ x * φ y
 sub : ∀ x y, φ (x - y) = φ x - φ y
 neg : ∀ x, φ (-x) = -φ x
 mod : ∀ x, φ (x % p) = φ x
 zero : φ 0 = 0
 one : φ 1 = 1
 two : φ 2 = 2
 three : φ 3 = 3
 four : φ 4 = 4
 iff : ∀ x y, φ x = φ y ↔ x % p = y % p
 inv : ∀ x, 0 <= x -> x < p -> φ (ZA p x) = (φ x)⁻¹
 sur : ∀ k : K, ∃ x, 0 <= x /\ x < p /\ φ x = k
 self : φ p = 0
abbrev Zw6 (q : Nat) [NeZero q] (iv : Fin q -> Fin q) (h01 : (0 : Fin q) ≠ 1) (h0 : iv 0 = 0) (h1 : ∀ a : Fin q, a ≠ 0 -> a * iv a = 1) : Lean.Grind.Field (Fin q) :=
 letI : Inv (Fin q) := ⟨iv⟩
 letI : Div (Fin q) := ⟨fun a b => a * iv b⟩
 letI : HPow (Fin q) Int (Fin q) := ⟨fun a n => match n with | .ofNat k => a ^ k | .negSucc k => iv (a ^ (k + 1))⟩
 {zpow := inferInstance
  div_eq_mul_inv := fun _ _ => rfl
  zero_ne_one := h01
  inv_zero := h0
  mul_inv_cancel := fun {a} h => h1 a h
  zpow_zero := fun a => Lean.Grind.Semiring.pow_zero a
  zpow_succ := fun a n => Lean.Grind.Semiring.pow_succ a n
  zpow_neg := fun a n => by
   have ii : ∀ b : Fin q, iv (iv b) = b := by
    intro b
    by_cases hb : b = 0
    ·subst hb; rw [h0, h0]
    ·have e1 := h1 b hb
     have hn : iv b ≠ 0 := by intro e; rw [e] at e1; exact h01 (by rw [<- e1]; grind)
     have e2 := h1 (iv b) hn
     calc iv (iv b) = (b * iv b) * iv (iv b) := by rw [e1]; grind
      _ = b * (iv b * iv (iv b)) := by grind
      _ = b := by rw [e2]; grind
   have i1 : iv (1 : Fin q) = 1 := by have := h1 1 (fun e => h01 e.symm); rw [<- this]; grind
   match n with
   | .ofNat 0 => show a ^ (0 : Nat) = iv (a ^ (0 : Nat)); rw [Lean.Grind.Semiring.pow_zero, i1]
   | .ofNat (k + 1) => rfl
   | .negSucc k => show a ^ (k + 1 : Nat) = iv (iv (a ^ (k + 1 : Nat))); rw [ii] }
theorem ZdH {p : Int} (h : Zo p = true) : ∃ (K : Type) (_ : Lean.Grind.Field K) (φ : Int -> K), Hom p K φ := by
 have hp := Zx h
 obtain ⟨q, hq, rfl⟩ := Zu7 hp
 haveI : NeZero q := ⟨hq⟩
 have hfin : ∀ a : Fin q, ph q (a.val : Int) = a := by
  intro a
  apply Fin.ext
  have := Za5 q (a.val : Int)
  rw [ZwG] at this
  omega
 have hlt : ∀ a : Fin q, (0 : Int) <= (a.val : Int) /\ (a.val : Int) < (q : Int) := fun a => ⟨by omega, by have := a.isLt; omega⟩
 have hmem := Z7o h
 have q2 : (2 : Int) < q := by simp at hmem; omega
 have h01 : (0 : Fin q) ≠ 1 := by
  rw [<- ZaA q, <- Zpi q]
  intro e
  have := (Zg5 q).1 e
  rw [Int.emod_eq_of_lt (by omega) (by omega), Int.emod_eq_of_lt (by omega) (by omega)] at this
  omega
 let iv : Fin q -> Fin q := fun a => ph q (ZA (q : Int) (a.val : Int))
 have h0 : iv 0 = 0 := by
  show ph q (ZA (q : Int) (((0 : Fin q).val : Nat) : Int)) = 0
  have hv : (((0 : Fin q).val : Nat) : Int) = 0 := by simp
  rw [hv]
  have : ZA (q : Int) 0 = 0 := by
   have hall : ∀ p ∈ ([3, 5, 7, 11, 13, 17, 19, 23, 29, 31] : List Int), ZA p 0 = 0 := by decide +kernel
   exact hall _ hmem
  rw [this, ZaA]
 have h1 : ∀ a : Fin q, a ≠ 0 -> a * iv a = 1 := by
  intro a ha
  have hn : (a.val : Int) ≠ 0 := by
   intro e
   apply ha
   rw [<- hfin a, e, ZaA]
  have := (Zbn h (hlt a)).2.2.2 hn
  have e : ph q ((a.val : Int) * ZA (q : Int) (a.val : Int)) = ph q 1 := by
   rw [Zg5, this]
   exact (Int.emod_eq_of_lt (by omega) (by omega)).symm
  rw [Zs3, hfin, Zpi] at e
  exact e
 letI inst : Lean.Grind.Field (Fin q) := Zw6 q iv h01 h0 h1
 refine ⟨Fin q, inst, ph q, ?_⟩
 exact
  {add := Zph q
   mul := Zs3 q
   sub := ZvB q
   neg := Zxo q
   mod := ZvA q
   zero := ZaA q
   one := Zpi q
   two := Zs2 q 2
   three := Zs2 q 3
   four := Zs2 q 4
   iff := fun x y => Zg5 q
   inv := fun x h1 h2 => by
    show ph q (ZA (q : Int) x) = iv (ph q x)
    show _ = ph q (ZA (q : Int) ((ph q x).val : Int))
    rw [Za5, Int.emod_eq_of_lt h1 h2]
   sur := fun k => ⟨k.val, (hlt k).1, (hlt k).2, hfin k⟩
   self := Zwq q }
def Vl {K : Type} (p : Int) (φ : Int -> K) (x : Int) (k : K) : Prop := (0 <= x /\ x < p) /\ φ x = k
def Rw {K : Type} (φ : Int -> K) (x : Int) (k : K) (n : Int) : Prop := AB x n /\ φ x = k
theorem Vl.of {K : Type} {φ : Int -> K} {p x : Int} (h : 0 <= x /\ x < p) : Vl p φ x (φ x) := ⟨h, rfl⟩
theorem Vl.rw {K : Type} {φ : Int -> K} {p x : Int} {k : K} (hp : Pr p) (h : Vl p φ x k) : Rw φ x k 30 := ⟨by have := Z7U hp h.1; unfold Bd at this; unfold AB; omega, h.2⟩
theorem Rw.lit {K : Type} {φ : Int -> K} (n : Int) (h : 0 <= n) : Rw φ n (φ n) n := ⟨by unfold AB; omega, rfl⟩
theorem Rw.nlit {K : Type} {φ : Int -> K} (n : Int) (h : 0 <= n) : Rw φ (-n) (φ (-n)) n := ⟨by unfold AB; omega, rfl⟩
theorem Vl.conv {K : Type} {φ : Int -> K} {p x : Int} {k l : K} (h : Vl p φ x k) (e : k = l) : Vl p φ x l := e ▸ h
theorem Rw.conv {K : Type} {φ : Int -> K} {x n : Int} {k l : K} (h : Rw φ x k n) (e : k = l) : Rw φ x l n := e ▸ h
theorem Vl.same {K : Type} {φ : Int -> K} {p x : Int} {k l : K} (h1 : Vl p φ x k) (h2 : Vl p φ x l) : k = l := h1.2.symm.trans h2.2
section
variable {p : Int} {K : Type} [Lean.Grind.Field K] {φ : Int -> K}
theorem Hom.two_ne (H : Hom p K φ) (h : Zo p = true) : (2 : K) ≠ 0 := by
 rw [<- H.two, <- H.zero]
 intro e
 have := (H.iff _ _).1 e
 have hm := Z7o h
 simp at hm
 rw [Int.emod_eq_of_lt (by omega) (by omega), Int.emod_eq_of_lt (by omega) (by omega)] at this
 omega
theorem Hom.one_ne (H : Hom p K φ) : (1 : K) ≠ 0 := fun e => Lean.Grind.Field.zero_ne_one e.symm
theorem Vl.inj {x y : Int} {k : K} (H : Hom p K φ) (h1 : Vl p φ x k) (h2 : Vl p φ y k) : x = y := by
 have := (H.iff x y).1 (h1.2.trans h2.2.symm)
 rwa [Zvq h1.1, Zvq h2.1] at this
theorem Vl.eq_iff {x y : Int} {k l : K} (H : Hom p K φ) (h1 : Vl p φ x k) (h2 : Vl p φ y l) : x = y ↔ k = l := by
 constructor
 ·rintro rfl; rw [<- h1.2, <- h2.2]
 ·rintro rfl; exact Vl.inj H h1 h2
theorem Vl.zero_iff {x : Int} {k : K} (H : Hom p K φ) (h1 : Vl p φ x k) : x = 0 ↔ k = 0 := by
 have h0 : Vl p φ 0 0 := ⟨⟨Int.le_refl _, by have := h1.1; omega⟩, H.zero⟩
 exact Vl.eq_iff H h1 h0
theorem Vl.zero (H : Hom p K φ) (hp : Pr p) : Vl p φ 0 0 := ⟨⟨Int.le_refl _, by unfold Pr at hp; omega⟩, H.zero⟩
theorem Vl.one (H : Hom p K φ) (h : Zo p = true) : Vl p φ 1 1 := ⟨⟨by omega, by have hm := Z7o h; simp at hm; omega⟩, H.one⟩
theorem Rw.mul {x y m n : Int} {k l : K} (H : Hom p K φ) (h1 : Rw φ x k m) (h2 : Rw φ y l n) (h : m * n <= 1000000000000) : Rw φ (wrap64 (x * y)) (k * l) (m * n) := by
 have b := AB.mul h1.1 h2.1
 rw [w64 (by unfold AB at b; omega)]
 exact ⟨b, by rw [H.mul, h1.2, h2.2]⟩
theorem Rw.add {x y m n : Int} {k l : K} (H : Hom p K φ) (h1 : Rw φ x k m) (h2 : Rw φ y l n) (h : m + n <= 1000000000000) : Rw φ (wrap64 (x + y)) (k + l) (m + n) := by
 have b1 := h1.1; have b2 := h2.1
 unfold AB at b1 b2
 rw [w64 (by omega)]
 exact ⟨by unfold AB; omega, by rw [H.add, h1.2, h2.2]⟩
theorem Rw.sub {x y m n : Int} {k l : K} (H : Hom p K φ) (h1 : Rw φ x k m) (h2 : Rw φ y l n) (h : m + n <= 1000000000000) : Rw φ (wrap64 (x - y)) (k - l) (m + n) := by
 have b1 := h1.1; have b2 := h2.1
 unfold AB at b1 b2
 rw [w64 (by omega)]
 exact ⟨by unfold AB; omega, by rw [H.sub, h1.2, h2.2]⟩
theorem Rw.neg0 {y n : Int} {l : K} (H : Hom p K φ) (h2 : Rw φ y l n) (h : n <= 1000000000000) : Rw φ (wrap64 (0 - y)) (-l) n := by
 have b2 := h2.1
 unfold AB at b2
 rw [w64 (by omega)]
 exact ⟨by unfold AB; omega, by rw [H.sub, H.zero, h2.2]; grind⟩
theorem ZwE {x p : Int} (hp : Pr p) : AB (x.tmod p) 30 := by
 have h := Ztn x p hp.1
 unfold Pr at hp; unfold AB; omega
theorem Hom.tmod (H : Hom p K φ) (x : Int) : φ (x.tmod p) = φ x := by
 rw [H.iff]
 conv => rhs; rw [<- Int.mul_tdiv_add_tmod x p, Int.add_comm, Int.add_mul_emod_self_left]
theorem Rw.tmod {x n : Int} {k : K} (H : Hom p K φ) (hp : Pr p) (h1 : Rw φ x k n) : Rw φ (x.tmod p) k 30 := ⟨ZwE hp, by rw [H.tmod, h1.2]⟩
theorem Vl.rest {x n : Int} {k : K} (H : Hom p K φ) (hp : Pr p) (h1 : Rw φ x k n) : Vl p φ (Z1 p x) k := ⟨ZdT hp x, by unfold Z1; rw [H.mod, h1.2]⟩
theorem Vl.smod {x n : Int} {k : K} (H : Hom p K φ) (hp : Pr p) (h1 : Rw φ x k n) : Vl p φ (Z4 x p) k := ⟨ZdT hp x, by unfold Z4; rw [H.mod, h1.2]⟩
theorem Vl.inv {x : Int} {k : K} (H : Hom p K φ) (h : Zo p = true) (h1 : Vl p φ x k) : Vl p φ (ZA p x) k⁻¹ :=
 ⟨⟨(Zbn h h1.1).2.1, (Zbn h h1.1).2.2.1⟩, by rw [H.inv x h1.1.1 h1.1.2, h1.2]⟩
theorem Vl.sinv {x : Int} {k : K} (H : Hom p K φ) (h : Zo p = true) (h1 : φ x = k) : Vl p φ (Zn x p) k⁻¹ := by
 rw [Zwd h]
 exact Vl.inv H h ⟨ZdT (Zx h) x, by rw [H.mod, h1]⟩
theorem Vl.sinvR {x n : Int} {k : K} (H : Hom p K φ) (h : Zo p = true) (h1 : Rw φ x k n) : Vl p φ (Zn x p) k⁻¹ := Vl.sinv H h h1.2
theorem Vl.sinvV {x : Int} {k : K} (H : Hom p K φ) (h : Zo p = true) (h1 : Vl p φ x k) : Vl p φ (Zn x p) k⁻¹ := Vl.sinv H h h1.2
theorem Vl.div {x y n : Int} {k l : K} (H : Hom p K φ) (h : Zo p = true) (h1 : Rw φ x k n) (h2 : Vl p φ y l) (hn : n * 30 <= 1000000000000) : Vl p φ (Z5 p x y) (k * l⁻¹) := by
 unfold Z5
 exact Vl.rest H (Zx h) (Rw.mul H h1 (Vl.rw (Zx h) (Vl.inv H h h2)) hn)
end

end Go.Proofs.Ytfclaacaphpoaaa
