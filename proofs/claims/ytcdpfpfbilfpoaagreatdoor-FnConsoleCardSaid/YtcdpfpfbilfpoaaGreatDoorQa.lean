import Derived.Test.YtcdpfpfbilfpoaaGreatDoorFa
import Derived.Test.YtcdpfpfbilfpoaaGreatDoorDn
set_option linter.unusedSimpArgs false
set_option linter.unusedVariables false
namespace Go.Proofs.YtcdpfpfbilfpoaaGreatDoor
open Go.RowKit
theorem w64 {n : Int} (h : -1000000000000 <= n /\ n <= 1000000000000) : wrap64 n = n := by unfold wrap64; omega
def Bd (x : Int) : Prop := 0 <= x /\ x <= 30
theorem Pr.wr {p : Int} (h : Pr p) : wrap64 (p - 1) = p - 1 := by unfold Pr at h; exact w64 (by omega)
theorem Zak {p : Int} (hp : Pr p) (x : Int) : 0 <= x % p /\ x % p < p := by
 obtain ⟨h1, h2⟩ := hp
 exact ⟨Int.emod_nonneg x (by omega), Int.emod_lt_of_pos x (by omega)⟩
theorem ZPH {p x : Int} (hp : Pr p) (h : 0 <= x /\ x < p) : Bd x := by unfold Pr at hp; unfold Bd; omega
theorem ZPo {p : Int} (hp : Pr p) (x : Int) : Bd (x % p) := ZPH hp (Zak hp x)
theorem ZOn {p x : Int} (h : 0 <= x /\ x < p) : x % p = x := Int.emod_eq_of_lt h.1 h.2
theorem Z7B {p : Int} (h : Z6 p = true) : p ∈ [3, 5, 7, 11, 13, 17, 19, 23, 29, 31] := by
 simp [Z6] at h; simp; omega
theorem ZP3 : ∀ p ∈ ([3, 5, 7, 11, 13, 17, 19, 23, 29, 31] : List Int), ∀ x ∈ List.range p.toNat, Z1C p (x : Int) = ZB (x : Int) p /\ 0 <= Z1C p (x : Int) /\ Z1C p (x : Int) < p /\ (x ≠ 0 -> ((x : Int) * Z1C p (x : Int)) % p = 1) := by decide +kernel
theorem ZnL {p x : Int} (h : Z6 p = true) (hx : 0 <= x /\ x < p) : Z1C p x = ZB x p /\ 0 <= Z1C p x /\ Z1C p x < p /\ (x ≠ 0 -> (x * Z1C p x) % p = 1) := by
 have := ZP3 p (Z7B h) x.toNat (by simp; omega)
 rw [show ((x.toNat : Nat) : Int) = x from by omega] at this
 exact ⟨this.1, this.2.1, this.2.2.1, fun hn => this.2.2.2 (by omega)⟩
theorem ZOI {p : Int} (x : Int) : ZB x p = ZB (x % p) p := by
 unfold ZB Zi
 rw [Int.emod_emod]
theorem ZP4 {p : Int} (h : Z6 p = true) (x : Int) : ZB x p = Z1C p (x % p) := by
 rw [ZOI, (ZnL h (Zak (Zy h) x)).1]
theorem Z1c {p x : Int} : Z0p p x = true ↔ (0 <= x /\ x < p) := by simp [Z0p]
theorem ZO8 {p x : Int} (hp : Pr p) : Z1U x 0 (wrap64 (p - 1)) = Z0p p x := by
 rw [Pr.wr hp]; unfold Z1U Z0p; congr 1; exact decide_eq_decide.2 (by omega)
theorem ZgR (p : Int) (k : Bool) (l : List Int) : Z00 p l = ZK p k (ZM p l) := by
 unfold Z00 ZK Z06
 cases h : Z6 p
 ·rfl
 ·have hp := Zy h
  have e : l.all (fun a => Z1U a 0 (wrap64 (p - 1))) = ZM p l := by unfold ZM; congr 1; funext a; exact ZO8 hp
  rw [e]
theorem ZPC (q : Nat) (a : Fin q) : ((a.val : Int)) % (q : Int) = (a.val : Int) := Int.emod_eq_of_lt (by omega) (by have := a.isLt; omega)
section
variable (q : Nat) [NeZero q]
theorem ZQN (x : Int) : (x % (q : Int)).toNat < q := by
 have h : (0 : Int) < q := by have := NeZero.ne q; omega
 have h1 := Int.emod_lt_of_pos x h
 have h2 := Int.emod_nonneg x (show (q : Int) ≠ 0 by omega)
 omega
def ph (x : Int) : Fin q := ⟨(x % (q : Int)).toNat, ZQN q x⟩
theorem ZgV (x : Int) : ((ph q x).val : Int) = x % q := by
 have h : (q : Int) ≠ 0 := by have := NeZero.ne q; omega
 have h2 := Int.emod_nonneg x h
 show (((x % (q : Int)).toNat : Nat) : Int) = _
 omega
theorem Zvl {x y : Int} : ph q x = ph q y ↔ x % q = y % q := by
 rw [<- ZgV, <- ZgV]
 constructor
 ·intro h; rw [h]
 ·intro h; exact Fin.ext (by omega)
theorem ZQp (x : Int) : ph q (x % q) = ph q x := by rw [Zvl, Int.emod_emod]
theorem ZKK (x y : Int) : ph q (x + y) = ph q x + ph q y := by
 apply Fin.ext
 have h : ((ph q x + ph q y).val : Int) = (((ph q x).val : Int) + (ph q y).val) % q := by rw [Fin.val_add]; simp
 have h2 := ZgV q (x + y)
 rw [ZgV, ZgV, <- Int.add_emod, <- h2] at h
 omega
theorem ZOv (x y : Int) : ph q (x * y) = ph q x * ph q y := by
 apply Fin.ext
 have h : ((ph q x * ph q y).val : Int) = (((ph q x).val : Int) * (ph q y).val) % q := by rw [Fin.val_mul]; simp
 have h2 := ZgV q (x * y)
 rw [ZgV, ZgV, <- Int.mul_emod, <- h2] at h
 omega
theorem ZKM (n : Nat) : ph q (n : Int) = Fin.ofNat q n := by
 apply Fin.ext
 have h := ZgV q (n : Int)
 have h2 : ((Fin.ofNat q n).val : Int) = (n : Int) % q := by simp [Fin.ofNat]
 omega
theorem Zks : ph q 0 = 0 := ZKM q 0
theorem ZKN : ph q 1 = 1 := ZKM q 1
theorem ZKL (n : Nat) : ph q (no_index (OfNat.ofNat n) : Int) = OfNat.ofNat n := ZKM q n
theorem ZPi : ph q (q : Int) = 0 := by rw [<- Zks, Zvl]; simp
theorem ZQq (x : Int) : ph q (-x) = -ph q x := by
 have h : ph q (-x) + ph q x = 0 := by rw [<- ZKK, <- Zks]; congr 1; omega
 grind
theorem ZQr (x y : Int) : ph q (x - y) = ph q x - ph q y := by
 have h : ph q (x - y) + ph q y = ph q x := by rw [<- ZKK]; congr 1; omega
 grind
theorem zero_iff {x : Int} : x % q = 0 ↔ ph q x = 0 := by rw [<- Zks, Zvl]; simp
end

def AB (x n : Int) : Prop := -n <= x /\ x <= n
def W (x y n : Int) : Prop := x = y /\ AB y n
theorem AB.mul {x y m n : Int} (h1 : AB x m) (h2 : AB y n) : AB (x * y) (m * n) := by
 obtain ⟨a1, a2⟩ := h1; obtain ⟨b1, b2⟩ := h2
 have e1 := Int.mul_nonneg (show 0 <= m - x by omega) (show 0 <= n + y by omega)
 have e2 := Int.mul_nonneg (show 0 <= m + x by omega) (show 0 <= n - y by omega)
 have e3 := Int.mul_nonneg (show 0 <= m - x by omega) (show 0 <= n - y by omega)
 have e4 := Int.mul_nonneg (show 0 <= m + x by omega) (show 0 <= n + y by omega)
 simp only [Int.sub_mul, Int.add_mul, Int.mul_sub, Int.mul_add] at e1 e2 e3 e4
 exact ⟨by omega, by omega⟩
theorem W.mul {x y x' y' m n : Int} (h1 : W x x' m) (h2 : W y y' n) (h : m * n <= 1000000000000) : W (wrap64 (x * y)) (x' * y') (m * n) := by
 obtain ⟨rfl, h1⟩ := h1; obtain ⟨rfl, h2⟩ := h2
 have b := AB.mul h1 h2
 exact ⟨w64 (by unfold AB at b; omega), b⟩
theorem W.add {x y x' y' m n : Int} (h1 : W x x' m) (h2 : W y y' n) (h : m + n <= 1000000000000) : W (wrap64 (x + y)) (x' + y') (m + n) := by
 obtain ⟨rfl, h1⟩ := h1; obtain ⟨rfl, h2⟩ := h2
 unfold AB at h1 h2
 exact ⟨w64 (by omega), by unfold AB; omega⟩
theorem W.sub {x y x' y' m n : Int} (h1 : W x x' m) (h2 : W y y' n) (h : m + n <= 1000000000000) : W (wrap64 (x - y)) (x' - y') (m + n) := by
 obtain ⟨rfl, h1⟩ := h1; obtain ⟨rfl, h2⟩ := h2
 unfold AB at h1 h2
 exact ⟨w64 (by omega), by unfold AB; omega⟩
theorem W.neg {x x' m : Int} (h1 : W x x' m) (h : m <= 1000000000000) : W (wrap64 (-x)) (-x') m := by
 obtain ⟨rfl, h1⟩ := h1
 unfold AB at h1
 exact ⟨w64 (by omega), by unfold AB; omega⟩
theorem W.mod {p x x' m : Int} (hp : Pr p) (h : W x x' m) : W (x % p) (x' % p) 30 := ⟨by rw [h.1], by have := ZPo hp x'; unfold Bd at this; unfold AB; omega⟩
theorem W.rest {p x x' m : Int} (hp : Pr p) (h : W x x' m) : W (ZF p x) (x' % p) 30 := W.mod hp h
theorem W.smod {p x x' m : Int} (hp : Pr p) (h : W x x' m) : W (Zi x p) (x' % p) 30 := W.mod hp h
theorem W.lit (n : Int) (h : 0 <= n) : W n n n := ⟨rfl, by unfold AB; omega⟩
theorem ZN4 {p : Int} (hp : Pr p) : ∃ q : Nat, q ≠ 0 /\ (q : Int) = p := by unfold Pr at hp; exact ⟨p.toNat, by omega, by omega⟩
structure Hom (p : Int) (K : Type) [Lean.Grind.Field K] (φ : Int -> K) : Prop where
 add : ∀ x y, φ (x + y) = φ x + φ y
 mul : ∀ x y, φ (x * y) = φ x * φ y
 sub : ∀ x y, φ (x - y) = φ x - φ y
 neg : ∀ x, φ (-x) = -φ x
 mod : ∀ x, φ (x % p) = φ x
 zero : φ 0 = 0
 one : φ 1 = 1
 two : φ 2 = 2
 three : φ 3 = 3
 four : φ 4 = 4
 iff : ∀ x y, φ x = φ y ↔ x % p = y % p
 inv : ∀ x, 0 <= x -> x < p -> φ (Z1C p x) = (φ x)⁻¹
 sur : ∀ k : K, ∃ x, 0 <= x /\ x < p /\ φ x = k
 self : φ p = 0
abbrev ZP2 (q : Nat) [NeZero q] (iv : Fin q -> Fin q) (h01 : (0 : Fin q) ≠ 1) (h0 : iv 0 = 0) (h1 : ∀ a : Fin q, a ≠ 0 -> a * iv a = 1) : Lean.Grind.Field (Fin q) :=
 letI : Inv (Fin q) := ⟨iv⟩
 letI : Div (Fin q) := ⟨fun a b => a * iv b⟩
 letI : HPow (Fin q) Int (Fin q) := ⟨fun a n => match n with | .ofNat k => a ^ k | .negSucc k => iv (a ^ (k + 1))⟩
 {zpow := inferInstance
  div_eq_mul_inv := fun _ _ => rfl
  zero_ne_one := h01
  inv_zero := h0
  mul_inv_cancel := fun {a} h => h1 a h
  zpow_zero := fun a => Lean.Grind.Semiring.pow_zero a
  zpow_succ := fun a n => Lean.Grind.Semiring.pow_succ a n
  zpow_neg := fun a n => by
   have ii : ∀ b : Fin q, iv (iv b) = b := by
    intro b
    by_cases hb : b = 0
    ·subst hb; rw [h0, h0]
    ·have e1 := h1 b hb
     have hn : iv b ≠ 0 := by intro e; rw [e] at e1; exact h01 (by rw [<- e1]; grind)
     have e2 := h1 (iv b) hn
     calc iv (iv b) = (b * iv b) * iv (iv b) := by rw [e1]; grind
      _ = b * (iv b * iv (iv b)) := by grind
      _ = b := by rw [e2]; grind
   have i1 : iv (1 : Fin q) = 1 := by have := h1 1 (fun e => h01 e.symm); rw [<- this]; grind
   match n with
   | .ofNat 0 => show a ^ (0 : Nat) = iv (a ^ (0 : Nat)); rw [Lean.Grind.Semiring.pow_zero, i1]
   | .ofNat (k + 1) => rfl
   | .negSucc k => show a ^ (k + 1 : Nat) = iv (iv (a ^ (k + 1 : Nat))); rw [ii] }
theorem Z7C {p : Int} (h : Z6 p = true) : ∃ (K : Type) (_ : Lean.Grind.Field K) (φ : Int -> K), Hom p K φ := by
 have hp := Zy h
 obtain ⟨q, hq, rfl⟩ := ZN4 hp
 haveI : NeZero q := ⟨hq⟩
 have hfin : ∀ a : Fin q, ph q (a.val : Int) = a := by
  intro a
  apply Fin.ext
  have := ZgV q (a.val : Int)
  rw [ZPC] at this
  omega
 have hlt : ∀ a : Fin q, (0 : Int) <= (a.val : Int) /\ (a.val : Int) < (q : Int) := fun a => ⟨by omega, by have := a.isLt; omega⟩
 have hmem := Z7B h
 have q2 : (2 : Int) < q := by simp at hmem; omega
 have h01 : (0 : Fin q) ≠ 1 := by
  rw [<- Zks q, <- ZKN q]
  intro e
  have := (Zvl q).1 e
  rw [Int.emod_eq_of_lt (by omega) (by omega), Int.emod_eq_of_lt (by omega) (by omega)] at this
  omega
 let iv : Fin q -> Fin q := fun a => ph q (Z1C (q : Int) (a.val : Int))
 have h0 : iv 0 = 0 := by
  show ph q (Z1C (q : Int) (((0 : Fin q).val : Nat) : Int)) = 0
  have hv : (((0 : Fin q).val : Nat) : Int) = 0 := by simp
  rw [hv]
  have : Z1C (q : Int) 0 = 0 := by
   have hall : ∀ p ∈ ([3, 5, 7, 11, 13, 17, 19, 23, 29, 31] : List Int), Z1C p 0 = 0 := by decide +kernel
   exact hall _ hmem
  rw [this, Zks]
 have h1 : ∀ a : Fin q, a ≠ 0 -> a * iv a = 1 := by
  intro a ha
  have hn : (a.val : Int) ≠ 0 := by
   intro e
   apply ha
   rw [<- hfin a, e, Zks]
  have := (ZnL h (hlt a)).2.2.2 hn
  have e : ph q ((a.val : Int) * Z1C (q : Int) (a.val : Int)) = ph q 1 := by
   rw [Zvl, this]
   exact (Int.emod_eq_of_lt (by omega) (by omega)).symm
  rw [ZOv, hfin, ZKN] at e
  exact e
 letI inst : Lean.Grind.Field (Fin q) := ZP2 q iv h01 h0 h1
 refine ⟨Fin q, inst, ph q, ?_⟩
 exact
  {add := ZKK q
   mul := ZOv q
   sub := ZQr q
   neg := ZQq q
   mod := ZQp q
   zero := Zks q
   one := ZKN q
   two := ZKL q 2
   three := ZKL q 3
   four := ZKL q 4
   iff := fun x y => Zvl q
   inv := fun x h1 h2 => by
    show ph q (Z1C (q : Int) x) = iv (ph q x)
    show _ = ph q (Z1C (q : Int) ((ph q x).val : Int))
    rw [ZgV, Int.emod_eq_of_lt h1 h2]
   sur := fun k => ⟨k.val, (hlt k).1, (hlt k).2, hfin k⟩
   self := ZPi q }
def Vl {K : Type} (p : Int) (φ : Int -> K) (x : Int) (k : K) : Prop := (0 <= x /\ x < p) /\ φ x = k
def Rw {K : Type} (φ : Int -> K) (x : Int) (k : K) (n : Int) : Prop := AB x n /\ φ x = k
theorem Vl.of {K : Type} {φ : Int -> K} {p x : Int} (h : 0 <= x /\ x < p) : Vl p φ x (φ x) := ⟨h, rfl⟩
theorem Vl.rw {K : Type} {φ : Int -> K} {p x : Int} {k : K} (hp : Pr p) (h : Vl p φ x k) : Rw φ x k 30 := ⟨by have := ZPH hp h.1; unfold Bd at this; unfold AB; omega, h.2⟩
theorem Rw.lit {K : Type} {φ : Int -> K} (n : Int) (h : 0 <= n) : Rw φ n (φ n) n := ⟨by unfold AB; omega, rfl⟩
theorem Rw.nlit {K : Type} {φ : Int -> K} (n : Int) (h : 0 <= n) : Rw φ (-n) (φ (-n)) n := ⟨by unfold AB; omega, rfl⟩
theorem Vl.conv {K : Type} {φ : Int -> K} {p x : Int} {k l : K} (h : Vl p φ x k) (e : k = l) : Vl p φ x l := e ▸ h
theorem Rw.conv {K : Type} {φ : Int -> K} {x n : Int} {k l : K} (h : Rw φ x k n) (e : k = l) : Rw φ x l n := e ▸ h
section
variable {p : Int} {K : Type} [Lean.Grind.Field K] {φ : Int -> K}
theorem Hom.two_ne (H : Hom p K φ) (h : Z6 p = true) : (2 : K) ≠ 0 := by
 rw [<- H.two, <- H.zero]
 intro e
 have := (H.iff _ _).1 e
 have hm := Z7B h
 simp at hm
 rw [Int.emod_eq_of_lt (by omega) (by omega), Int.emod_eq_of_lt (by omega) (by omega)] at this
 omega
theorem Hom.one_ne (H : Hom p K φ) : (1 : K) ≠ 0 := fun e => Lean.Grind.Field.zero_ne_one e.symm
theorem Vl.inj {x y : Int} {k : K} (H : Hom p K φ) (h1 : Vl p φ x k) (h2 : Vl p φ y k) : x = y := by
 have := (H.iff x y).1 (h1.2.trans h2.2.symm)
 rwa [ZOn h1.1, ZOn h2.1] at this
theorem Vl.eq_iff {x y : Int} {k l : K} (H : Hom p K φ) (h1 : Vl p φ x k) (h2 : Vl p φ y l) : x = y ↔ k = l := by
 constructor
 ·rintro rfl; rw [<- h1.2, <- h2.2]
 ·rintro rfl; exact Vl.inj H h1 h2
theorem Vl.zero_iff {x : Int} {k : K} (H : Hom p K φ) (h1 : Vl p φ x k) : x = 0 ↔ k = 0 := by
 have h0 : Vl p φ 0 0 := ⟨⟨Int.le_refl _, by have := h1.1; omega⟩, H.zero⟩
 exact Vl.eq_iff H h1 h0
theorem Vl.zero (H : Hom p K φ) (hp : Pr p) : Vl p φ 0 0 := ⟨⟨Int.le_refl _, by unfold Pr at hp; omega⟩, H.zero⟩
theorem Vl.one (H : Hom p K φ) (h : Z6 p = true) : Vl p φ 1 1 := ⟨⟨by omega, by have hm := Z7B h; simp at hm; omega⟩, H.one⟩
theorem Rw.mul {x y m n : Int} {k l : K} (H : Hom p K φ) (h1 : Rw φ x k m) (h2 : Rw φ y l n) (h : m * n <= 1000000000000) : Rw φ (wrap64 (x * y)) (k * l) (m * n) := by
 have b := AB.mul h1.1 h2.1
 rw [w64 (by unfold AB at b; omega)]
 exact ⟨b, by rw [H.mul, h1.2, h2.2]⟩
theorem Rw.add {x y m n : Int} {k l : K} (H : Hom p K φ) (h1 : Rw φ x k m) (h2 : Rw φ y l n) (h : m + n <= 1000000000000) : Rw φ (wrap64 (x + y)) (k + l) (m + n) := by
 have b1 := h1.1; have b2 := h2.1
 unfold AB at b1 b2
 rw [w64 (by omega)]
 exact ⟨by unfold AB; omega, by rw [H.add, h1.2, h2.2]⟩
theorem Rw.sub {x y m n : Int} {k l : K} (H : Hom p K φ) (h1 : Rw φ x k m) (h2 : Rw φ y l n) (h : m + n <= 1000000000000) : Rw φ (wrap64 (x - y)) (k - l) (m + n) := by
 have b1 := h1.1; have b2 := h2.1
 unfold AB at b1 b2
 rw [w64 (by omega)]
 exact ⟨by unfold AB; omega, by rw [H.sub, h1.2, h2.2]⟩
theorem Rw.neg0 {y n : Int} {l : K} (H : Hom p K φ) (h2 : Rw φ y l n) (h : n <= 1000000000000) : Rw φ (wrap64 (0 - y)) (-l) n := by
 have b2 := h2.1
 unfold AB at b2
 rw [w64 (by omega)]
 exact ⟨by unfold AB; omega, by rw [H.sub, H.zero, h2.2]; grind⟩
theorem ZPx {x p : Int} (hp : Pr p) : AB (x.tmod p) 30 := by
 have h := ZMg x p hp.1
 unfold Pr at hp; unfold AB; omega
theorem Hom.tmod (H : Hom p K φ) (x : Int) : φ (x.tmod p) = φ x := by
 rw [H.iff]
 conv => rhs; rw [<- Int.mul_tdiv_add_tmod x p, Int.add_comm, Int.add_mul_emod_self_left]
theorem Rw.tmod {x n : Int} {k : K} (H : Hom p K φ) (hp : Pr p) (h1 : Rw φ x k n) : Rw φ (x.tmod p) k 30 := ⟨ZPx hp, by rw [H.tmod, h1.2]⟩
theorem Vl.rest {x n : Int} {k : K} (H : Hom p K φ) (hp : Pr p) (h1 : Rw φ x k n) : Vl p φ (ZF p x) k := ⟨Zak hp x, by unfold ZF; rw [H.mod, h1.2]⟩
theorem Vl.smod {x n : Int} {k : K} (H : Hom p K φ) (hp : Pr p) (h1 : Rw φ x k n) : Vl p φ (Zi x p) k := ⟨Zak hp x, by unfold Zi; rw [H.mod, h1.2]⟩
theorem Vl.inv {x : Int} {k : K} (H : Hom p K φ) (h : Z6 p = true) (h1 : Vl p φ x k) : Vl p φ (Z1C p x) k⁻¹ :=
 ⟨⟨(ZnL h h1.1).2.1, (ZnL h h1.1).2.2.1⟩, by rw [H.inv x h1.1.1 h1.1.2, h1.2]⟩
theorem Vl.sinv {x : Int} {k : K} (H : Hom p K φ) (h : Z6 p = true) (h1 : φ x = k) : Vl p φ (ZB x p) k⁻¹ := by
 rw [ZP4 h]
 exact Vl.inv H h ⟨Zak (Zy h) x, by rw [H.mod, h1]⟩
theorem Vl.sinvR {x n : Int} {k : K} (H : Hom p K φ) (h : Z6 p = true) (h1 : Rw φ x k n) : Vl p φ (ZB x p) k⁻¹ := Vl.sinv H h h1.2
theorem Vl.sinvV {x : Int} {k : K} (H : Hom p K φ) (h : Z6 p = true) (h1 : Vl p φ x k) : Vl p φ (ZB x p) k⁻¹ := Vl.sinv H h h1.2
theorem Vl.div {x y n : Int} {k l : K} (H : Hom p K φ) (h : Z6 p = true) (h1 : Rw φ x k n) (h2 : Vl p φ y l) (hn : n * 30 <= 1000000000000) : Vl p φ (Z0L p x y) (k * l⁻¹) := by
 unfold Z0L
 exact Vl.rest H (Zy h) (Rw.mul H h1 (Vl.rw (Zy h) (Vl.inv H h h2)) hn)
end

end Go.Proofs.YtcdpfpfbilfpoaaGreatDoor
