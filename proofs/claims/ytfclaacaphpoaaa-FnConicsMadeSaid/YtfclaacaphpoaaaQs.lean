import Derived.Test.YtfclaacaphpoaaaQr
set_option linter.unusedSimpArgs false
set_option linter.unusedVariables false
namespace Go.Proofs.Ytfclaacaphpoaaa
open Go.RowKit
theorem Zrl {p : Int} {n : Nat} {l : List Int} (h : lenB n 1 l = true) : Z5f p n l = Z9r p n l := by
 obtain ⟨hl, _⟩ := Z53 h
 rw [Nat.one_mul] at hl
 unfold Z5f Z9r
 rw [ZrU p true]
 by_cases hf : Zo p = true
 ·by_cases ha : ZR p l = true
  ·by_cases h6 : n = 6
   ·subst h6
    obtain ⟨a, b, c, d, e, f, rfl⟩ := Zvg hl
    have e1 : Zt p true (Z18 6 [a, b, c, d, e, f] p) = 0 := by
     unfold Zt Z18
     rw [hf, ha]
     rfl
    have e2 : Zt p true (ZR p [a, b, c, d, e, f]) = 0 := by
     unfold Zt
     rw [hf, ha]
     rfl
    rw [e1, e2]
    have key : Z02 p (a, b, c, d, e, f) = ZO p 6 [a, b, c, d, e, f] := by
     obtain ⟨K, inst, φ, H⟩ := ZdH hf
     have hp := Zx hf
     unfold ZR at ha
     simp only [List.all_cons, List.all_nil, Bool.and_true, Bool.and_eq_true, Z5v] at ha
     obtain ⟨a1, a2, a3, a4, a5, a6⟩ := ha
     have r := fun (x : Int) (hx : 0 <= x /\ x < p) => Vl.rw hp (Vl.of (φ := φ) hx)
     by_cases hn : φ a ≠ 0 \/ φ b ≠ 0 \/ φ c ≠ 0
     ·obtain ⟨u1, u2⟩ := Zei H hf (l := (a, b, c, d, e, f)) ⟨_, r a a1⟩ ⟨_, r b a2⟩ ⟨_, r c a3⟩ ⟨_, r d a4⟩ ⟨_, r e a5⟩ ⟨_, r f a6⟩ hn
      obtain ⟨w1, w2⟩ := Zan H hf ⟨_, r a a1⟩ ⟨_, r b a2⟩ ⟨_, r c a3⟩ ⟨_, r d a4⟩ ⟨_, r e a5⟩ ⟨_, r f a6⟩ hn
      exact Prod.ext (Cc.inj H u2 w2) (u1.trans w1.symm)
     ·have z : φ a = 0 /\ φ b = 0 /\ φ c = 0 := by grind
      rw [Zib H hf (l := (a, b, c, d, e, f)) (r a a1) (r b a2) (r c a3) z.1 z.2.1 z.2.2, Zny H hf (r a a1) (r b a2) (r c a3) z.1 z.2.1 z.2.2]
    show (if ((0 : Int) != 0) = true then _ else if (!(Z02 p (a, b, c, d, e, f)).2) = true then _ else ((Z02 p (a, b, c, d, e, f)).1, (0 : Int))) = _
    rw [key]
    rfl
   ·have e1 : Zt p true (Z18 n l p) = 2 := by
     unfold Zt Z18
     rw [hf]
     simp
     omega
    have e2 : Zt p true (ZR p l) = 0 := by
     unfold Zt
     rw [hf, ha]
     rfl
    rw [e1, e2, if_pos (by decide), if_neg (by decide), if_pos (by simp; omega)]
  ·have e1 : Zt p true (Z18 n l p) = 2 := by
    have : ZR p l = false := by simpa using ha
    unfold Zt Z18
    rw [hf, this]
    simp
   have e2 : Zt p true (ZR p l) = 2 := by
    have : ZR p l = false := by simpa using ha
    unfold Zt
    rw [hf, this]
    rfl
   rw [e1, e2]
   rfl
 ·have hf' : Zo p = false := by simpa using hf
  have e1 : ∀ k, Zt p true k = 1 := fun k => by
   unfold Zt
   rw [hf']
   rfl
  rw [e1, e1]
  rfl
theorem Zu5 {p : Int} (hp : Pr p) (a : P2) : Z3x p a = ZI p a := by
 unfold Z3x ZI ZR
 rw [Znr hp, Znr hp]
 simp only [List.all_cons, List.all_nil, Bool.and_true]
 cases Z0Q p a.1 <;> rfl
theorem ZqV (p : Int) (n : Nat) (l : List Int) (k : Bool) : ZB p (Z06 n l) = Zt p k (Z0c p (Z06 n l)) := by
 unfold ZB Zt Z0a
 cases h : Zo p
 ·rfl
 ·have hp := Zx h
  have e : (Z06 n l).all (fun x => Z3x p x) = Z0c p (Z06 n l) := by unfold Z0c; congr 1; funext a; exact Zu5 hp a
  rw [e]
theorem ZvI {p : Int} {pl : List Int} (hf : Zo p = true) (ha : Z0c p (Z06 5 pl) = true) : Rg p (m5 p pl) := by
 have hp := Zx hf
 have hm := Z7o hf
 have hall : ∀ i, i < 5 -> (0 <= pl.getD (i * 2) 0 /\ pl.getD (i * 2) 0 < p) /\ (0 <= pl.getD (i * 2 + 1) 0 /\ pl.getD (i * 2 + 1) 0 < p) := fun i hi => by
  have : ZI p (pl.getD (i * 2) 0, pl.getD (i * 2 + 1) 0) = true := List.all_eq_true.1 ha _ (List.mem_map.2 ⟨i, List.mem_range.2 hi, rfl⟩)
  exact Z0d this
 intro i c hi hc
 obtain ⟨hx, hy⟩ := hall i hi
 have key : ∀ a b : Int, 0 <= a /\ a < p -> 0 <= b /\ b < p -> 0 <= (wrap64 (a * b)).tmod p /\ (wrap64 (a * b)).tmod p < p := fun a b h1 h2 => by
  rw [Zrk (Z7U hp h1) (Z7U hp h2), Zec (Znz (Z7U hp h1) (Z7U hp h2)).1]
  exact ZdT hp _
 have cc : c = 0 \/ c = 1 \/ c = 2 \/ c = 3 \/ c = 4 \/ c = 5 := by omega
 unfold m5 Z4s
 rcases cc with rfl | rfl | rfl | rfl | rfl | rfl
 ·exact key _ _ hx hx
 ·exact key _ _ hx hy
 ·exact key _ _ hy hy
 ·exact hx
 ·exact hy
 ·show 0 <= (1 : Int) /\ (1 : Int) < p
  simp at hm
  omega
theorem Zsa (fu : Nat) (hfu : 20 <= fu) {p : Int} {n : Nat} {l : List Int} (h : lenB n 2 l = true) : ∃ r, Z1o fu p n l = some r /\ Z28 fu p n l = some r := by
 obtain ⟨hl, _⟩ := Z53 h
 unfold Z1o Z28 Z6h Z88
 rw [h, Bool.true_or, if_pos rfl, if_pos rfl, ZqV p n l true]
 by_cases hf : Zo p = true
 ·by_cases h5 : n = 5
  ·subst h5
   have e1 : Zq 5 l p = Z0c p (Z06 5 l) := by
    unfold Zq
    rw [if_pos (by decide)]
   rw [e1]
   by_cases ha : Z0c p (Z06 5 l) = true
   ·have e0 : Zt p true (Z0c p (Z06 5 l)) = 0 := by
     unfold Zt
     rw [hf, ha]
     rfl
    obtain ⟨K, inst, φ, H⟩ := ZdH hf
    have hm := ZvI hf ha
    have hl' : l.length = 10 := by omega
    obtain ⟨F, rfl⟩ : ∃ F, fu = F + 6 := ⟨fu - 6, by omega⟩
    obtain ⟨r, er, hr⟩ := ZwO (φ := φ) H hf hl' hm (fu := F + 6) (by omega) (F := F)
    obtain ⟨r', er', hr'⟩ := ZxJ (φ := φ) H hf hl' hm (fu := F + 6) hfu (F := F)
    have hrr := OutC.uni H hr hr'
    subst hrr
    rw [e0, if_neg (by decide), if_pos (by decide), if_neg (by decide), if_neg (by decide)]
    exact ⟨r, er, er'⟩
   ·have ha' : Z0c p (Z06 5 l) = false := by simpa using ha
    have e0 : Zt p true (Z0c p (Z06 5 l)) = 2 := by
     unfold Zt
     rw [hf, ha']
     rfl
    rw [e0, if_pos (by decide), if_neg (by decide), if_pos (by decide)]
    exact ⟨_, rfl, rfl⟩
  ·have e1 : Zq n l p = false := by
    unfold Zq
    rw [if_neg (by simp; omega)]
   have e2 : Zt p true false = 2 := by
    unfold Zt
    rw [hf]
    rfl
   rw [e1, e2, if_pos (by decide)]
   by_cases ha : Z0c p (Z06 n l) = true
   ·have e0 : Zt p true (Z0c p (Z06 n l)) = 0 := by
     unfold Zt
     rw [hf, ha]
     rfl
    rw [e0, if_pos (by decide), if_pos (by simp; omega)]
    exact ⟨_, rfl, rfl⟩
   ·have ha' : Z0c p (Z06 n l) = false := by simpa using ha
    have e0 : Zt p true (Z0c p (Z06 n l)) = 2 := by
     unfold Zt
     rw [hf, ha']
     rfl
    rw [e0, if_neg (by decide), if_pos (by decide)]
    exact ⟨_, rfl, rfl⟩
 ·have hf' : Zo p = false := by simpa using hf
  have e1 : ∀ k, Zt p true k = 1 := fun k => by
   unfold Zt
   rw [hf']
   rfl
  rw [e1, e1, if_pos (by decide), if_neg (by decide), if_pos (by decide)]
  exact ⟨_, rfl, rfl⟩
theorem Zs9 {p : Int} {n : Nat} {l : List Int} (h : lenB n 2 l = true) : Z2s p n l = true /\ Z2t p n l = true /\ Z3I p n l = Z4w p n l := by
 obtain ⟨r, e1, e2⟩ := Zsa 1000000 (by decide) (p := p) h
 exact ⟨ZdO e1, ZdP e2, (Zau e1).trans (Zha e2).symm⟩

end Go.Proofs.Ytfclaacaphpoaaa
