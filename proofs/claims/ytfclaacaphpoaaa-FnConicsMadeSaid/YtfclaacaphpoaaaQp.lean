import Derived.Test.YtfclaacaphpoaaaQo
set_option linter.unusedSimpArgs false
set_option linter.unusedVariables false
namespace Go.Proofs.Ytfclaacaphpoaaa
open Go.RowKit
theorem Zhv (p : Int) (k : P6) : Z0r p k = Z6M p k := by
 unfold Z0r Z6M Z1Z
 rw [Zoj p true]
 by_cases h : Zt p true (Z0Z p k) = 0
 ·obtain ⟨hf, hk⟩ := Z9V h
  have e : (pts p).filter (fun a => Z2n a p k) = (pts p).filter (fun a => Z0h p k a == 0) := by
   apply Zqk
   intro a ha
   have ha := Zkp.1 ha
   have hb : ZI p a = true := by simp [ZI, ZR, Z0Q]; omega
   exact ZlK hf hk hb
  unfold Z5u Z5r
  dsimp only
  rw [e]
 ·simp [h]
theorem Zjo (p : Int) (k : P6) : lenB (Z6M p k).1.1 2 (Z6M p k).1.2 = true := by
 unfold Z6M Z5r
 split
 ·rfl
 ·rename_i h
  have hl := Zkt (ZqH h)
  exact ZxD (Nat.le_trans (List.length_filter_le _ _) (by omega))

end Go.Proofs.Ytfclaacaphpoaaa
