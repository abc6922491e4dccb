import Derived.Test.YtikfglnhkjoioaaDn
set_option linter.unusedSimpArgs false
set_option linter.unusedVariables false
namespace Go.Proofs.Ytikfglnhkjoioaa
open Go.RowKit
def dec_i : List TR → Option (Int)
  | [.v (.int .i64 x0)] => some x0
  | _ => none
def enc_i : Int → List TR
  | x0 => [.v (.int .i64 x0)]
theorem de_i (rs : List TR) (x : Int) (h : dec_i rs = some x) : rs = enc_i x := by
  unfold dec_i at h
  split at h
  · simp only [Option.some.injEq] at h
    subst h
    rfl
  · cases h
def dec_a2 : List TR → Option (Int × Int)
  | [.v (.agg ⟨[.int .i64 x0_0, .int .i64 x0_1]⟩)] => some (x0_0, x0_1)
  | _ => none
def enc_a2 : Int × Int → List TR
  | (x0_0, x0_1) => [.v (.agg ⟨[.int .i64 x0_0, .int .i64 x0_1]⟩)]
theorem de_a2 (rs : List TR) (x : Int × Int) (h : dec_a2 rs = some x) : rs = enc_a2 x := by
  unfold dec_a2 at h
  split at h
  · simp only [Option.some.injEq] at h
    subst h
    rfl
  · cases h
def dec_l48_2 : List TR → Option (Nat × List Int)
  | [.s 48 2 n0 (.ints x0)] => some (n0, x0)
  | _ => none
def enc_l48_2 : Nat × List Int → List TR
  | (n0, x0) => [.s 48 2 n0 (.ints x0)]
theorem de_l48_2 (rs : List TR) (x : Nat × List Int) (h : dec_l48_2 rs = some x) : rs = enc_l48_2 x := by
  unfold dec_l48_2 at h
  split at h
  · simp only [Option.some.injEq] at h
    subst h
    rfl
  · cases h
def dec_b : List TR → Option (Bool)
  | [.v (.bool x0)] => some x0
  | _ => none
def enc_b : Bool → List TR
  | x0 => [.v (.bool x0)]
theorem de_b (rs : List TR) (x : Bool) (h : dec_b rs = some x) : rs = enc_b x := by
  unfold dec_b at h
  split at h
  · simp only [Option.some.injEq] at h
    subst h
    rfl
  · cases h
def dec_l2_1 : List TR → Option (Nat × List Int)
  | [.s 2 1 n0 (.ints x0)] => some (n0, x0)
  | _ => none
def enc_l2_1 : Nat × List Int → List TR
  | (n0, x0) => [.s 2 1 n0 (.ints x0)]
theorem de_l2_1 (rs : List TR) (x : Nat × List Int) (h : dec_l2_1 rs = some x) : rs = enc_l2_1 x := by
  unfold dec_l2_1 at h
  split at h
  · simp only [Option.some.injEq] at h
    subst h
    rfl
  · cases h
def dec_d22 : List TR → Option (List (List Int))
  | [.d 22 x0] => some x0
  | _ => none
def enc_d22 : List (List Int) → List TR
  | x0 => [.d 22 x0]
theorem de_d22 (rs : List TR) (x : List (List Int)) (h : dec_d22 rs = some x) : rs = enc_d22 x := by
  unfold dec_d22 at h
  split at h
  · simp only [Option.some.injEq] at h
    subst h
    rfl
  · cases h
def dec_a6_b : List TR → Option ((Int × Int × Int × Int × Int × Int) × Bool)
  | [.v (.agg ⟨[.int .i64 x0_0, .int .i64 x0_1, .int .i64 x0_2, .int .i64 x0_3, .int .i64 x0_4, .int .i64 x0_5]⟩), .v (.bool x1)] => some ((x0_0, x0_1, x0_2, x0_3, x0_4, x0_5), x1)
  | _ => none
def enc_a6_b : (Int × Int × Int × Int × Int × Int) × Bool → List TR
  | ((x0_0, x0_1, x0_2, x0_3, x0_4, x0_5), x1) => [.v (.agg ⟨[.int .i64 x0_0, .int .i64 x0_1, .int .i64 x0_2, .int .i64 x0_3, .int .i64 x0_4, .int .i64 x0_5]⟩), .v (.bool x1)]
theorem de_a6_b (rs : List TR) (x : (Int × Int × Int × Int × Int × Int) × Bool) (h : dec_a6_b rs = some x) : rs = enc_a6_b x := by
  unfold dec_a6_b at h
  split at h
  · simp only [Option.some.injEq] at h
    subst h
    rfl
  · cases h
def dec_a6_i : List TR → Option ((Int × Int × Int × Int × Int × Int) × Int)
  | [.v (.agg ⟨[.int .i64 x0_0, .int .i64 x0_1, .int .i64 x0_2, .int .i64 x0_3, .int .i64 x0_4, .int .i64 x0_5]⟩), .v (.int .i64 x1)] => some ((x0_0, x0_1, x0_2, x0_3, x0_4, x0_5), x1)
  | _ => none
def enc_a6_i : (Int × Int × Int × Int × Int × Int) × Int → List TR
  | ((x0_0, x0_1, x0_2, x0_3, x0_4, x0_5), x1) => [.v (.agg ⟨[.int .i64 x0_0, .int .i64 x0_1, .int .i64 x0_2, .int .i64 x0_3, .int .i64 x0_4, .int .i64 x0_5]⟩), .v (.int .i64 x1)]
theorem de_a6_i (rs : List TR) (x : (Int × Int × Int × Int × Int × Int) × Int) (h : dec_a6_i rs = some x) : rs = enc_a6_i x := by
  unfold dec_a6_i at h
  split at h
  · simp only [Option.some.injEq] at h
    subst h
    rfl
  · cases h
def dec_a6 : List TR → Option (Int × Int × Int × Int × Int × Int)
  | [.v (.agg ⟨[.int .i64 x0_0, .int .i64 x0_1, .int .i64 x0_2, .int .i64 x0_3, .int .i64 x0_4, .int .i64 x0_5]⟩)] => some (x0_0, x0_1, x0_2, x0_3, x0_4, x0_5)
  | _ => none
def enc_a6 : Int × Int × Int × Int × Int × Int → List TR
  | (x0_0, x0_1, x0_2, x0_3, x0_4, x0_5) => [.v (.agg ⟨[.int .i64 x0_0, .int .i64 x0_1, .int .i64 x0_2, .int .i64 x0_3, .int .i64 x0_4, .int .i64 x0_5]⟩)]
theorem de_a6 (rs : List TR) (x : Int × Int × Int × Int × Int × Int) (h : dec_a6 rs = some x) : rs = enc_a6 x := by
  unfold dec_a6 at h
  split at h
  · simp only [Option.some.injEq] at h
    subst h
    rfl
  · cases h
def clo__b (k : Bool) (h : Bool) : List Value → Option (Bool × Value)
  | [] => some (k, .bool (h))
  | _ => none
theorem clo__b_ok (g : List Value → Option (Bool × Value)) : ∀ args r, clo__b (okV (g [])) (boolV (g [])) args = some (true, r) → g args = some (true, r) := by
  intro args r h
  unfold clo__b at h
  split at h
  · simp only [Option.some.injEq, Prod.mk.injEq] at h
    obtain ⟨h1, rfl⟩ := h
    exact okV_some h1
  · cases h

end Go.Proofs.Ytikfglnhkjoioaa
