import Derived.Test.YtfclaacaphpoaaaDn
set_option linter.unusedSimpArgs false
set_option linter.unusedVariables false
namespace Go.Proofs.Ytfclaacaphpoaaa
open Go.RowKit
def dec_b : List TR → Option (Bool)
  | [.v (.bool x0)] => some x0
  | _ => none
def enc_b : Bool → List TR
  | x0 => [.v (.bool x0)]
theorem de_b (rs : List TR) (x : Bool) (h : dec_b rs = some x) : rs = enc_b x := by
  unfold dec_b at h
  split at h
  · simp only [Option.some.injEq] at h
    subst h
    rfl
  · cases h
def dec_B117 : TypeId × List Value → Option (Int × Int)
  | (117, [.int .i64 c0, .int .u64 c1]) => some (c0, c1)
  | _ => none
def enc_B117 : Int × Int → TypeId × List Value
  | (c0, c1) => (117, [.int .i64 c0, .int .u64 c1])
theorem de_B117 (rs : TypeId × List Value) (x : Int × Int) (h : dec_B117 rs = some x) : rs = enc_B117 x := by
  unfold dec_B117 at h
  split at h
  · simp only [Option.some.injEq] at h
    subst h
    rfl
  · cases h
def dec_P117_i : List Value × List BC → Option (Int × Nat × List Int × Int × Int)
  | ([.int .i64 x0], [.s cn (.byts cl), .v (.int .i64 c_1), .v (.int .u64 c_2)]) => some (x0, cn, cl, c_1, c_2)
  | _ => none
def enc_P117_i : Int × Nat × List Int × Int × Int → List Value × List BC
  | (x0, cn, cl, c_1, c_2) => ([.int .i64 x0], [.s cn (.byts cl), .v (.int .i64 c_1), .v (.int .u64 c_2)])
theorem de_P117_i (rs : List Value × List BC) (x : Int × Nat × List Int × Int × Int) (h : dec_P117_i rs = some x) : rs = enc_P117_i x := by
  unfold dec_P117_i at h
  split at h
  · simp only [Option.some.injEq] at h
    subst h
    rfl
  · cases h
def dec_P117_a3 : List Value × List BC → Option ((Int × Int × Int) × Nat × List Int × Int × Int)
  | ([.agg ⟨[.int .i64 x0_0, .int .i64 x0_1, .int .i64 x0_2]⟩], [.s cn (.byts cl), .v (.int .i64 c_1), .v (.int .u64 c_2)]) => some ((x0_0, x0_1, x0_2), cn, cl, c_1, c_2)
  | _ => none
def enc_P117_a3 : (Int × Int × Int) × Nat × List Int × Int × Int → List Value × List BC
  | ((x0_0, x0_1, x0_2), cn, cl, c_1, c_2) => ([.agg ⟨[.int .i64 x0_0, .int .i64 x0_1, .int .i64 x0_2]⟩], [.s cn (.byts cl), .v (.int .i64 c_1), .v (.int .u64 c_2)])
theorem de_P117_a3 (rs : List Value × List BC) (x : (Int × Int × Int) × Nat × List Int × Int × Int) (h : dec_P117_a3 rs = some x) : rs = enc_P117_a3 x := by
  unfold dec_P117_a3 at h
  split at h
  · simp only [Option.some.injEq] at h
    subst h
    rfl
  · cases h
def dec_i : List TR → Option (Int)
  | [.v (.int .i64 x0)] => some x0
  | _ => none
def enc_i : Int → List TR
  | x0 => [.v (.int .i64 x0)]
theorem de_i (rs : List TR) (x : Int) (h : dec_i rs = some x) : rs = enc_i x := by
  unfold dec_i at h
  split at h
  · simp only [Option.some.injEq] at h
    subst h
    rfl
  · cases h
def dec_a6_b : List TR → Option ((Int × Int × Int × Int × Int × Int) × Bool)
  | [.v (.agg ⟨[.int .i64 x0_0, .int .i64 x0_1, .int .i64 x0_2, .int .i64 x0_3, .int .i64 x0_4, .int .i64 x0_5]⟩), .v (.bool x1)] => some ((x0_0, x0_1, x0_2, x0_3, x0_4, x0_5), x1)
  | _ => none
def enc_a6_b : (Int × Int × Int × Int × Int × Int) × Bool → List TR
  | ((x0_0, x0_1, x0_2, x0_3, x0_4, x0_5), x1) => [.v (.agg ⟨[.int .i64 x0_0, .int .i64 x0_1, .int .i64 x0_2, .int .i64 x0_3, .int .i64 x0_4, .int .i64 x0_5]⟩), .v (.bool x1)]
theorem de_a6_b (rs : List TR) (x : (Int × Int × Int × Int × Int × Int) × Bool) (h : dec_a6_b rs = some x) : rs = enc_a6_b x := by
  unfold dec_a6_b at h
  split at h
  · simp only [Option.some.injEq] at h
    subst h
    rfl
  · cases h
def dec_P117_a6 : List Value × List BC → Option ((Int × Int × Int × Int × Int × Int) × Nat × List Int × Int × Int)
  | ([.agg ⟨[.int .i64 x0_0, .int .i64 x0_1, .int .i64 x0_2, .int .i64 x0_3, .int .i64 x0_4, .int .i64 x0_5]⟩], [.s cn (.byts cl), .v (.int .i64 c_1), .v (.int .u64 c_2)]) => some ((x0_0, x0_1, x0_2, x0_3, x0_4, x0_5), cn, cl, c_1, c_2)
  | _ => none
def enc_P117_a6 : (Int × Int × Int × Int × Int × Int) × Nat × List Int × Int × Int → List Value × List BC
  | ((x0_0, x0_1, x0_2, x0_3, x0_4, x0_5), cn, cl, c_1, c_2) => ([.agg ⟨[.int .i64 x0_0, .int .i64 x0_1, .int .i64 x0_2, .int .i64 x0_3, .int .i64 x0_4, .int .i64 x0_5]⟩], [.s cn (.byts cl), .v (.int .i64 c_1), .v (.int .u64 c_2)])
theorem de_P117_a6 (rs : List Value × List BC) (x : (Int × Int × Int × Int × Int × Int) × Nat × List Int × Int × Int) (h : dec_P117_a6 rs = some x) : rs = enc_P117_a6 x := by
  unfold dec_P117_a6 at h
  split at h
  · simp only [Option.some.injEq] at h
    subst h
    rfl
  · cases h
def dec_P117_a2 : List Value × List BC → Option ((Int × Int) × Nat × List Int × Int × Int)
  | ([.agg ⟨[.int .i64 x0_0, .int .i64 x0_1]⟩], [.s cn (.byts cl), .v (.int .i64 c_1), .v (.int .u64 c_2)]) => some ((x0_0, x0_1), cn, cl, c_1, c_2)
  | _ => none
def enc_P117_a2 : (Int × Int) × Nat × List Int × Int × Int → List Value × List BC
  | ((x0_0, x0_1), cn, cl, c_1, c_2) => ([.agg ⟨[.int .i64 x0_0, .int .i64 x0_1]⟩], [.s cn (.byts cl), .v (.int .i64 c_1), .v (.int .u64 c_2)])
theorem de_P117_a2 (rs : List Value × List BC) (x : (Int × Int) × Nat × List Int × Int × Int) (h : dec_P117_a2 rs = some x) : rs = enc_P117_a2 x := by
  unfold dec_P117_a2 at h
  split at h
  · simp only [Option.some.injEq] at h
    subst h
    rfl
  · cases h
def dec_l27_2 : List TR → Option (Nat × List Int)
  | [.s 27 2 n0 (.ints x0)] => some (n0, x0)
  | _ => none
def enc_l27_2 : Nat × List Int → List TR
  | (n0, x0) => [.s 27 2 n0 (.ints x0)]
theorem de_l27_2 (rs : List TR) (x : Nat × List Int) (h : dec_l27_2 rs = some x) : rs = enc_l27_2 x := by
  unfold dec_l27_2 at h
  split at h
  · simp only [Option.some.injEq] at h
    subst h
    rfl
  · cases h
def dec_i_a6_a2 : List TR → Option (Int × (Int × Int × Int × Int × Int × Int) × Int × Int)
  | [.v (.int .i64 x0), .v (.agg ⟨[.int .i64 x1_0, .int .i64 x1_1, .int .i64 x1_2, .int .i64 x1_3, .int .i64 x1_4, .int .i64 x1_5]⟩), .v (.agg ⟨[.int .i64 x2_0, .int .i64 x2_1]⟩)] => some (x0, (x1_0, x1_1, x1_2, x1_3, x1_4, x1_5), (x2_0, x2_1))
  | _ => none
def enc_i_a6_a2 : Int × (Int × Int × Int × Int × Int × Int) × Int × Int → List TR
  | (x0, (x1_0, x1_1, x1_2, x1_3, x1_4, x1_5), (x2_0, x2_1)) => [.v (.int .i64 x0), .v (.agg ⟨[.int .i64 x1_0, .int .i64 x1_1, .int .i64 x1_2, .int .i64 x1_3, .int .i64 x1_4, .int .i64 x1_5]⟩), .v (.agg ⟨[.int .i64 x2_0, .int .i64 x2_1]⟩)]
theorem de_i_a6_a2 (rs : List TR) (x : Int × (Int × Int × Int × Int × Int × Int) × Int × Int) (h : dec_i_a6_a2 rs = some x) : rs = enc_i_a6_a2 x := by
  unfold dec_i_a6_a2 at h
  split at h
  · simp only [Option.some.injEq] at h
    subst h
    rfl
  · cases h
def dec_a6 : List TR → Option (Int × Int × Int × Int × Int × Int)
  | [.v (.agg ⟨[.int .i64 x0_0, .int .i64 x0_1, .int .i64 x0_2, .int .i64 x0_3, .int .i64 x0_4, .int .i64 x0_5]⟩)] => some (x0_0, x0_1, x0_2, x0_3, x0_4, x0_5)
  | _ => none
def enc_a6 : Int × Int × Int × Int × Int × Int → List TR
  | (x0_0, x0_1, x0_2, x0_3, x0_4, x0_5) => [.v (.agg ⟨[.int .i64 x0_0, .int .i64 x0_1, .int .i64 x0_2, .int .i64 x0_3, .int .i64 x0_4, .int .i64 x0_5]⟩)]
theorem de_a6 (rs : List TR) (x : Int × Int × Int × Int × Int × Int) (h : dec_a6 rs = some x) : rs = enc_a6 x := by
  unfold dec_a6 at h
  split at h
  · simp only [Option.some.injEq] at h
    subst h
    rfl
  · cases h
def dec_a3 : List TR → Option (Int × Int × Int)
  | [.v (.agg ⟨[.int .i64 x0_0, .int .i64 x0_1, .int .i64 x0_2]⟩)] => some (x0_0, x0_1, x0_2)
  | _ => none
def enc_a3 : Int × Int × Int → List TR
  | (x0_0, x0_1, x0_2) => [.v (.agg ⟨[.int .i64 x0_0, .int .i64 x0_1, .int .i64 x0_2]⟩)]
theorem de_a3 (rs : List TR) (x : Int × Int × Int) (h : dec_a3 rs = some x) : rs = enc_a3 x := by
  unfold dec_a3 at h
  split at h
  · simp only [Option.some.injEq] at h
    subst h
    rfl
  · cases h
def dec_a3_b : List TR → Option ((Int × Int × Int) × Bool)
  | [.v (.agg ⟨[.int .i64 x0_0, .int .i64 x0_1, .int .i64 x0_2]⟩), .v (.bool x1)] => some ((x0_0, x0_1, x0_2), x1)
  | _ => none
def enc_a3_b : (Int × Int × Int) × Bool → List TR
  | ((x0_0, x0_1, x0_2), x1) => [.v (.agg ⟨[.int .i64 x0_0, .int .i64 x0_1, .int .i64 x0_2]⟩), .v (.bool x1)]
theorem de_a3_b (rs : List TR) (x : (Int × Int × Int) × Bool) (h : dec_a3_b rs = some x) : rs = enc_a3_b x := by
  unfold dec_a3_b at h
  split at h
  · simp only [Option.some.injEq] at h
    subst h
    rfl
  · cases h
def dec_a3_i : List TR → Option ((Int × Int × Int) × Int)
  | [.v (.agg ⟨[.int .i64 x0_0, .int .i64 x0_1, .int .i64 x0_2]⟩), .v (.int .i64 x1)] => some ((x0_0, x0_1, x0_2), x1)
  | _ => none
def enc_a3_i : (Int × Int × Int) × Int → List TR
  | ((x0_0, x0_1, x0_2), x1) => [.v (.agg ⟨[.int .i64 x0_0, .int .i64 x0_1, .int .i64 x0_2]⟩), .v (.int .i64 x1)]
theorem de_a3_i (rs : List TR) (x : (Int × Int × Int) × Int) (h : dec_a3_i rs = some x) : rs = enc_a3_i x := by
  unfold dec_a3_i at h
  split at h
  · simp only [Option.some.injEq] at h
    subst h
    rfl
  · cases h
def dec_i_a6 : List TR → Option (Int × Int × Int × Int × Int × Int × Int)
  | [.v (.int .i64 x0), .v (.agg ⟨[.int .i64 x1_0, .int .i64 x1_1, .int .i64 x1_2, .int .i64 x1_3, .int .i64 x1_4, .int .i64 x1_5]⟩)] => some (x0, (x1_0, x1_1, x1_2, x1_3, x1_4, x1_5))
  | _ => none
def enc_i_a6 : Int × Int × Int × Int × Int × Int × Int → List TR
  | (x0, (x1_0, x1_1, x1_2, x1_3, x1_4, x1_5)) => [.v (.int .i64 x0), .v (.agg ⟨[.int .i64 x1_0, .int .i64 x1_1, .int .i64 x1_2, .int .i64 x1_3, .int .i64 x1_4, .int .i64 x1_5]⟩)]
theorem de_i_a6 (rs : List TR) (x : Int × Int × Int × Int × Int × Int × Int) (h : dec_i_a6 rs = some x) : rs = enc_i_a6 x := by
  unfold dec_i_a6 at h
  split at h
  · simp only [Option.some.injEq] at h
    subst h
    rfl
  · cases h
def dec_a2_i : List TR → Option ((Int × Int) × Int)
  | [.v (.agg ⟨[.int .i64 x0_0, .int .i64 x0_1]⟩), .v (.int .i64 x1)] => some ((x0_0, x0_1), x1)
  | _ => none
def enc_a2_i : (Int × Int) × Int → List TR
  | ((x0_0, x0_1), x1) => [.v (.agg ⟨[.int .i64 x0_0, .int .i64 x0_1]⟩), .v (.int .i64 x1)]
theorem de_a2_i (rs : List TR) (x : (Int × Int) × Int) (h : dec_a2_i rs = some x) : rs = enc_a2_i x := by
  unfold dec_a2_i at h
  split at h
  · simp only [Option.some.injEq] at h
    subst h
    rfl
  · cases h
def dec_i_b : List TR → Option (Int × Bool)
  | [.v (.int .i64 x0), .v (.bool x1)] => some (x0, x1)
  | _ => none
def enc_i_b : Int × Bool → List TR
  | (x0, x1) => [.v (.int .i64 x0), .v (.bool x1)]
theorem de_i_b (rs : List TR) (x : Int × Bool) (h : dec_i_b rs = some x) : rs = enc_i_b x := by
  unfold dec_i_b at h
  split at h
  · simp only [Option.some.injEq] at h
    subst h
    rfl
  · cases h
def dec_a2_b : List TR → Option ((Int × Int) × Bool)
  | [.v (.agg ⟨[.int .i64 x0_0, .int .i64 x0_1]⟩), .v (.bool x1)] => some ((x0_0, x0_1), x1)
  | _ => none
def enc_a2_b : (Int × Int) × Bool → List TR
  | ((x0_0, x0_1), x1) => [.v (.agg ⟨[.int .i64 x0_0, .int .i64 x0_1]⟩), .v (.bool x1)]
theorem de_a2_b (rs : List TR) (x : (Int × Int) × Bool) (h : dec_a2_b rs = some x) : rs = enc_a2_b x := by
  unfold dec_a2_b at h
  split at h
  · simp only [Option.some.injEq] at h
    subst h
    rfl
  · cases h
def dec_l27_2_i : List TR → Option ((Nat × List Int) × Int)
  | [.s 27 2 n0 (.ints x0), .v (.int .i64 x1)] => some ((n0, x0), x1)
  | _ => none
def enc_l27_2_i : (Nat × List Int) × Int → List TR
  | ((n0, x0), x1) => [.s 27 2 n0 (.ints x0), .v (.int .i64 x1)]
theorem de_l27_2_i (rs : List TR) (x : (Nat × List Int) × Int) (h : dec_l27_2_i rs = some x) : rs = enc_l27_2_i x := by
  unfold dec_l27_2_i at h
  split at h
  · simp only [Option.some.injEq] at h
    subst h
    rfl
  · cases h
def dec_i_i : List TR → Option (Int × Int)
  | [.v (.int .i64 x0), .v (.int .i64 x1)] => some (x0, x1)
  | _ => none
def enc_i_i : Int × Int → List TR
  | (x0, x1) => [.v (.int .i64 x0), .v (.int .i64 x1)]
theorem de_i_i (rs : List TR) (x : Int × Int) (h : dec_i_i rs = some x) : rs = enc_i_i x := by
  unfold dec_i_i at h
  split at h
  · simp only [Option.some.injEq] at h
    subst h
    rfl
  · cases h
def dec_i_a6_a3 : List TR → Option (Int × (Int × Int × Int × Int × Int × Int) × Int × Int × Int)
  | [.v (.int .i64 x0), .v (.agg ⟨[.int .i64 x1_0, .int .i64 x1_1, .int .i64 x1_2, .int .i64 x1_3, .int .i64 x1_4, .int .i64 x1_5]⟩), .v (.agg ⟨[.int .i64 x2_0, .int .i64 x2_1, .int .i64 x2_2]⟩)] => some (x0, (x1_0, x1_1, x1_2, x1_3, x1_4, x1_5), (x2_0, x2_1, x2_2))
  | _ => none
def enc_i_a6_a3 : Int × (Int × Int × Int × Int × Int × Int) × Int × Int × Int → List TR
  | (x0, (x1_0, x1_1, x1_2, x1_3, x1_4, x1_5), (x2_0, x2_1, x2_2)) => [.v (.int .i64 x0), .v (.agg ⟨[.int .i64 x1_0, .int .i64 x1_1, .int .i64 x1_2, .int .i64 x1_3, .int .i64 x1_4, .int .i64 x1_5]⟩), .v (.agg ⟨[.int .i64 x2_0, .int .i64 x2_1, .int .i64 x2_2]⟩)]
theorem de_i_a6_a3 (rs : List TR) (x : Int × (Int × Int × Int × Int × Int × Int) × Int × Int × Int) (h : dec_i_a6_a3 rs = some x) : rs = enc_i_a6_a3 x := by
  unfold dec_i_a6_a3 at h
  split at h
  · simp only [Option.some.injEq] at h
    subst h
    rfl
  · cases h
def dec_b_i : List TR → Option (Bool × Int)
  | [.v (.bool x0), .v (.int .i64 x1)] => some (x0, x1)
  | _ => none
def enc_b_i : Bool × Int → List TR
  | (x0, x1) => [.v (.bool x0), .v (.int .i64 x1)]
theorem de_b_i (rs : List TR) (x : Bool × Int) (h : dec_b_i rs = some x) : rs = enc_b_i x := by
  unfold dec_b_i at h
  split at h
  · simp only [Option.some.injEq] at h
    subst h
    rfl
  · cases h
def dec_a2 : List TR → Option (Int × Int)
  | [.v (.agg ⟨[.int .i64 x0_0, .int .i64 x0_1]⟩)] => some (x0_0, x0_1)
  | _ => none
def enc_a2 : Int × Int → List TR
  | (x0_0, x0_1) => [.v (.agg ⟨[.int .i64 x0_0, .int .i64 x0_1]⟩)]
theorem de_a2 (rs : List TR) (x : Int × Int) (h : dec_a2 rs = some x) : rs = enc_a2 x := by
  unfold dec_a2 at h
  split at h
  · simp only [Option.some.injEq] at h
    subst h
    rfl
  · cases h
def dec_l31_3 : List TR → Option (Nat × List Int)
  | [.s 31 3 n0 (.ints x0)] => some (n0, x0)
  | _ => none
def enc_l31_3 : Nat × List Int → List TR
  | (n0, x0) => [.s 31 3 n0 (.ints x0)]
theorem de_l31_3 (rs : List TR) (x : Nat × List Int) (h : dec_l31_3 rs = some x) : rs = enc_l31_3 x := by
  unfold dec_l31_3 at h
  split at h
  · simp only [Option.some.injEq] at h
    subst h
    rfl
  · cases h
def clo__b (k : Bool) (h : Bool) : List Value → Option (Bool × Value)
  | [] => some (k, .bool (h))
  | _ => none
theorem clo__b_ok (g : List Value → Option (Bool × Value)) : ∀ args r, clo__b (okV (g [])) (boolV (g [])) args = some (true, r) → g args = some (true, r) := by
  intro args r h
  unfold clo__b at h
  split at h
  · simp only [Option.some.injEq, Prod.mk.injEq] at h
    obtain ⟨h1, rfl⟩ := h
    exact okV_some h1
  · cases h
def clo_a2_b (k : (Int × Int) → Bool) (h : (Int × Int) → Bool) : List Value → Option (Bool × Value)
  | [.agg ⟨[.int .i64 a0_0, .int .i64 a0_1]⟩] => some (k (a0_0, a0_1), .bool (h (a0_0, a0_1)))
  | _ => none
theorem clo_a2_b_ok (g : List Value → Option (Bool × Value)) : ∀ args r, clo_a2_b (fun a0 => okV (g [.agg ⟨[.int .i64 a0.1, .int .i64 a0.2]⟩])) (fun a0 => boolV (g [.agg ⟨[.int .i64 a0.1, .int .i64 a0.2]⟩])) args = some (true, r) → g args = some (true, r) := by
  intro args r h
  unfold clo_a2_b at h
  split at h
  · simp only [Option.some.injEq, Prod.mk.injEq] at h
    obtain ⟨h1, rfl⟩ := h
    exact okV_some h1
  · cases h

end Go.Proofs.Ytfclaacaphpoaaa
