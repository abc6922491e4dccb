import Derived.Test.YtoblkbpejfojjaaGreatDoorDn
set_option linter.unusedSimpArgs false
set_option linter.unusedVariables false
namespace Go.Proofs.YtoblkbpejfojjaaGreatDoor
open Go.RowKit
def dec_b : List TR → Option (Bool)
  | [.v (.bool x0)] => some x0
  | _ => none
def enc_b : Bool → List TR
  | x0 => [.v (.bool x0)]
theorem de_b (rs : List TR) (x : Bool) (h : dec_b rs = some x) : rs = enc_b x := by
  unfold dec_b at h
  split at h
  · simp only [Option.some.injEq] at h
    subst h
    rfl
  · cases h
def dec_i : List TR → Option (Int)
  | [.v (.int .i64 x0)] => some x0
  | _ => none
def enc_i : Int → List TR
  | x0 => [.v (.int .i64 x0)]
theorem de_i (rs : List TR) (x : Int) (h : dec_i rs = some x) : rs = enc_i x := by
  unfold dec_i at h
  split at h
  · simp only [Option.some.injEq] at h
    subst h
    rfl
  · cases h
def dec_a2 : List TR → Option (Int × Int)
  | [.v (.agg ⟨[.int .i64 x0_0, .int .i64 x0_1]⟩)] => some (x0_0, x0_1)
  | _ => none
def enc_a2 : Int × Int → List TR
  | (x0_0, x0_1) => [.v (.agg ⟨[.int .i64 x0_0, .int .i64 x0_1]⟩)]
theorem de_a2 (rs : List TR) (x : Int × Int) (h : dec_a2 rs = some x) : rs = enc_a2 x := by
  unfold dec_a2 at h
  split at h
  · simp only [Option.some.injEq] at h
    subst h
    rfl
  · cases h
def dec_l45_3 : List TR → Option (Nat × List Int)
  | [.s 45 3 n0 (.ints x0)] => some (n0, x0)
  | _ => none
def enc_l45_3 : Nat × List Int → List TR
  | (n0, x0) => [.s 45 3 n0 (.ints x0)]
theorem de_l45_3 (rs : List TR) (x : Nat × List Int) (h : dec_l45_3 rs = some x) : rs = enc_l45_3 x := by
  unfold dec_l45_3 at h
  split at h
  · simp only [Option.some.injEq] at h
    subst h
    rfl
  · cases h
def dec_a3 : List TR → Option (Int × Int × Int)
  | [.v (.agg ⟨[.int .i64 x0_0, .int .i64 x0_1, .int .i64 x0_2]⟩)] => some (x0_0, x0_1, x0_2)
  | _ => none
def enc_a3 : Int × Int × Int → List TR
  | (x0_0, x0_1, x0_2) => [.v (.agg ⟨[.int .i64 x0_0, .int .i64 x0_1, .int .i64 x0_2]⟩)]
theorem de_a3 (rs : List TR) (x : Int × Int × Int) (h : dec_a3 rs = some x) : rs = enc_a3 x := by
  unfold dec_a3 at h
  split at h
  · simp only [Option.some.injEq] at h
    subst h
    rfl
  · cases h
def dec_a6 : List TR → Option (Int × Int × Int × Int × Int × Int)
  | [.v (.agg ⟨[.int .i64 x0_0, .int .i64 x0_1, .int .i64 x0_2, .int .i64 x0_3, .int .i64 x0_4, .int .i64 x0_5]⟩)] => some (x0_0, x0_1, x0_2, x0_3, x0_4, x0_5)
  | _ => none
def enc_a6 : Int × Int × Int × Int × Int × Int → List TR
  | (x0_0, x0_1, x0_2, x0_3, x0_4, x0_5) => [.v (.agg ⟨[.int .i64 x0_0, .int .i64 x0_1, .int .i64 x0_2, .int .i64 x0_3, .int .i64 x0_4, .int .i64 x0_5]⟩)]
theorem de_a6 (rs : List TR) (x : Int × Int × Int × Int × Int × Int) (h : dec_a6 rs = some x) : rs = enc_a6 x := by
  unfold dec_a6 at h
  split at h
  · simp only [Option.some.injEq] at h
    subst h
    rfl
  · cases h
def dec_l26_2 : List TR → Option (Nat × List Int)
  | [.s 26 2 n0 (.ints x0)] => some (n0, x0)
  | _ => none
def enc_l26_2 : Nat × List Int → List TR
  | (n0, x0) => [.s 26 2 n0 (.ints x0)]
theorem de_l26_2 (rs : List TR) (x : Nat × List Int) (h : dec_l26_2 rs = some x) : rs = enc_l26_2 x := by
  unfold dec_l26_2 at h
  split at h
  · simp only [Option.some.injEq] at h
    subst h
    rfl
  · cases h
def dec_l24_4 : List TR → Option (Nat × List Int)
  | [.s 24 4 n0 (.ints x0)] => some (n0, x0)
  | _ => none
def enc_l24_4 : Nat × List Int → List TR
  | (n0, x0) => [.s 24 4 n0 (.ints x0)]
theorem de_l24_4 (rs : List TR) (x : Nat × List Int) (h : dec_l24_4 rs = some x) : rs = enc_l24_4 x := by
  unfold dec_l24_4 at h
  split at h
  · simp only [Option.some.injEq] at h
    subst h
    rfl
  · cases h
def dec_l28_6 : List TR → Option (Nat × List Int)
  | [.s 28 6 n0 (.ints x0)] => some (n0, x0)
  | _ => none
def enc_l28_6 : Nat × List Int → List TR
  | (n0, x0) => [.s 28 6 n0 (.ints x0)]
theorem de_l28_6 (rs : List TR) (x : Nat × List Int) (h : dec_l28_6 rs = some x) : rs = enc_l28_6 x := by
  unfold dec_l28_6 at h
  split at h
  · simp only [Option.some.injEq] at h
    subst h
    rfl
  · cases h
def dec_a2_a2 : List TR → Option ((Int × Int) × Int × Int)
  | [.v (.agg ⟨[.int .i64 x0_0, .int .i64 x0_1]⟩), .v (.agg ⟨[.int .i64 x1_0, .int .i64 x1_1]⟩)] => some ((x0_0, x0_1), (x1_0, x1_1))
  | _ => none
def enc_a2_a2 : (Int × Int) × Int × Int → List TR
  | ((x0_0, x0_1), (x1_0, x1_1)) => [.v (.agg ⟨[.int .i64 x0_0, .int .i64 x0_1]⟩), .v (.agg ⟨[.int .i64 x1_0, .int .i64 x1_1]⟩)]
theorem de_a2_a2 (rs : List TR) (x : (Int × Int) × Int × Int) (h : dec_a2_a2 rs = some x) : rs = enc_a2_a2 x := by
  unfold dec_a2_a2 at h
  split at h
  · simp only [Option.some.injEq] at h
    subst h
    rfl
  · cases h
def dec_l26_2_i : List TR → Option ((Nat × List Int) × Int)
  | [.s 26 2 n0 (.ints x0), .v (.int .i64 x1)] => some ((n0, x0), x1)
  | _ => none
def enc_l26_2_i : (Nat × List Int) × Int → List TR
  | ((n0, x0), x1) => [.s 26 2 n0 (.ints x0), .v (.int .i64 x1)]
theorem de_l26_2_i (rs : List TR) (x : (Nat × List Int) × Int) (h : dec_l26_2_i rs = some x) : rs = enc_l26_2_i x := by
  unfold dec_l26_2_i at h
  split at h
  · simp only [Option.some.injEq] at h
    subst h
    rfl
  · cases h
def dec_i_i : List TR → Option (Int × Int)
  | [.v (.int .i64 x0), .v (.int .i64 x1)] => some (x0, x1)
  | _ => none
def enc_i_i : Int × Int → List TR
  | (x0, x1) => [.v (.int .i64 x0), .v (.int .i64 x1)]
theorem de_i_i (rs : List TR) (x : Int × Int) (h : dec_i_i rs = some x) : rs = enc_i_i x := by
  unfold dec_i_i at h
  split at h
  · simp only [Option.some.injEq] at h
    subst h
    rfl
  · cases h
def dec_a2_i : List TR → Option ((Int × Int) × Int)
  | [.v (.agg ⟨[.int .i64 x0_0, .int .i64 x0_1]⟩), .v (.int .i64 x1)] => some ((x0_0, x0_1), x1)
  | _ => none
def enc_a2_i : (Int × Int) × Int → List TR
  | ((x0_0, x0_1), x1) => [.v (.agg ⟨[.int .i64 x0_0, .int .i64 x0_1]⟩), .v (.int .i64 x1)]
theorem de_a2_i (rs : List TR) (x : (Int × Int) × Int) (h : dec_a2_i rs = some x) : rs = enc_a2_i x := by
  unfold dec_a2_i at h
  split at h
  · simp only [Option.some.injEq] at h
    subst h
    rfl
  · cases h
def dec_a6_i : List TR → Option ((Int × Int × Int × Int × Int × Int) × Int)
  | [.v (.agg ⟨[.int .i64 x0_0, .int .i64 x0_1, .int .i64 x0_2, .int .i64 x0_3, .int .i64 x0_4, .int .i64 x0_5]⟩), .v (.int .i64 x1)] => some ((x0_0, x0_1, x0_2, x0_3, x0_4, x0_5), x1)
  | _ => none
def enc_a6_i : (Int × Int × Int × Int × Int × Int) × Int → List TR
  | ((x0_0, x0_1, x0_2, x0_3, x0_4, x0_5), x1) => [.v (.agg ⟨[.int .i64 x0_0, .int .i64 x0_1, .int .i64 x0_2, .int .i64 x0_3, .int .i64 x0_4, .int .i64 x0_5]⟩), .v (.int .i64 x1)]
theorem de_a6_i (rs : List TR) (x : (Int × Int × Int × Int × Int × Int) × Int) (h : dec_a6_i rs = some x) : rs = enc_a6_i x := by
  unfold dec_a6_i at h
  split at h
  · simp only [Option.some.injEq] at h
    subst h
    rfl
  · cases h
def dec_l28_6_i : List TR → Option ((Nat × List Int) × Int)
  | [.s 28 6 n0 (.ints x0), .v (.int .i64 x1)] => some ((n0, x0), x1)
  | _ => none
def enc_l28_6_i : (Nat × List Int) × Int → List TR
  | ((n0, x0), x1) => [.s 28 6 n0 (.ints x0), .v (.int .i64 x1)]
theorem de_l28_6_i (rs : List TR) (x : (Nat × List Int) × Int) (h : dec_l28_6_i rs = some x) : rs = enc_l28_6_i x := by
  unfold dec_l28_6_i at h
  split at h
  · simp only [Option.some.injEq] at h
    subst h
    rfl
  · cases h
def dec_P142_i : List Value × List BC → Option (Int × Nat × List Int × Int × Int)
  | ([.int .i64 x0], [.s cn (.byts cl), .v (.int .i64 c_1), .v (.int .u64 c_2)]) => some (x0, cn, cl, c_1, c_2)
  | _ => none
def enc_P142_i : Int × Nat × List Int × Int × Int → List Value × List BC
  | (x0, cn, cl, c_1, c_2) => ([.int .i64 x0], [.s cn (.byts cl), .v (.int .i64 c_1), .v (.int .u64 c_2)])
theorem de_P142_i (rs : List Value × List BC) (x : Int × Nat × List Int × Int × Int) (h : dec_P142_i rs = some x) : rs = enc_P142_i x := by
  unfold dec_P142_i at h
  split at h
  · simp only [Option.some.injEq] at h
    subst h
    rfl
  · cases h
def dec_P142_a2 : List Value × List BC → Option ((Int × Int) × Nat × List Int × Int × Int)
  | ([.agg ⟨[.int .i64 x0_0, .int .i64 x0_1]⟩], [.s cn (.byts cl), .v (.int .i64 c_1), .v (.int .u64 c_2)]) => some ((x0_0, x0_1), cn, cl, c_1, c_2)
  | _ => none
def enc_P142_a2 : (Int × Int) × Nat × List Int × Int × Int → List Value × List BC
  | ((x0_0, x0_1), cn, cl, c_1, c_2) => ([.agg ⟨[.int .i64 x0_0, .int .i64 x0_1]⟩], [.s cn (.byts cl), .v (.int .i64 c_1), .v (.int .u64 c_2)])
theorem de_P142_a2 (rs : List Value × List BC) (x : (Int × Int) × Nat × List Int × Int × Int) (h : dec_P142_a2 rs = some x) : rs = enc_P142_a2 x := by
  unfold dec_P142_a2 at h
  split at h
  · simp only [Option.some.injEq] at h
    subst h
    rfl
  · cases h
def dec_P142_a3 : List Value × List BC → Option ((Int × Int × Int) × Nat × List Int × Int × Int)
  | ([.agg ⟨[.int .i64 x0_0, .int .i64 x0_1, .int .i64 x0_2]⟩], [.s cn (.byts cl), .v (.int .i64 c_1), .v (.int .u64 c_2)]) => some ((x0_0, x0_1, x0_2), cn, cl, c_1, c_2)
  | _ => none
def enc_P142_a3 : (Int × Int × Int) × Nat × List Int × Int × Int → List Value × List BC
  | ((x0_0, x0_1, x0_2), cn, cl, c_1, c_2) => ([.agg ⟨[.int .i64 x0_0, .int .i64 x0_1, .int .i64 x0_2]⟩], [.s cn (.byts cl), .v (.int .i64 c_1), .v (.int .u64 c_2)])
theorem de_P142_a3 (rs : List Value × List BC) (x : (Int × Int × Int) × Nat × List Int × Int × Int) (h : dec_P142_a3 rs = some x) : rs = enc_P142_a3 x := by
  unfold dec_P142_a3 at h
  split at h
  · simp only [Option.some.injEq] at h
    subst h
    rfl
  · cases h
def dec_P142_a6 : List Value × List BC → Option ((Int × Int × Int × Int × Int × Int) × Nat × List Int × Int × Int)
  | ([.agg ⟨[.int .i64 x0_0, .int .i64 x0_1, .int .i64 x0_2, .int .i64 x0_3, .int .i64 x0_4, .int .i64 x0_5]⟩], [.s cn (.byts cl), .v (.int .i64 c_1), .v (.int .u64 c_2)]) => some ((x0_0, x0_1, x0_2, x0_3, x0_4, x0_5), cn, cl, c_1, c_2)
  | _ => none
def enc_P142_a6 : (Int × Int × Int × Int × Int × Int) × Nat × List Int × Int × Int → List Value × List BC
  | ((x0_0, x0_1, x0_2, x0_3, x0_4, x0_5), cn, cl, c_1, c_2) => ([.agg ⟨[.int .i64 x0_0, .int .i64 x0_1, .int .i64 x0_2, .int .i64 x0_3, .int .i64 x0_4, .int .i64 x0_5]⟩], [.s cn (.byts cl), .v (.int .i64 c_1), .v (.int .u64 c_2)])
theorem de_P142_a6 (rs : List Value × List BC) (x : (Int × Int × Int × Int × Int × Int) × Nat × List Int × Int × Int) (h : dec_P142_a6 rs = some x) : rs = enc_P142_a6 x := by
  unfold dec_P142_a6 at h
  split at h
  · simp only [Option.some.injEq] at h
    subst h
    rfl
  · cases h
def dec_B142 : TypeId × List Value → Option (Int × Int)
  | (142, [.int .i64 c0, .int .u64 c1]) => some (c0, c1)
  | _ => none
def enc_B142 : Int × Int → TypeId × List Value
  | (c0, c1) => (142, [.int .i64 c0, .int .u64 c1])
theorem de_B142 (rs : TypeId × List Value) (x : Int × Int) (h : dec_B142 rs = some x) : rs = enc_B142 x := by
  unfold dec_B142 at h
  split at h
  · simp only [Option.some.injEq] at h
    subst h
    rfl
  · cases h
def dec_i_i_a3_a3 : List TR → Option (Int × Int × (Int × Int × Int) × Int × Int × Int)
  | [.v (.int .i64 x0), .v (.int .i64 x1), .v (.agg ⟨[.int .i64 x2_0, .int .i64 x2_1, .int .i64 x2_2]⟩), .v (.agg ⟨[.int .i64 x3_0, .int .i64 x3_1, .int .i64 x3_2]⟩)] => some (x0, x1, (x2_0, x2_1, x2_2), (x3_0, x3_1, x3_2))
  | _ => none
def enc_i_i_a3_a3 : Int × Int × (Int × Int × Int) × Int × Int × Int → List TR
  | (x0, x1, (x2_0, x2_1, x2_2), (x3_0, x3_1, x3_2)) => [.v (.int .i64 x0), .v (.int .i64 x1), .v (.agg ⟨[.int .i64 x2_0, .int .i64 x2_1, .int .i64 x2_2]⟩), .v (.agg ⟨[.int .i64 x3_0, .int .i64 x3_1, .int .i64 x3_2]⟩)]
theorem de_i_i_a3_a3 (rs : List TR) (x : Int × Int × (Int × Int × Int) × Int × Int × Int) (h : dec_i_i_a3_a3 rs = some x) : rs = enc_i_i_a3_a3 x := by
  unfold dec_i_i_a3_a3 at h
  split at h
  · simp only [Option.some.injEq] at h
    subst h
    rfl
  · cases h
def dec_i_i_a3 : List TR → Option (Int × Int × Int × Int × Int)
  | [.v (.int .i64 x0), .v (.int .i64 x1), .v (.agg ⟨[.int .i64 x2_0, .int .i64 x2_1, .int .i64 x2_2]⟩)] => some (x0, x1, (x2_0, x2_1, x2_2))
  | _ => none
def enc_i_i_a3 : Int × Int × Int × Int × Int → List TR
  | (x0, x1, (x2_0, x2_1, x2_2)) => [.v (.int .i64 x0), .v (.int .i64 x1), .v (.agg ⟨[.int .i64 x2_0, .int .i64 x2_1, .int .i64 x2_2]⟩)]
theorem de_i_i_a3 (rs : List TR) (x : Int × Int × Int × Int × Int) (h : dec_i_i_a3 rs = some x) : rs = enc_i_i_a3 x := by
  unfold dec_i_i_a3 at h
  split at h
  · simp only [Option.some.injEq] at h
    subst h
    rfl
  · cases h
def dec_i_i_a2_a2_a2 : List TR → Option (Int × Int × (Int × Int) × (Int × Int) × Int × Int)
  | [.v (.int .i64 x0), .v (.int .i64 x1), .v (.agg ⟨[.int .i64 x2_0, .int .i64 x2_1]⟩), .v (.agg ⟨[.int .i64 x3_0, .int .i64 x3_1]⟩), .v (.agg ⟨[.int .i64 x4_0, .int .i64 x4_1]⟩)] => some (x0, x1, (x2_0, x2_1), (x3_0, x3_1), (x4_0, x4_1))
  | _ => none
def enc_i_i_a2_a2_a2 : Int × Int × (Int × Int) × (Int × Int) × Int × Int → List TR
  | (x0, x1, (x2_0, x2_1), (x3_0, x3_1), (x4_0, x4_1)) => [.v (.int .i64 x0), .v (.int .i64 x1), .v (.agg ⟨[.int .i64 x2_0, .int .i64 x2_1]⟩), .v (.agg ⟨[.int .i64 x3_0, .int .i64 x3_1]⟩), .v (.agg ⟨[.int .i64 x4_0, .int .i64 x4_1]⟩)]
theorem de_i_i_a2_a2_a2 (rs : List TR) (x : Int × Int × (Int × Int) × (Int × Int) × Int × Int) (h : dec_i_i_a2_a2_a2 rs = some x) : rs = enc_i_i_a2_a2_a2 x := by
  unfold dec_i_i_a2_a2_a2 at h
  split at h
  · simp only [Option.some.injEq] at h
    subst h
    rfl
  · cases h
def dec_i_i_a2 : List TR → Option (Int × Int × Int × Int)
  | [.v (.int .i64 x0), .v (.int .i64 x1), .v (.agg ⟨[.int .i64 x2_0, .int .i64 x2_1]⟩)] => some (x0, x1, (x2_0, x2_1))
  | _ => none
def enc_i_i_a2 : Int × Int × Int × Int → List TR
  | (x0, x1, (x2_0, x2_1)) => [.v (.int .i64 x0), .v (.int .i64 x1), .v (.agg ⟨[.int .i64 x2_0, .int .i64 x2_1]⟩)]
theorem de_i_i_a2 (rs : List TR) (x : Int × Int × Int × Int) (h : dec_i_i_a2 rs = some x) : rs = enc_i_i_a2 x := by
  unfold dec_i_i_a2 at h
  split at h
  · simp only [Option.some.injEq] at h
    subst h
    rfl
  · cases h
def dec_i_i_a2_a2_a2_a2 : List TR → Option (Int × Int × (Int × Int) × (Int × Int) × (Int × Int) × Int × Int)
  | [.v (.int .i64 x0), .v (.int .i64 x1), .v (.agg ⟨[.int .i64 x2_0, .int .i64 x2_1]⟩), .v (.agg ⟨[.int .i64 x3_0, .int .i64 x3_1]⟩), .v (.agg ⟨[.int .i64 x4_0, .int .i64 x4_1]⟩), .v (.agg ⟨[.int .i64 x5_0, .int .i64 x5_1]⟩)] => some (x0, x1, (x2_0, x2_1), (x3_0, x3_1), (x4_0, x4_1), (x5_0, x5_1))
  | _ => none
def enc_i_i_a2_a2_a2_a2 : Int × Int × (Int × Int) × (Int × Int) × (Int × Int) × Int × Int → List TR
  | (x0, x1, (x2_0, x2_1), (x3_0, x3_1), (x4_0, x4_1), (x5_0, x5_1)) => [.v (.int .i64 x0), .v (.int .i64 x1), .v (.agg ⟨[.int .i64 x2_0, .int .i64 x2_1]⟩), .v (.agg ⟨[.int .i64 x3_0, .int .i64 x3_1]⟩), .v (.agg ⟨[.int .i64 x4_0, .int .i64 x4_1]⟩), .v (.agg ⟨[.int .i64 x5_0, .int .i64 x5_1]⟩)]
theorem de_i_i_a2_a2_a2_a2 (rs : List TR) (x : Int × Int × (Int × Int) × (Int × Int) × (Int × Int) × Int × Int) (h : dec_i_i_a2_a2_a2_a2 rs = some x) : rs = enc_i_i_a2_a2_a2_a2 x := by
  unfold dec_i_i_a2_a2_a2_a2 at h
  split at h
  · simp only [Option.some.injEq] at h
    subst h
    rfl
  · cases h
def clo__b (k : Bool) (h : Bool) : List Value → Option (Bool × Value)
  | [] => some (k, .bool (h))
  | _ => none
theorem clo__b_ok (g : List Value → Option (Bool × Value)) : ∀ args r, clo__b (okV (g [])) (boolV (g [])) args = some (true, r) → g args = some (true, r) := by
  intro args r h
  unfold clo__b at h
  split at h
  · simp only [Option.some.injEq, Prod.mk.injEq] at h
    obtain ⟨h1, rfl⟩ := h
    exact okV_some h1
  · cases h
def clo_a2_b (k : (Int × Int) → Bool) (h : (Int × Int) → Bool) : List Value → Option (Bool × Value)
  | [.agg ⟨[.int .i64 a0_0, .int .i64 a0_1]⟩] => some (k (a0_0, a0_1), .bool (h (a0_0, a0_1)))
  | _ => none
theorem clo_a2_b_ok (g : List Value → Option (Bool × Value)) : ∀ args r, clo_a2_b (fun a0 => okV (g [.agg ⟨[.int .i64 a0.1, .int .i64 a0.2]⟩])) (fun a0 => boolV (g [.agg ⟨[.int .i64 a0.1, .int .i64 a0.2]⟩])) args = some (true, r) → g args = some (true, r) := by
  intro args r h
  unfold clo_a2_b at h
  split at h
  · simp only [Option.some.injEq, Prod.mk.injEq] at h
    obtain ⟨h1, rfl⟩ := h
    exact okV_some h1
  · cases h
def clo_a4_b (k : (Int × Int × Int × Int) → Bool) (h : (Int × Int × Int × Int) → Bool) : List Value → Option (Bool × Value)
  | [.agg ⟨[.int .i64 a0_0, .int .i64 a0_1, .int .i64 a0_2, .int .i64 a0_3]⟩] => some (k (a0_0, a0_1, a0_2, a0_3), .bool (h (a0_0, a0_1, a0_2, a0_3)))
  | _ => none
theorem clo_a4_b_ok (g : List Value → Option (Bool × Value)) : ∀ args r, clo_a4_b (fun a0 => okV (g [.agg ⟨[.int .i64 a0.1, .int .i64 a0.2.1, .int .i64 a0.2.2.1, .int .i64 a0.2.2.2]⟩])) (fun a0 => boolV (g [.agg ⟨[.int .i64 a0.1, .int .i64 a0.2.1, .int .i64 a0.2.2.1, .int .i64 a0.2.2.2]⟩])) args = some (true, r) → g args = some (true, r) := by
  intro args r h
  unfold clo_a4_b at h
  split at h
  · simp only [Option.some.injEq, Prod.mk.injEq] at h
    obtain ⟨h1, rfl⟩ := h
    exact okV_some h1
  · cases h
def clo_a2_a2 (k : (Int × Int) → Bool) (h : (Int × Int) → Int × Int) : List Value → Option (Bool × Value)
  | [.agg ⟨[.int .i64 a0_0, .int .i64 a0_1]⟩] => some (k (a0_0, a0_1), .agg ⟨[.int .i64 ((h (a0_0, a0_1)).1), .int .i64 ((h (a0_0, a0_1)).2)]⟩)
  | _ => none
theorem clo_a2_a2_ok (g : List Value → Option (Bool × Value)) : ∀ args r, clo_a2_a2 (fun a0 => okA2 (g [.agg ⟨[.int .i64 a0.1, .int .i64 a0.2]⟩])) (fun a0 => aggV2 (g [.agg ⟨[.int .i64 a0.1, .int .i64 a0.2]⟩])) args = some (true, r) → g args = some (true, r) := by
  intro args r h
  unfold clo_a2_a2 at h
  split at h
  · simp only [Option.some.injEq, Prod.mk.injEq] at h
    obtain ⟨h1, rfl⟩ := h
    exact okA2_some h1
  · cases h

end Go.Proofs.YtoblkbpejfojjaaGreatDoor
