import Derived.Test.YtjdpbaefonekmaaDn
set_option linter.unusedSimpArgs false
set_option linter.unusedVariables false
namespace Go.Proofs.Ytjdpbaefonekmaa
open Go.RowKit
def dec_b : List TR → Option (Bool)
  | [.v (.bool x0)] => some x0
  | _ => none
def enc_b : Bool → List TR
  | x0 => [.v (.bool x0)]
theorem de_b (rs : List TR) (x : Bool) (h : dec_b rs = some x) : rs = enc_b x := by
  unfold dec_b at h
  split at h
  · simp only [Option.some.injEq] at h
    subst h
    rfl
  · cases h
def dec_B61 : TypeId × List Value → Option (Int × Int)
  | (61, [.int .i64 c0, .int .u64 c1]) => some (c0, c1)
  | _ => none
def enc_B61 : Int × Int → TypeId × List Value
  | (c0, c1) => (61, [.int .i64 c0, .int .u64 c1])
theorem de_B61 (rs : TypeId × List Value) (x : Int × Int) (h : dec_B61 rs = some x) : rs = enc_B61 x := by
  unfold dec_B61 at h
  split at h
  · simp only [Option.some.injEq] at h
    subst h
    rfl
  · cases h
def dec_P61_i : List Value × List BC → Option (Int × Nat × List Int × Int × Int)
  | ([.int .i64 x0], [.s cn (.byts cl), .v (.int .i64 c_1), .v (.int .u64 c_2)]) => some (x0, cn, cl, c_1, c_2)
  | _ => none
def enc_P61_i : Int × Nat × List Int × Int × Int → List Value × List BC
  | (x0, cn, cl, c_1, c_2) => ([.int .i64 x0], [.s cn (.byts cl), .v (.int .i64 c_1), .v (.int .u64 c_2)])
theorem de_P61_i (rs : List Value × List BC) (x : Int × Nat × List Int × Int × Int) (h : dec_P61_i rs = some x) : rs = enc_P61_i x := by
  unfold dec_P61_i at h
  split at h
  · simp only [Option.some.injEq] at h
    subst h
    rfl
  · cases h
def dec_i_i : List TR → Option (Int × Int)
  | [.v (.int .i64 x0), .v (.int .i64 x1)] => some (x0, x1)
  | _ => none
def enc_i_i : Int × Int → List TR
  | (x0, x1) => [.v (.int .i64 x0), .v (.int .i64 x1)]
theorem de_i_i (rs : List TR) (x : Int × Int) (h : dec_i_i rs = some x) : rs = enc_i_i x := by
  unfold dec_i_i at h
  split at h
  · simp only [Option.some.injEq] at h
    subst h
    rfl
  · cases h
def dec_i : List TR → Option (Int)
  | [.v (.int .i64 x0)] => some x0
  | _ => none
def enc_i : Int → List TR
  | x0 => [.v (.int .i64 x0)]
theorem de_i (rs : List TR) (x : Int) (h : dec_i rs = some x) : rs = enc_i x := by
  unfold dec_i at h
  split at h
  · simp only [Option.some.injEq] at h
    subst h
    rfl
  · cases h
def dec_l2_1 : List TR → Option (Nat × List Int)
  | [.s 2 1 n0 (.ints x0)] => some (n0, x0)
  | _ => none
def enc_l2_1 : Nat × List Int → List TR
  | (n0, x0) => [.s 2 1 n0 (.ints x0)]
theorem de_l2_1 (rs : List TR) (x : Nat × List Int) (h : dec_l2_1 rs = some x) : rs = enc_l2_1 x := by
  unfold dec_l2_1 at h
  split at h
  · simp only [Option.some.injEq] at h
    subst h
    rfl
  · cases h
def dec_l2_1_i : List TR → Option ((Nat × List Int) × Int)
  | [.s 2 1 n0 (.ints x0), .v (.int .i64 x1)] => some ((n0, x0), x1)
  | _ => none
def enc_l2_1_i : (Nat × List Int) × Int → List TR
  | ((n0, x0), x1) => [.s 2 1 n0 (.ints x0), .v (.int .i64 x1)]
theorem de_l2_1_i (rs : List TR) (x : (Nat × List Int) × Int) (h : dec_l2_1_i rs = some x) : rs = enc_l2_1_i x := by
  unfold dec_l2_1_i at h
  split at h
  · simp only [Option.some.injEq] at h
    subst h
    rfl
  · cases h
def dec_l2_1_l2_1_i : List TR → Option ((Nat × List Int) × (Nat × List Int) × Int)
  | [.s 2 1 n0 (.ints x0), .s 2 1 n1 (.ints x1), .v (.int .i64 x2)] => some ((n0, x0), (n1, x1), x2)
  | _ => none
def enc_l2_1_l2_1_i : (Nat × List Int) × (Nat × List Int) × Int → List TR
  | ((n0, x0), (n1, x1), x2) => [.s 2 1 n0 (.ints x0), .s 2 1 n1 (.ints x1), .v (.int .i64 x2)]
theorem de_l2_1_l2_1_i (rs : List TR) (x : (Nat × List Int) × (Nat × List Int) × Int) (h : dec_l2_1_l2_1_i rs = some x) : rs = enc_l2_1_l2_1_i x := by
  unfold dec_l2_1_l2_1_i at h
  split at h
  · simp only [Option.some.injEq] at h
    subst h
    rfl
  · cases h
def dec_i_i_i : List TR → Option (Int × Int × Int)
  | [.v (.int .i64 x0), .v (.int .i64 x1), .v (.int .i64 x2)] => some (x0, x1, x2)
  | _ => none
def enc_i_i_i : Int × Int × Int → List TR
  | (x0, x1, x2) => [.v (.int .i64 x0), .v (.int .i64 x1), .v (.int .i64 x2)]
theorem de_i_i_i (rs : List TR) (x : Int × Int × Int) (h : dec_i_i_i rs = some x) : rs = enc_i_i_i x := by
  unfold dec_i_i_i at h
  split at h
  · simp only [Option.some.injEq] at h
    subst h
    rfl
  · cases h
def dec_i_i_i_i : List TR → Option (Int × Int × Int × Int)
  | [.v (.int .i64 x0), .v (.int .i64 x1), .v (.int .i64 x2), .v (.int .i64 x3)] => some (x0, x1, x2, x3)
  | _ => none
def enc_i_i_i_i : Int × Int × Int × Int → List TR
  | (x0, x1, x2, x3) => [.v (.int .i64 x0), .v (.int .i64 x1), .v (.int .i64 x2), .v (.int .i64 x3)]
theorem de_i_i_i_i (rs : List TR) (x : Int × Int × Int × Int) (h : dec_i_i_i_i rs = some x) : rs = enc_i_i_i_i x := by
  unfold dec_i_i_i_i at h
  split at h
  · simp only [Option.some.injEq] at h
    subst h
    rfl
  · cases h
def clo__b (k : Bool) (h : Bool) : List Value → Option (Bool × Value)
  | [] => some (k, .bool (h))
  | _ => none
theorem clo__b_ok (g : List Value → Option (Bool × Value)) : ∀ args r, clo__b (okV (g [])) (boolV (g [])) args = some (true, r) → g args = some (true, r) := by
  intro args r h
  unfold clo__b at h
  split at h
  · simp only [Option.some.injEq, Prod.mk.injEq] at h
    obtain ⟨h1, rfl⟩ := h
    exact okV_some h1
  · cases h
def clo_i_b (k : Int → Bool) (h : Int → Bool) : List Value → Option (Bool × Value)
  | [.int .i64 a0] => some (k a0, .bool (h a0))
  | _ => none
theorem clo_i_b_ok (g : List Value → Option (Bool × Value)) : ∀ args r, clo_i_b (fun a0 => okV (g [.int .i64 a0])) (fun a0 => boolV (g [.int .i64 a0])) args = some (true, r) → g args = some (true, r) := by
  intro args r h
  unfold clo_i_b at h
  split at h
  · simp only [Option.some.injEq, Prod.mk.injEq] at h
    obtain ⟨h1, rfl⟩ := h
    exact okV_some h1
  · cases h

end Go.Proofs.Ytjdpbaefonekmaa
