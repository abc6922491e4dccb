import Derived.Test.YtpffcfiojjgnlaaFb
import Derived.Test.YtpffcfiojjgnlaaFc
import Derived.Test.YtpffcfiojjgnlaaFd
import Derived.Test.YtpffcfiojjgnlaaProg
set_option linter.unusedSimpArgs false
set_option linter.unusedVariables false
namespace Go.Proofs.Ytpffcfiojjgnlaa
open Go.RowKit
noncomputable section
def S_s_l01From : Sums := ⟨tblS [], tblM []⟩
theorem SO_s_l01From : SumsOK Try.prog S_s_l01From := ⟨tblS_ok True.intro, tblM_ok True.intro⟩
def T_s_l01From_0 (coden : Nat) (codel : List Int) (v44_2 : Int) (i : Int) : Tab := ⟨[.row 1, .junk, .val (.pointer none), .ptr 44 0, .val (.int .i64 i), .row 1, .row 1, .val (.int .i64 ((coden : Nat) : Int)), .val (.int .u64 (IntKind.u64.wrap (((coden : Nat) : Int)))), .val (.int .u64 (IntKind.u64.wrap (13701 + (IntKind.u64.wrap (((coden : Nat) : Int)))))), .junk, .ptr 44 0, .junk, .junk, .junk, .junk, .junk, .junk, .junk, .junk, .junk, .junk, .junk, .junk, .junk, .junk, .junk, .junk, .junk, .junk, .junk, .junk, .junk, .junk, .junk, .junk, .junk, .junk], [(0, .ros 0 (.ints [])), (1, .ros coden (.byts codel)), (44, .box 120 [.row 1, .val (.int .i64 0), .val (.int .u64 v44_2)])]⟩
def X_s_l01From_0 (P : Program) (fu : Nat) (coden : Nat) (codel : List Int) (f : Nat) (v44_2 : Int) (i : Int) : Option (Int × Int) := loopK (exec P S_s_l01From 38 (fun _ => fu + 100) (Code.sub [1, 1, 0, 1, 0, 0] (bodyF P 50))) f (T_s_l01From_0 coden codel v44_2 i) (kBlock 0 (kSeq (fun s => exec P S_s_l01From 38 (fun _ => fu + 100) (Code.sub [1, 1, 1] (bodyF P 50)) s (finB P 50 dec_B120)) (finB P 50 dec_B120)))
def B_s_l01From_0 (coden : Nat) (codel : List Int) (rec0 : Int → Int → Option (Int × Int)) (v44_2 : Int) (i : Int) : Option (Int × Int) :=
  (if (decide (i < ((coden : Nat) : Int))) = true then (if (decide (i < 4096)) = true then (if (decide (0 ≤ i) && decide (i < ((coden : Nat) : Int))) = true then (if (Nat.ble (i.toNat * 1 + 1) codel.length) = true then rec0 (IntKind.u64.wrap ((IntKind.u64.wrap ((IntKind.u64.wrap (v44_2 * 1099511628211)) + (IntKind.u64.wrap (codel.getD (i.toNat * 1) 0)))) + 199)) (wI (i + 1)) else none) else none) else some (0, v44_2)) else some (0, v44_2))
def L_s_l01From_0 (fu : Nat) (coden : Nat) (codel : List Int) : Nat → Int → Int → Option (Int × Int)
  | 0, _, _ => none
  | f + 1, v44_2, i => B_s_l01From_0 coden codel (L_s_l01From_0 fu coden codel f) v44_2 i
theorem loop_s_l01From_0 (fu : Nat) (coden : Nat) (codel : List Int) : ∀ (f : Nat) (v44_2 : Int) (i : Int), X_s_l01From_0 Try.prog fu coden codel f v44_2 i = L_s_l01From_0 fu coden codel f v44_2 i := by
  intro f
  induction f with
  | zero => intros; rfl
  | succ f ih =>
    intro v44_2 i
    have h1 : X_s_l01From_0 Try.prog fu coden codel (f + 1) v44_2 i = B_s_l01From_0 coden codel (X_s_l01From_0 Try.prog fu coden codel f) v44_2 i := by kernel_rfl
    have h2 : X_s_l01From_0 Try.prog fu coden codel f = L_s_l01From_0 fu coden codel f := by funext v44_2 i; exact ih v44_2 i
    rw [h1, h2]
    rfl
def G_s_l01From (coden : Nat) (codel : List Int) (lo0 : Int → Int → Option (Int × Int)) : Option (Int × Int) :=
  lo0 (IntKind.u64.wrap (13701 + (IntKind.u64.wrap (((coden : Nat) : Int))))) 0
def Fo_s_l01From (fu : Nat) (coden : Nat) (codel : List Int) : Option (Int × Int) := G_s_l01From coden codel (L_s_l01From_0 fu coden codel (fu + 100))
theorem eqg_s_l01From (fu : Nat) (coden : Nat) (codel : List Int) : execB Try.prog S_s_l01From 50 38 (fun _ => fu + 100) dec_B120 coden (.byts codel) = G_s_l01From coden codel (L_s_l01From_0 fu coden codel (fu + 100)) := by
  have h1 : execB Try.prog S_s_l01From 50 38 (fun _ => fu + 100) dec_B120 coden (.byts codel) = G_s_l01From coden codel (X_s_l01From_0 Try.prog fu coden codel (fu + 100)) := by kernel_rfl
  have c0 : X_s_l01From_0 Try.prog fu coden codel (fu + 100) = L_s_l01From_0 fu coden codel (fu + 100) := by funext v44_2 i; exact loop_s_l01From_0 fu coden codel (fu + 100) v44_2 i
  rw [h1, c0]
theorem eq_s_l01From (fu : Nat) (coden : Nat) (codel : List Int) : execB Try.prog S_s_l01From 50 38 (fun _ => fu + 100) dec_B120 coden (.byts codel) = Fo_s_l01From fu coden codel := eqg_s_l01From fu coden codel
theorem from_go (fu n : Nat) (l : List Int) (hc : codeB n l = true) : ∀ (f : Nat) (v i : Int), 0 ≤ i → i ≤ 4096 → 4096 - i < f → ∃ h, L_s_l01From_0 fu n l f v i = some (0, h)
  | 0, v, i, _, h1, h2 => by omega
  | f + 1, v, i, h0, h1, h2 => by
    rw [show L_s_l01From_0 fu n l (f + 1) v i = B_s_l01From_0 n l (L_s_l01From_0 fu n l f) v i from rfl]
    unfold B_s_l01From_0
    by_cases hn : i < (n : Int)
    · by_cases hk : i < 4096
      · rw [if_pos (decide_eq_true hn), if_pos (decide_eq_true hk), if_pos (idx_ok ⟨h0, hn⟩), if_pos (ble_ok (by obtain ⟨e, _⟩ := codeB_ok hc; omega)), wI_eq, show wrap64 (i + 1) = i + 1 by unfold wrap64; omega]
        exact from_go fu n l hc f _ _ (by omega) (by omega) (by omega)
      · rw [if_pos (decide_eq_true hn), if_neg (by simp [hk])]
        exact ⟨_, rfl⟩
    · rw [if_neg (by simp [hn])]
      exact ⟨_, rfl⟩
theorem from_some {n : Nat} {l : List Int} (hc : codeB n l = true) : ∃ h, Fo_s_l01From 1000000 n l = some (0, h) := by
  unfold Fo_s_l01From G_s_l01From
  exact from_go _ n l hc _ _ _ (by decide) (by decide) (by decide)
def s_l01From (coden : Nat) (codel : List Int) : Int × Int := (Fo_s_l01From 1000000 coden codel).getD (0, 0)
theorem tot_s_l01From (coden : Nat) (codel : List Int) (hp : (codeB coden codel) = true) : Fo_s_l01From 1000000 coden codel = some (s_l01From coden codel) := by
  obtain ⟨h, e⟩ := from_some hp
  unfold s_l01From
  rw [e]
  rfl
def run_s_l01From : BRun
  | [.s coden (.byts codel)] => some (codeB coden codel, enc_B120 (s_l01From coden codel))
  | _ => none
theorem sound_s_l01From : SoundB Try.prog 50 run_s_l01From := by
  refine soundB_of de_B120 SO_s_l01From (by kernel_rfl) Try.func50 Try.ntmps50 rfl (by kernel_rfl) ?_
  intro m c e vals hrun
  unfold run_s_l01From at hrun
  split at hrun
  · rename_i heq
    simp only [List.cons.injEq, PV.s.injEq, and_true] at heq
    obtain ⟨rfl, rfl⟩ := heq
    simp only [Option.some.injEq, Prod.mk.injEq] at hrun
    obtain ⟨hp, hrun⟩ := hrun
    exact ⟨_, s_l01From _ _, by first | exact hrun.symm | exact (Prod.ext hrun.1 hrun.2).symm, (eq_s_l01From _ _ _).trans (tot_s_l01From _ _ hp)⟩
  · cases hrun

theorem s_l01From_src {n : Nat} {l : List Int} (hc : codeB n l = true) : srcB n l (s_l01From n l) = true := by
  obtain ⟨h, e⟩ := from_some hc
  refine srcB_mk hc ?_
  unfold s_l01From
  rw [e]
  exact Int.le_refl 0
def S_s_l03Null : Sums := ⟨tblS [(114, run_s_l02Direction), (123, run_s_l02Product)], tblM []⟩
theorem SO_s_l03Null : SumsOK Try.prog S_s_l03Null := ⟨tblS_ok ⟨⟨Try.call114, sound_s_l02Direction⟩, ⟨Try.call123, sound_s_l02Product⟩, True.intro⟩, tblM_ok True.intro⟩
def Fo_s_l03Null (p : Int) (colour : Int) (l : Int × Int × Int) : Option (Bool) :=
  (if (prB p) = true then (if (prB p) = true then some ((s_l02Product p colour (s_l02Direction p l) (s_l02Direction p l)) == 0) else none) else none)
theorem eq_s_l03Null (p : Int) (colour : Int) (l : Int × Int × Int) : execT Try.prog S_s_l03Null 75 17 (fun _ => 1000000) dec_b [.v (.int .i64 p), .v (.int .i64 colour), .v (.agg ⟨[.int .i64 l.1, .int .i64 l.2.1, .int .i64 l.2.2]⟩)] = Fo_s_l03Null p colour l := by
  kernel_rfl
def s_l03Null (p : Int) (colour : Int) (l : Int × Int × Int) : Bool :=
  (s_l02Product p colour (s_l02Direction p l) (s_l02Direction p l)) == 0
theorem tot_s_l03Null (p : Int) (colour : Int) (l : Int × Int × Int) (hp : (prB p) = true) : Fo_s_l03Null p colour l = some (s_l03Null p colour l) := by
  try have h0 := prB_ne hp
  unfold Fo_s_l03Null s_l03Null
  (try simp only [wI_eq])
  repeat' (first | with_reducible rfl | with_reducible refine chk_opt hp ?_ | with_reducible refine chk_opt h0 ?_ | refine chk_opt (and_all hp fun _ => hp) ?_ | refine chk_opt (and_all hp fun _ => rfl) ?_ | refine ite_opt (fun _ => ?_) (fun _ => ?_) | rfl)
def run_s_l03Null : List PV → Option (Bool × List TR)
  | [.v (.int .i64 p), .v (.int .i64 colour), .v (.agg ⟨[.int .i64 l0, .int .i64 l1, .int .i64 l2]⟩)] => some (prB p, enc_b (s_l03Null p colour (l0, l1, l2)))
  | _ => none
theorem sound_s_l03Null : Sound Try.prog 75 run_s_l03Null := by
  refine sound_of de_b SO_s_l03Null (by kernel_rfl) Try.func75 Try.ntmps75 rfl (by kernel_rfl) ?_
  intro W pvs avs rs hargs hrun
  unfold run_s_l03Null at hrun
  split at hrun
  · simp only [Option.some.injEq, Prod.mk.injEq] at hrun
    obtain ⟨hp, rfl⟩ := hrun
    rename_i p colour l0 l1 l2
    exact ⟨_, _, _, hargs, rfl, (eq_s_l03Null p colour (l0, l1, l2)).trans (tot_s_l03Null p colour (l0, l1, l2) hp)⟩
  · cases hrun

def S_s_l01Parallel : Sums := ⟨tblS [(62, run_s_l01Mod)], tblM []⟩
theorem SO_s_l01Parallel : SumsOK Try.prog S_s_l01Parallel := ⟨tblS_ok ⟨⟨Try.call62, sound_s_l01Mod⟩, True.intro⟩, tblM_ok True.intro⟩
def Fo_s_l01Parallel (p : Int) (l : Int × Int × Int) (a : Int × Int) : Option (Int × Int × Int) :=
  (if (prB p) = true then some (l.1, l.2.1, (s_l01Mod (wI ((wI ((wI (0 - l.1)) * a.1)) - (wI (l.2.1 * a.2)))) p)) else none)
theorem eq_s_l01Parallel (p : Int) (l : Int × Int × Int) (a : Int × Int) : execT Try.prog S_s_l01Parallel 124 26 (fun _ => 1000000) dec_a3 [.v (.int .i64 p), .v (.agg ⟨[.int .i64 l.1, .int .i64 l.2.1, .int .i64 l.2.2]⟩), .v (.agg ⟨[.int .i64 a.1, .int .i64 a.2]⟩)] = Fo_s_l01Parallel p l a := by
  kernel_rfl
def s_l01Parallel (p : Int) (l : Int × Int × Int) (a : Int × Int) : Int × Int × Int :=
  (l.1, l.2.1, (s_l01Mod (wrap64 ((wrap64 ((wrap64 (0 - l.1)) * a.1)) - (wrap64 (l.2.1 * a.2)))) p))
theorem tot_s_l01Parallel (p : Int) (l : Int × Int × Int) (a : Int × Int) (hp : (prB p) = true) : Fo_s_l01Parallel p l a = some (s_l01Parallel p l a) := by
  try have h0 := prB_ne hp
  unfold Fo_s_l01Parallel s_l01Parallel
  (try simp only [wI_eq])
  repeat' (first | with_reducible rfl | with_reducible refine chk_opt hp ?_ | with_reducible refine chk_opt h0 ?_ | refine chk_opt (and_all hp fun _ => hp) ?_ | refine chk_opt (and_all hp fun _ => rfl) ?_ | refine ite_opt (fun _ => ?_) (fun _ => ?_) | rfl)
def run_s_l01Parallel : List PV → Option (Bool × List TR)
  | [.v (.int .i64 p), .v (.agg ⟨[.int .i64 l0, .int .i64 l1, .int .i64 l2]⟩), .v (.agg ⟨[.int .i64 a0, .int .i64 a1]⟩)] => some (prB p, enc_a3 (s_l01Parallel p (l0, l1, l2) (a0, a1)))
  | _ => none
theorem sound_s_l01Parallel : Sound Try.prog 124 run_s_l01Parallel := by
  refine sound_of de_a3 SO_s_l01Parallel (by kernel_rfl) Try.func124 Try.ntmps124 rfl (by kernel_rfl) ?_
  intro W pvs avs rs hargs hrun
  unfold run_s_l01Parallel at hrun
  split at hrun
  · simp only [Option.some.injEq, Prod.mk.injEq] at hrun
    obtain ⟨hp, rfl⟩ := hrun
    rename_i p l0 l1 l2 a0 a1
    exact ⟨_, _, _, hargs, rfl, (eq_s_l01Parallel p (l0, l1, l2) (a0, a1)).trans (tot_s_l01Parallel p (l0, l1, l2) (a0, a1) hp)⟩
  · cases hrun

def S_s_l03Lines : Sums := ⟨tblS [(124, run_s_l01Parallel), (75, run_s_l03Null)], tblM []⟩
theorem SO_s_l03Lines : SumsOK Try.prog S_s_l03Lines := ⟨tblS_ok ⟨⟨Try.call124, sound_s_l01Parallel⟩, ⟨Try.call75, sound_s_l03Null⟩, True.intro⟩, tblM_ok True.intro⟩
def T_s_l03Lines_0 (p : Int) (colour : Int) (a : Int × Int) (l15 : List Int) (m15 : Nat) (b : Int) : Tab := ⟨[.val (.int .i64 p), .val (.int .i64 colour), .val (.agg ⟨[.int .i64 a.1, .int .i64 a.2]⟩), .junk, .junk, .ptr 20 0, .val (.slice none 0 0), .row 60, .row 64, .val (.int .i64 b), .junk, .val (.int .i64 p), .val (.agg ⟨[.int .i64 0, .int .i64 1, .int .i64 0]⟩), .val (.agg ⟨[.int .i64 a.1, .int .i64 a.2]⟩), .val (.agg ⟨[.int .i64 ((s_l01Parallel p (0, 1, 0) a).1), .int .i64 ((s_l01Parallel p (0, 1, 0) a).2.1), .int .i64 ((s_l01Parallel p (0, 1, 0) a).2.2)]⟩), .junk, .row 64, .junk, .junk, .junk, .junk, .junk, .junk, .junk, .junk, .junk, .junk, .junk, .junk, .junk, .junk, .junk, .junk, .junk, .junk, .junk, .junk, .junk, .junk, .junk, .junk, .junk, .junk, .junk, .junk, .junk, .junk, .junk, .junk, .junk, .junk, .junk], [(20, .box 25 [.val (.int .i64 a.1), .val (.int .i64 a.2)]), (60, .row 29 3 m15 (.ints l15)), (64, .row 29 3 0 (.ints []))]⟩
def T_s_l03Lines_1 (p : Int) (colour : Int) (a : Int × Int) (l15 : List Int) (m15 : Nat) (b : Int) (l16 : List Int) (m16 : Nat) (i : Int) : Tab := ⟨[.val (.int .i64 p), .val (.int .i64 colour), .val (.agg ⟨[.int .i64 a.1, .int .i64 a.2]⟩), .junk, .junk, .ptr 20 0, .val (.slice none 0 0), .row 60, .row 64, .val (.int .i64 b), .val (.int .i64 i), .val (.int .i64 p), .val (.agg ⟨[.int .i64 0, .int .i64 1, .int .i64 0]⟩), .val (.agg ⟨[.int .i64 a.1, .int .i64 a.2]⟩), .val (.agg ⟨[.int .i64 ((s_l01Parallel p (0, 1, 0) a).1), .int .i64 ((s_l01Parallel p (0, 1, 0) a).2.1), .int .i64 ((s_l01Parallel p (0, 1, 0) a).2.2)]⟩), .junk, .junk, .val (.int .i64 b), .val (.int .i64 p), .val (.bool (decide (b < p))), .junk, .junk, .junk, .junk, .junk, .junk, .junk, .junk, .junk, .junk, .junk, .junk, .junk, .junk, .junk, .junk, .junk, .junk, .junk, .junk, .junk, .junk, .junk, .junk, .junk, .junk, .junk, .junk, .junk, .junk, .junk, .junk], [(20, .box 25 [.val (.int .i64 a.1), .val (.int .i64 a.2)]), (60, .row 29 3 m15 (.ints l15)), (64, .row 29 3 m16 (.ints l16))]⟩
def X_s_l03Lines_1 (P : Program) (fu : Nat) (p : Int) (colour : Int) (a : Int × Int) (l15 : List Int) (m15 : Nat) (b : Int) (rc0 : Tab → Option (Nat × List Int)) (f : Nat) (l16 : List Int) (m16 : Nat) (i : Int) : Option (Nat × List Int) := loopK (exec P S_s_l03Lines 52 (fun _ => fu + 100) (Code.sub [1, 1, 1, 0, 1, 0, 0] (bodyF P 77))) f (T_s_l03Lines_1 p colour a l15 m15 b l16 m16 i) (kBlock 2 (kSeq (fun s => exec P S_s_l03Lines 52 (fun _ => fu + 100) (Code.sub [1, 1, 1, 1] (bodyF P 77)) s (finT P 77 dec_l29_3)) (finT P 77 dec_l29_3)))
def B_s_l03Lines_1 (p : Int) (colour : Int) (a : Int × Int) (l15 : List Int) (m15 : Nat) (b : Int) (rec0 : (List Int) → Nat → Int → Option (Nat × List Int)) (rec1 : (List Int) → Nat → Int → Option (Nat × List Int)) (l16 : List Int) (m16 : Nat) (i : Int) : Option (Nat × List Int) :=
  (if (decide (i < ((m15 : Nat) : Int))) = true then (if (decide (0 ≤ i) && decide (i < ((m15 : Nat) : Int))) = true then (if (Nat.ble (i.toNat * 3 + 3) l15.length) = true then (if (prB p) = true then (if (!(s_l03Null p colour (l15.getD (i.toNat * 3 + 0) 0, l15.getD (i.toNat * 3 + 1) 0, l15.getD (i.toNat * 3 + 2) 0))) = true then (if (decide (0 ≤ i) && decide (i < ((m15 : Nat) : Int))) = true then (if (Nat.ble (i.toNat * 3 + 3) l15.length) = true then (if (Nat.ble 1 1 && Nat.ble (m16 + 1) 1000000 && Nat.beq 3 (3)) = true then rec1 (l16 ++ [l15.getD (i.toNat * 3 + 0) 0, l15.getD (i.toNat * 3 + 1) 0, l15.getD (i.toNat * 3 + 2) 0]) (m16 + 1) (wI (i + 1)) else none) else none) else none) else rec1 l16 m16 (wI (i + 1))) else none) else none) else none) else some (m16, l16))
def L_s_l03Lines_1 (fu : Nat) (p : Int) (colour : Int) (a : Int × Int) (l15 : List Int) (m15 : Nat) (b : Int) (rec0 : (List Int) → Nat → Int → Option (Nat × List Int)) : Nat → (List Int) → Nat → Int → Option (Nat × List Int)
  | 0, _, _, _ => none
  | f + 1, l16, m16, i => B_s_l03Lines_1 p colour a l15 m15 b rec0 (L_s_l03Lines_1 fu p colour a l15 m15 b rec0 f) l16 m16 i
theorem loop_s_l03Lines_1 (fu : Nat) (p : Int) (colour : Int) (a : Int × Int) (l15 : List Int) (m15 : Nat) (b : Int) (rc0 : Tab → Option (Nat × List Int)) : ∀ (f : Nat) (l16 : List Int) (m16 : Nat) (i : Int), X_s_l03Lines_1 Try.prog fu p colour a l15 m15 b rc0 f l16 m16 i = L_s_l03Lines_1 fu p colour a l15 m15 b (fun l15 m15 b => rc0 (T_s_l03Lines_0 p colour a l15 m15 b)) f l16 m16 i := by
  intro f
  induction f with
  | zero => intros; rfl
  | succ f ih =>
    intro l16 m16 i
    have h1 : X_s_l03Lines_1 Try.prog fu p colour a l15 m15 b rc0 (f + 1) l16 m16 i = B_s_l03Lines_1 p colour a l15 m15 b (fun l15 m15 b => rc0 (T_s_l03Lines_0 p colour a l15 m15 b)) (X_s_l03Lines_1 Try.prog fu p colour a l15 m15 b rc0 f) l16 m16 i := by kernel_rfl
    have h2 : X_s_l03Lines_1 Try.prog fu p colour a l15 m15 b rc0 f = L_s_l03Lines_1 fu p colour a l15 m15 b (fun l15 m15 b => rc0 (T_s_l03Lines_0 p colour a l15 m15 b)) f := by funext l16 m16 i; exact ih l16 m16 i
    rw [h1, h2]
    rfl
def X_s_l03Lines_0 (P : Program) (fu : Nat) (p : Int) (colour : Int) (a : Int × Int) (f : Nat) (l15 : List Int) (m15 : Nat) (b : Int) : Option (Nat × List Int) := loopK (exec P S_s_l03Lines 52 (fun _ => fu + 100) (Code.sub [1, 1, 0, 1, 0, 0] (bodyF P 77))) f (T_s_l03Lines_0 p colour a l15 m15 b) (kBlock 0 (kSeq (fun s => exec P S_s_l03Lines 52 (fun _ => fu + 100) (Code.sub [1, 1, 1] (bodyF P 77)) s (finT P 77 dec_l29_3)) (finT P 77 dec_l29_3)))
def B_s_l03Lines_0 (p : Int) (colour : Int) (a : Int × Int) (lo1 : (List Int) → Nat → Int → Option (Nat × List Int)) (rec0 : (List Int) → Nat → Int → Option (Nat × List Int)) (l15 : List Int) (m15 : Nat) (b : Int) : Option (Nat × List Int) :=
  (if (decide (b < p)) = true then (if (prB p) = true then (if (Nat.ble 1 1 && Nat.ble (m15 + 1) 1000000 && Nat.beq 3 (3)) = true then rec0 (l15 ++ [(s_l01Parallel p (1, b, 0) a).1, (s_l01Parallel p (1, b, 0) a).2.1, (s_l01Parallel p (1, b, 0) a).2.2]) (m15 + 1) (wI (b + 1)) else none) else none) else lo1 [] 0 0)
def L_s_l03Lines_0 (fu : Nat) (p : Int) (colour : Int) (a : Int × Int) : Nat → (List Int) → Nat → Int → Option (Nat × List Int)
  | 0, _, _, _ => none
  | f + 1, l15, m15, b => B_s_l03Lines_0 p colour a (L_s_l03Lines_1 fu p colour a l15 m15 b (L_s_l03Lines_0 fu p colour a f) (fu + 100)) (L_s_l03Lines_0 fu p colour a f) l15 m15 b
theorem loop_s_l03Lines_0 (fu : Nat) (p : Int) (colour : Int) (a : Int × Int) : ∀ (f : Nat) (l15 : List Int) (m15 : Nat) (b : Int), X_s_l03Lines_0 Try.prog fu p colour a f l15 m15 b = L_s_l03Lines_0 fu p colour a f l15 m15 b := by
  intro f
  induction f with
  | zero => intros; rfl
  | succ f ih =>
    intro l15 m15 b
    have h1 : X_s_l03Lines_0 Try.prog fu p colour a (f + 1) l15 m15 b = B_s_l03Lines_0 p colour a (X_s_l03Lines_1 Try.prog fu p colour a l15 m15 b (fun t => loopK (exec Try.prog S_s_l03Lines 52 (fun _ => fu + 100) (Code.sub [1, 1, 0, 1, 0, 0] (bodyF Try.prog 77))) f t (kBlock 0 (kSeq (fun s => exec Try.prog S_s_l03Lines 52 (fun _ => fu + 100) (Code.sub [1, 1, 1] (bodyF Try.prog 77)) s (finT Try.prog 77 dec_l29_3)) (finT Try.prog 77 dec_l29_3)))) (fu + 100)) (X_s_l03Lines_0 Try.prog fu p colour a f) l15 m15 b := by kernel_rfl
    have h2 : X_s_l03Lines_0 Try.prog fu p colour a f = L_s_l03Lines_0 fu p colour a f := by funext l15 m15 b; exact ih l15 m15 b
    have c1 : (X_s_l03Lines_1 Try.prog fu p colour a l15 m15 b (fun t => loopK (exec Try.prog S_s_l03Lines 52 (fun _ => fu + 100) (Code.sub [1, 1, 0, 1, 0, 0] (bodyF Try.prog 77))) f t (kBlock 0 (kSeq (fun s => exec Try.prog S_s_l03Lines 52 (fun _ => fu + 100) (Code.sub [1, 1, 1] (bodyF Try.prog 77)) s (finT Try.prog 77 dec_l29_3)) (finT Try.prog 77 dec_l29_3)))) (fu + 100)) = L_s_l03Lines_1 fu p colour a l15 m15 b (X_s_l03Lines_0 Try.prog fu p colour a f) (fu + 100) := by funext l16 m16 i; exact loop_s_l03Lines_1 fu p colour a l15 m15 b (fun t => loopK (exec Try.prog S_s_l03Lines 52 (fun _ => fu + 100) (Code.sub [1, 1, 0, 1, 0, 0] (bodyF Try.prog 77))) f t (kBlock 0 (kSeq (fun s => exec Try.prog S_s_l03Lines 52 (fun _ => fu + 100) (Code.sub [1, 1, 1] (bodyF Try.prog 77)) s (finT Try.prog 77 dec_l29_3)) (finT Try.prog 77 dec_l29_3)))) (fu + 100) l16 m16 i
    rw [h1, c1, h2]
    rfl
def G_s_l03Lines (p : Int) (colour : Int) (a : Int × Int) (lo0 : (List Int) → Nat → Int → Option (Nat × List Int)) : Option (Nat × List Int) :=
  (if (prB p) = true then lo0 [(s_l01Parallel p (0, 1, 0) a).1, (s_l01Parallel p (0, 1, 0) a).2.1, (s_l01Parallel p (0, 1, 0) a).2.2] 1 0 else none)
def Fo_s_l03Lines (fu : Nat) (p : Int) (colour : Int) (a : Int × Int) : Option (Nat × List Int) := G_s_l03Lines p colour a (L_s_l03Lines_0 fu p colour a (fu + 100))
theorem eqg_s_l03Lines (fu : Nat) (p : Int) (colour : Int) (a : Int × Int) : execT Try.prog S_s_l03Lines 77 52 (fun _ => fu + 100) dec_l29_3 [.v (.int .i64 p), .v (.int .i64 colour), .v (.agg ⟨[.int .i64 a.1, .int .i64 a.2]⟩)] = G_s_l03Lines p colour a (L_s_l03Lines_0 fu p colour a (fu + 100)) := by
  have h1 : execT Try.prog S_s_l03Lines 77 52 (fun _ => fu + 100) dec_l29_3 [.v (.int .i64 p), .v (.int .i64 colour), .v (.agg ⟨[.int .i64 a.1, .int .i64 a.2]⟩)] = G_s_l03Lines p colour a (X_s_l03Lines_0 Try.prog fu p colour a (fu + 100)) := by kernel_rfl
  have c0 : X_s_l03Lines_0 Try.prog fu p colour a (fu + 100) = L_s_l03Lines_0 fu p colour a (fu + 100) := by funext l15 m15 b; exact loop_s_l03Lines_0 fu p colour a (fu + 100) l15 m15 b
  rw [h1, c0]
theorem eq_s_l03Lines (fu : Nat) (p : Int) (colour : Int) (a : Int × Int) : execT Try.prog S_s_l03Lines 77 52 (fun _ => fu + 100) dec_l29_3 [.v (.int .i64 p), .v (.int .i64 colour), .v (.agg ⟨[.int .i64 a.1, .int .i64 a.2]⟩)] = Fo_s_l03Lines fu p colour a := eqg_s_l03Lines fu p colour a
def linesS (p : Int) (a : P2) : List P3 := (s_l01Parallel p (0, 1, 0) a :: (List.range p.toNat).map fun b : Nat => s_l01Parallel p (1, (b : Int), 0) a)
def nonnullL (p colour : Int) (a : P2) : List P3 := (linesS p a).filter fun zz => (!(s_l03Null p colour zz))
def s_l03Lines (p colour : Int) (a : P2) : Nat × List Int := ((nonnullL p colour a).length, flat3 (nonnullL p colour a))
theorem linesS_len {p : Int} (hp : prB p = true) (a : P2) : (linesS p a).length ≤ 993 := by
  have h1 := (prB_nat hp).1
  unfold linesS
  simp; omega
theorem nonnull_len {p : Int} (hp : prB p = true) (colour : Int) (a : P2) : (nonnullL p colour a).length ≤ 993 := Nat.le_trans (List.length_filter_le _ _) (linesS_len hp a)
theorem lo1_s_l03Lines {p colour : Int} {a : P2} (hp : prB p = true) (fu : Nat) (l15 : List Int) (m15 : Nat) (b : Int) (rec0 : List Int → Nat → Int → Option (Nat × List Int)) {F : Nat} (hF : m15 < F) (hl : l15.length = 3 * m15) (hm : m15 ≤ 10000) :
    L_s_l03Lines_1 fu p colour a l15 m15 b rec0 F [] 0 0 = some (((rows3 m15 l15).filter fun zz => (!(s_l03Null p colour zz))).length, flat3 ((rows3 m15 l15).filter fun zz => (!(s_l03Null p colour zz)))) := by
  exact gather (flat := flat3) flat3_app rfl (L := fun f l m i => L_s_l03Lines_1 fu p colour a l15 m15 b rec0 f l m i) (n := m15) (b := 1) (M := 0) (fun k => if (!(s_l03Null p colour (R3 l15 k))) = true then [R3 l15 k] else []) (K := (some (((rows3 m15 l15).filter fun zz => (!(s_l03Null p colour zz))).length, flat3 ((rows3 m15 l15).filter fun zz => (!(s_l03Null p colour zz)))))) (l := []) (m := 0) (F := F) (by intro k hk; first | (split <;> simp) | simp_all)
    (fun f k l m hk hm => by
      show B_s_l03Lines_1 p colour a l15 m15 b rec0 (L_s_l03Lines_1 fu p colour a l15 m15 b rec0 f) l m (k : Int) = _
      unfold B_s_l03Lines_1
      have x0 : prB p = true := hp
      have e0 : decide (0 ≤ (k : Int)) = true := by simp
      have e1 := cnd hk
      have e3 : (k : Int).toNat = k := Int.toNat_natCast k
      have e4 := row3_ok hl hk
      have e5 : Nat.ble 1 1 = true := rfl
      have e6 : Nat.ble (m + 1) 1000000 = true := leb (by omega)
      simp only [e0, e1, e3, e4, e5, e6, beq33, x0, Bool.and_true, Bool.true_and, if_true, wrap_add1 hk (by omega)]
      have hq0 : ((!(s_l03Null p colour (l15.getD (k * 3 + 0) 0, l15.getD (k * 3 + 1) 0, l15.getD (k * 3 + 2) 0)))) = ((!(s_l03Null p colour (R3 l15 k)))) := rfl
      try rw [hq0]
      generalize ((!(s_l03Null p colour (R3 l15 k)))) = c0
      cases c0 <;> first
        | rfl
        | (simp only [Bool.false_eq_true, Bool.false_and, Bool.and_false, Bool.true_and, if_false, if_true]
           rw [show flat3 [] = [] from rfl, List.append_nil]
           rfl))
    (fun f hm => by
      show B_s_l03Lines_1 p colour a l15 m15 b rec0 (L_s_l03Lines_1 fu p colour a l15 m15 b rec0 f) ([] ++ flat3 ((List.range m15).flatMap (fun k => if (!(s_l03Null p colour (R3 l15 k))) = true then [R3 l15 k] else []))) (0 + ((List.range m15).flatMap (fun k => if (!(s_l03Null p colour (R3 l15 k))) = true then [R3 l15 k] else [])).length) ((m15 : Nat) : Int) = _
      unfold B_s_l03Lines_1
      have hkp : ((List.range (m15)).flatMap fun k => if (!(s_l03Null p colour (R3 l15 k))) = true then [R3 l15 k] else []) = (rows3 (m15) l15).filter (fun zz => (!(s_l03Null p colour zz))) := keep3 (m15) l15 (fun zz => (!(s_l03Null p colour zz)))
      rw [if_neg (by simp), hkp]
      simp) hF (Nat.le_refl _)
theorem tot_s_l03Lines (p : Int) (colour : Int) (a : Int × Int) (hp : (prB p) = true) : Fo_s_l03Lines 1000000 p colour a = some (s_l03Lines p colour a) := by
  obtain ⟨h1, h0, hpn⟩ := prB_nat hp
  unfold Fo_s_l03Lines G_s_l03Lines
  rw [if_pos hp]
  have hS : [(s_l01Parallel p (0, 1, 0) a).1, (s_l01Parallel p (0, 1, 0) a).2.1, (s_l01Parallel p (0, 1, 0) a).2.2] ++ flat3 ((List.range p.toNat).map fun b : Nat => s_l01Parallel p (1, (b : Int), 0) a) = flat3 (linesS p a) := rfl
  have hM : 1 + ((List.range p.toNat).map fun b : Nat => s_l01Parallel p (1, (b : Int), 0) a).length = (linesS p a).length := by unfold linesS; simp; omega
  exact gather (flat := flat3) flat3_app rfl (L := fun f l m i => L_s_l03Lines_0 1000000 p colour a f l m i) (n := p.toNat) (b := 1) (M := 1) (fun b : Nat => [s_l01Parallel p (1, (b : Int), 0) a]) (K := (some (s_l03Lines p colour a))) (l := [(s_l01Parallel p (0, 1, 0) a).1, (s_l01Parallel p (0, 1, 0) a).2.1, (s_l01Parallel p (0, 1, 0) a).2.2]) (m := 1) (F := (1000000 + 100)) (by intro k hk; first | (split <;> simp) | simp_all)
    (fun f k l m hk hm => by
      show B_s_l03Lines_0 p colour a (L_s_l03Lines_1 1000000 p colour a l m (k : Int) (L_s_l03Lines_0 1000000 p colour a f) (1000000 + 100)) (L_s_l03Lines_0 1000000 p colour a f) l m (k : Int) = _
      unfold B_s_l03Lines_0
      simp only [cndp hk, hp, if_true]
      rw [if_pos (by simp; omega), wrap_add1 hk (by omega)]
      rfl)
    (fun f hm => by
      show B_s_l03Lines_0 p colour a (L_s_l03Lines_1 1000000 p colour a ([(s_l01Parallel p (0, 1, 0) a).1, (s_l01Parallel p (0, 1, 0) a).2.1, (s_l01Parallel p (0, 1, 0) a).2.2] ++ flat3 ((List.range p.toNat).flatMap (fun b : Nat => [s_l01Parallel p (1, (b : Int), 0) a]))) (1 + ((List.range p.toNat).flatMap (fun b : Nat => [s_l01Parallel p (1, (b : Int), 0) a])).length) ((p.toNat : Nat) : Int) (L_s_l03Lines_0 1000000 p colour a f) (1000000 + 100)) (L_s_l03Lines_0 1000000 p colour a f) ([(s_l01Parallel p (0, 1, 0) a).1, (s_l01Parallel p (0, 1, 0) a).2.1, (s_l01Parallel p (0, 1, 0) a).2.2] ++ flat3 ((List.range p.toNat).flatMap (fun b : Nat => [s_l01Parallel p (1, (b : Int), 0) a]))) (1 + ((List.range p.toNat).flatMap (fun b : Nat => [s_l01Parallel p (1, (b : Int), 0) a])).length) ((p.toNat : Nat) : Int) = _
      unfold B_s_l03Lines_0
      rw [if_neg (by simp; omega)]
      simp only [flatMap_one]
      rw [lo1_s_l03Lines hp _ _ _ _ _ (by simp; omega) (by rw [hS, hM]; exact flat3_len _) (by simp; omega), hS, hM, rows3_flat3]
      rfl) (by omega) (Nat.le_refl _)
def run_s_l03Lines : List PV → Option (Bool × List TR)
  | [.v (.int .i64 p), .v (.int .i64 colour), .v (.agg ⟨[.int .i64 a0, .int .i64 a1]⟩)] => some (prB p, enc_l29_3 (s_l03Lines p colour (a0, a1)))
  | _ => none
theorem sound_s_l03Lines : Sound Try.prog 77 run_s_l03Lines := by
  refine sound_of de_l29_3 SO_s_l03Lines (by kernel_rfl) Try.func77 Try.ntmps77 rfl (by kernel_rfl) ?_
  intro W pvs avs rs hargs hrun
  unfold run_s_l03Lines at hrun
  split at hrun
  · simp only [Option.some.injEq, Prod.mk.injEq] at hrun
    obtain ⟨hp, rfl⟩ := hrun
    rename_i p colour a0 a1
    exact ⟨_, _, _, hargs, rfl, (eq_s_l03Lines _ p colour (a0, a1)).trans (tot_s_l03Lines p colour (a0, a1) hp)⟩
  · cases hrun

theorem nonnull_all : ∀ p ∈ ([3, 5, 7, 11, 13, 17, 19, 23, 29, 31] : List Int), ∀ c ∈ ([0, 1, 2] : List Int), s_l03Null p c (0, 1, 0) = false ∨ s_l03Null p c (1, 1, 0) = false := by decide +kernel
theorem l03_pos {p c : Int} (a : P2) (hf : i_IsField p = true) (hc : s_l01In c 0 2 = true) : (1 : Int) ≤ (((s_l03Lines p c a).1 : Nat) : Int) := by
  have hm : p ∈ ([3, 5, 7, 11, 13, 17, 19, 23, 29, 31] : List Int) := by
    unfold i_IsField at hf
    simp at hf
    simp
    omega
  have hcm : c ∈ ([0, 1, 2] : List Int) := by
    unfold s_l01In at hc
    simp at hc
    simp
    omega
  have hz : ∀ x y z w : Int, s_l03Null p c (x, y, z) = s_l03Null p c (x, y, w) := fun _ _ _ _ => rfl
  have : ∃ m, m ∈ nonnullL p c a := by
    rcases nonnull_all p hm c hcm with h | h
    · refine ⟨s_l01Parallel p (0, 1, 0) a, List.mem_filter.2 ⟨List.mem_cons_self, ?_⟩⟩
      unfold s_l01Parallel
      rw [hz 0 1 _ 0, h]
      rfl
    · refine ⟨s_l01Parallel p (1, ((1 : Nat) : Int), 0) a, List.mem_filter.2 ⟨List.mem_cons_of_mem _ (List.mem_map.2 ⟨1, List.mem_range.2 (by simp at hm; omega), rfl⟩), ?_⟩⟩
      unfold s_l01Parallel
      show (!(s_l03Null p c (1, 1, _))) = true
      rw [hz 1 1 _ 0, h]
      rfl
  obtain ⟨m, hm⟩ := this
  have := List.length_pos_of_mem hm
  show (1 : Int) ≤ (((nonnullL p c a).length : Nat) : Int)
  omega
def S_s_l03Cross : Sums := ⟨tblS [(114, run_s_l02Direction), (123, run_s_l02Product), (60, run_s_l01Inverse)], tblM []⟩
theorem SO_s_l03Cross : SumsOK Try.prog S_s_l03Cross := ⟨tblS_ok ⟨⟨Try.call114, sound_s_l02Direction⟩, ⟨Try.call123, sound_s_l02Product⟩, ⟨Try.call60, sound_s_l01Inverse⟩, True.intro⟩, tblM_ok True.intro⟩
def Fo_s_l03Cross (p : Int) (colour : Int) (l : Int × Int × Int) (m : Int × Int × Int) : Option (Int) :=
  (if (prB p) = true then (if (prB p) = true then (if (prB p) = true then (if (!(p == 0)) = true then (if (prB p) = true then (if (prB p) = true then (if (prB p) = true then (if (!(p == 0)) = true then some ((wI (((wI ((s_l02Product p colour (s_l02Direction p l) (s_l02Direction p m)) * (s_l02Product p colour (s_l02Direction p l) (s_l02Direction p m)))).tmod p) * (s_l01Inverse (wI ((s_l02Product p colour (s_l02Direction p l) (s_l02Direction p l)) * (s_l02Product p colour (s_l02Direction p m) (s_l02Direction p m)))) p))).tmod p) else none) else none) else none) else none) else none) else none) else none) else none)
theorem eq_s_l03Cross (p : Int) (colour : Int) (l : Int × Int × Int) (m : Int × Int × Int) : execT Try.prog S_s_l03Cross 125 44 (fun _ => 1000000) dec_i [.v (.int .i64 p), .v (.int .i64 colour), .v (.agg ⟨[.int .i64 l.1, .int .i64 l.2.1, .int .i64 l.2.2]⟩), .v (.agg ⟨[.int .i64 m.1, .int .i64 m.2.1, .int .i64 m.2.2]⟩)] = Fo_s_l03Cross p colour l m := by
  kernel_rfl
def s_l03Cross (p : Int) (colour : Int) (l : Int × Int × Int) (m : Int × Int × Int) : Int :=
  (wrap64 (((wrap64 ((s_l02Product p colour (s_l02Direction p l) (s_l02Direction p m)) * (s_l02Product p colour (s_l02Direction p l) (s_l02Direction p m)))).tmod p) * (s_l01Inverse (wrap64 ((s_l02Product p colour (s_l02Direction p l) (s_l02Direction p l)) * (s_l02Product p colour (s_l02Direction p m) (s_l02Direction p m)))) p))).tmod p
theorem tot_s_l03Cross (p : Int) (colour : Int) (l : Int × Int × Int) (m : Int × Int × Int) (hp : (prB p) = true) : Fo_s_l03Cross p colour l m = some (s_l03Cross p colour l m) := by
  try have h0 := prB_ne hp
  unfold Fo_s_l03Cross s_l03Cross
  (try simp only [wI_eq])
  repeat' (first | with_reducible rfl | with_reducible refine chk_opt hp ?_ | with_reducible refine chk_opt h0 ?_ | refine chk_opt (and_all hp fun _ => hp) ?_ | refine chk_opt (and_all hp fun _ => rfl) ?_ | refine ite_opt (fun _ => ?_) (fun _ => ?_) | rfl)
def run_s_l03Cross : List PV → Option (Bool × List TR)
  | [.v (.int .i64 p), .v (.int .i64 colour), .v (.agg ⟨[.int .i64 l0, .int .i64 l1, .int .i64 l2]⟩), .v (.agg ⟨[.int .i64 m0, .int .i64 m1, .int .i64 m2]⟩)] => some (prB p, enc_i (s_l03Cross p colour (l0, l1, l2) (m0, m1, m2)))
  | _ => none
theorem sound_s_l03Cross : Sound Try.prog 125 run_s_l03Cross := by
  refine sound_of de_i SO_s_l03Cross (by kernel_rfl) Try.func125 Try.ntmps125 rfl (by kernel_rfl) ?_
  intro W pvs avs rs hargs hrun
  unfold run_s_l03Cross at hrun
  split at hrun
  · simp only [Option.some.injEq, Prod.mk.injEq] at hrun
    obtain ⟨hp, rfl⟩ := hrun
    rename_i p colour l0 l1 l2 m0 m1 m2
    exact ⟨_, _, _, hargs, rfl, (eq_s_l03Cross p colour (l0, l1, l2) (m0, m1, m2)).trans (tot_s_l03Cross p colour (l0, l1, l2) (m0, m1, m2) hp)⟩
  · cases hrun

def S_s_l03Spread : Sums := ⟨tblS [(125, run_s_l03Cross), (62, run_s_l01Mod)], tblM []⟩
theorem SO_s_l03Spread : SumsOK Try.prog S_s_l03Spread := ⟨tblS_ok ⟨⟨Try.call125, sound_s_l03Cross⟩, ⟨Try.call62, sound_s_l01Mod⟩, True.intro⟩, tblM_ok True.intro⟩
def Fo_s_l03Spread (p : Int) (colour : Int) (l : Int × Int × Int) (m : Int × Int × Int) : Option (Int) :=
  (if (prB p) = true then (if (prB p) = true then some (s_l01Mod (wI (1 - (s_l03Cross p colour l m))) p) else none) else none)
theorem eq_s_l03Spread (p : Int) (colour : Int) (l : Int × Int × Int) (m : Int × Int × Int) : execT Try.prog S_s_l03Spread 78 17 (fun _ => 1000000) dec_i [.v (.int .i64 p), .v (.int .i64 colour), .v (.agg ⟨[.int .i64 l.1, .int .i64 l.2.1, .int .i64 l.2.2]⟩), .v (.agg ⟨[.int .i64 m.1, .int .i64 m.2.1, .int .i64 m.2.2]⟩)] = Fo_s_l03Spread p colour l m := by
  kernel_rfl
def s_l03Spread (p : Int) (colour : Int) (l : Int × Int × Int) (m : Int × Int × Int) : Int :=
  (s_l01Mod (wrap64 (1 - (s_l03Cross p colour l m))) p)
theorem tot_s_l03Spread (p : Int) (colour : Int) (l : Int × Int × Int) (m : Int × Int × Int) (hp : (prB p) = true) : Fo_s_l03Spread p colour l m = some (s_l03Spread p colour l m) := by
  try have h0 := prB_ne hp
  unfold Fo_s_l03Spread s_l03Spread
  (try simp only [wI_eq])
  repeat' (first | with_reducible rfl | with_reducible refine chk_opt hp ?_ | with_reducible refine chk_opt h0 ?_ | refine chk_opt (and_all hp fun _ => hp) ?_ | refine chk_opt (and_all hp fun _ => rfl) ?_ | refine ite_opt (fun _ => ?_) (fun _ => ?_) | rfl)
def run_s_l03Spread : List PV → Option (Bool × List TR)
  | [.v (.int .i64 p), .v (.int .i64 colour), .v (.agg ⟨[.int .i64 l0, .int .i64 l1, .int .i64 l2]⟩), .v (.agg ⟨[.int .i64 m0, .int .i64 m1, .int .i64 m2]⟩)] => some (prB p, enc_i (s_l03Spread p colour (l0, l1, l2) (m0, m1, m2)))
  | _ => none
theorem sound_s_l03Spread : Sound Try.prog 78 run_s_l03Spread := by
  refine sound_of de_i SO_s_l03Spread (by kernel_rfl) Try.func78 Try.ntmps78 rfl (by kernel_rfl) ?_
  intro W pvs avs rs hargs hrun
  unfold run_s_l03Spread at hrun
  split at hrun
  · simp only [Option.some.injEq, Prod.mk.injEq] at hrun
    obtain ⟨hp, rfl⟩ := hrun
    rename_i p colour l0 l1 l2 m0 m1 m2
    exact ⟨_, _, _, hargs, rfl, (eq_s_l03Spread p colour (l0, l1, l2) (m0, m1, m2)).trans (tot_s_l03Spread p colour (l0, l1, l2) (m0, m1, m2) hp)⟩
  · cases hrun

theorem sspread_b {p : Int} (hp : prB p = true) (c : Int) (a b : P3) : 0 ≤ s_l03Spread p c a b ∧ s_l03Spread p c a b < p := by
  obtain ⟨h1, h2⟩ := prB_Pr hp
  unfold s_l03Spread s_l01Mod
  exact ⟨Int.emod_nonneg _ (by omega), Int.emod_lt_of_pos _ (by omega)⟩

end

end Go.Proofs.Ytpffcfiojjgnlaa
