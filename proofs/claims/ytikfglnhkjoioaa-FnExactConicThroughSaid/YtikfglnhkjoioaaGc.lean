import Derived.Test.YtikfglnhkjoioaaGb
import Derived.Test.YtikfglnhkjoioaaProg
set_option linter.unusedSimpArgs false
set_option linter.unusedVariables false
namespace Go.Proofs.Ytikfglnhkjoioaa
open Go.RowKit
noncomputable section
def S_l_szPointS : Sums := ⟨tblS [], tblM [], false, false⟩
theorem SO_l_szPointS : SumsOK Try.prog S_l_szPointS := ⟨tblS_ok True.intro, tblM_ok True.intro⟩
def Fo_l_szPointS (an : Nat) (al : List Int) (left : Int) : Option (Int) :=
  (if (decide ((wI (left - ((an : Nat) : Int))) < 0)) = true then some (-1) else some (wI (left - ((an : Nat) : Int))))
theorem eq_l_szPointS (an : Nat) (al : List Int) (left : Int) : execT Try.prog S_l_szPointS 10 12 (fun _ => 1000000) dec_i [.s an (.ints al), .v (.int .i64 left)] = Fo_l_szPointS an al left := by
  kernel_rfl
def l_szPointS (an : Nat) (al : List Int) (left : Int) : Int :=
  (if (decide ((wrap64 (left - ((an : Nat) : Int))) < 0)) = true then (-1) else wrap64 (left - ((an : Nat) : Int)))
theorem tot_l_szPointS (an : Nat) (al : List Int) (left : Int) : Fo_l_szPointS an al left = some (l_szPointS an al left) := by
  unfold Fo_l_szPointS l_szPointS
  (try simp only [wI_eq])
  repeat' (first | with_reducible rfl | refine ite_opt (fun _ => ?_) (fun _ => ?_) | rfl)
def run_l_szPointS : List PV → Option (Bool × List TR)
  | [.s an (.ints al), .v (.int .i64 left)] => some (true, enc_i (l_szPointS an al left))
  | _ => none
theorem sound_l_szPointS : Sound Try.prog 10 run_l_szPointS := by
  refine sound_of de_i SO_l_szPointS (by kernel_rfl) Try.func10 Try.ntmps10 rfl (by kernel_rfl) ?_
  intro W pvs avs rs hargs hrun
  unfold run_l_szPointS at hrun
  split at hrun
  · simp only [Option.some.injEq, Prod.mk.injEq] at hrun
    obtain ⟨hp, rfl⟩ := hrun
    rename_i an al left
    exact ⟨_, _, _, hargs, rfl, (eq_l_szPointS an al left).trans (tot_l_szPointS an al left)⟩
  · cases hrun

def S_l_toPoint : Sums := ⟨tblS [], tblM [], false, false⟩
theorem SO_l_toPoint : SumsOK Try.prog S_l_toPoint := ⟨tblS_ok True.intro, tblM_ok True.intro⟩
def Fo_l_toPoint (a : Int × Int) : Option (Int × Int) :=
  some a
theorem eq_l_toPoint (a : Int × Int) : execT Try.prog S_l_toPoint 25 15 (fun _ => 1000000) dec_a2 [.v (.agg ⟨[.int .i64 a.1, .int .i64 a.2]⟩)] = Fo_l_toPoint a := by
  kernel_rfl
def l_toPoint (a : Int × Int) : Int × Int :=
  a
theorem tot_l_toPoint (a : Int × Int) : Fo_l_toPoint a = some (l_toPoint a) := by
  unfold Fo_l_toPoint l_toPoint
  (try simp only [wI_eq])
  repeat' (first | with_reducible rfl | refine ite_opt (fun _ => ?_) (fun _ => ?_) | rfl)
def run_l_toPoint : List PV → Option (Bool × List TR)
  | [.v (.agg ⟨[.int .i64 a0, .int .i64 a1]⟩)] => some (true, enc_a2 (l_toPoint (a0, a1)))
  | _ => none
theorem sound_l_toPoint : Sound Try.prog 25 run_l_toPoint := by
  refine sound_of de_a2 SO_l_toPoint (by kernel_rfl) Try.func25 Try.ntmps25 rfl (by kernel_rfl) ?_
  intro W pvs avs rs hargs hrun
  unfold run_l_toPoint at hrun
  split at hrun
  · simp only [Option.some.injEq, Prod.mk.injEq] at hrun
    obtain ⟨hp, rfl⟩ := hrun
    rename_i a0 a1
    exact ⟨_, _, _, hargs, rfl, (eq_l_toPoint (a0, a1)).trans (tot_l_toPoint (a0, a1))⟩
  · cases hrun

def S_l_toPointS : Sums := ⟨tblS [(25, run_l_toPoint)], tblM [], false, false⟩
theorem SO_l_toPointS : SumsOK Try.prog S_l_toPointS := ⟨tblS_ok ⟨⟨Try.call25, sound_l_toPoint⟩, True.intro⟩, tblM_ok True.intro⟩
def T_l_toPointS_0 (an : Nat) (al : List Int) (l7 : List Int) (i : Int) : Tab := ⟨[.row 0, .junk, .val (.slice none 0 0), .row 28, .val (.int .i64 i), .row 0, .val (.int .i64 ((an : Nat) : Int)), .row 28, .junk, .junk, .junk, .junk, .junk, .junk, .junk, .junk, .junk, .junk, .junk, .junk, .junk, .junk, .junk], [(0, .ros an (.ints al)), (28, .row 48 2 (((an : Nat) : Int).toNat) (.ints l7))]⟩
def X_l_toPointS_0 (P : Program) (fu : Nat) (an : Nat) (al : List Int) (f : Nat) (l7 : List Int) (i : Int) : Option (Nat × List Int) := loopK (exec P S_l_toPointS 23 (fun _ => fu + 100) (Code.sub [1, 1, 0, 1, 0, 0] (bodyF P 12))) f (T_l_toPointS_0 an al l7 i) (kBlock 0 (kSeq (fun zs9 => exec P S_l_toPointS 23 (fun _ => fu + 100) (Code.sub [1, 1, 1] (bodyF P 12)) zs9 (finT P 12 dec_l48_2)) (finT P 12 dec_l48_2)))
def B_l_toPointS_0 (an : Nat) (al : List Int) (rec0 : (List Int) → Int → Option (Nat × List Int)) (l7 : List Int) (i : Int) : Option (Nat × List Int) :=
  (if (decide (i < ((an : Nat) : Int))) = true then (if (decide (0 ≤ i) && decide (i < ((an : Nat) : Int))) = true then (if (Nat.ble (i.toNat * 2 + 2) al.length) = true then (if (decide (0 ≤ i) && decide (i < ((((an : Nat) : Int).toNat : Nat) : Int))) = true then (if (Nat.ble (i.toNat * 2 + 2) l7.length) = true then rec0 ((l7.set (i.toNat * 2 + 0) ((l_toPoint (al.getD (i.toNat * 2 + 0) 0, al.getD (i.toNat * 2 + 1) 0)).1)).set (i.toNat * 2 + 1) ((l_toPoint (al.getD (i.toNat * 2 + 0) 0, al.getD (i.toNat * 2 + 1) 0)).2)) (wI (i + 1)) else none) else none) else none) else none) else some (((an : Nat) : Int).toNat, l7))
def L_l_toPointS_0 (fu : Nat) (an : Nat) (al : List Int) : Nat → (List Int) → Int → Option (Nat × List Int)
  | 0, _, _ => none
  | f + 1, l7, i => B_l_toPointS_0 an al (L_l_toPointS_0 fu an al f) l7 i
theorem loop_l_toPointS_0 (fu : Nat) (an : Nat) (al : List Int) : ∀ (f : Nat) (l7 : List Int) (i : Int), X_l_toPointS_0 Try.prog fu an al f l7 i = L_l_toPointS_0 fu an al f l7 i := by
  intro f
  induction f with
  | zero => intros; rfl
  | succ f ih =>
    intro l7 i
    have h1 : X_l_toPointS_0 Try.prog fu an al (f + 1) l7 i = B_l_toPointS_0 an al (X_l_toPointS_0 Try.prog fu an al f) l7 i := by kernel_rfl
    have h2 : X_l_toPointS_0 Try.prog fu an al f = L_l_toPointS_0 fu an al f := by funext l7 i; exact ih l7 i
    rw [h1, h2]
    rfl
def G_l_toPointS (an : Nat) (al : List Int) (lo0 : (List Int) → Int → Option (Nat × List Int)) : Option (Nat × List Int) :=
  (if (decide (0 ≤ ((an : Nat) : Int)) && decide (((an : Nat) : Int) ≤ 2000000) && ((an : Nat) : Int) == ((an : Nat) : Int)) = true then lo0 (List.replicate ((((an : Nat) : Int).toNat) * 2) 0) 0 else none)
def Fo_l_toPointS (fu : Nat) (an : Nat) (al : List Int) : Option (Nat × List Int) := G_l_toPointS an al (L_l_toPointS_0 fu an al (fu + 100))
theorem eqg_l_toPointS (fu : Nat) (an : Nat) (al : List Int) : execT Try.prog S_l_toPointS 12 23 (fun _ => fu + 100) dec_l48_2 [.s an (.ints al)] = G_l_toPointS an al (L_l_toPointS_0 fu an al (fu + 100)) := by
  have h1 : execT Try.prog S_l_toPointS 12 23 (fun _ => fu + 100) dec_l48_2 [.s an (.ints al)] = G_l_toPointS an al (X_l_toPointS_0 Try.prog fu an al (fu + 100)) := by kernel_rfl
  have c0 : X_l_toPointS_0 Try.prog fu an al (fu + 100) = L_l_toPointS_0 fu an al (fu + 100) := by funext l7 i; exact loop_l_toPointS_0 fu an al (fu + 100) l7 i
  rw [h1, c0]
theorem eq_l_toPointS (fu : Nat) (an : Nat) (al : List Int) : execT Try.prog S_l_toPointS 12 23 (fun _ => fu + 100) dec_l48_2 [.s an (.ints al)] = Fo_l_toPointS fu an al := eqg_l_toPointS fu an al
def l_toPointS (an : Nat) (al : List Int) : Nat × List Int := (an, al)
theorem tot_l_toPointS (an : Nat) (al : List Int) (hp : (lenB an 2 al && Nat.ble an 1048576) = true) : Fo_l_toPointS an an al = some (l_toPointS an al) := by
  obtain ⟨hl, _⟩ := lenB_ok (and_l hp)
  have hn : an ≤ 1048576 := by have := and_r hp; simpa using this
  unfold Fo_l_toPointS G_l_toPointS l_toPointS
  rw [if_pos (by simp; omega), Int.toNat_natCast]
  have h := upto (L := fun f (s : List Int) i => L_l_toPointS_0 an an al f s i) (n := an) (fun k s => s.length = an * 2 ∧ ∀ t, t < k * 2 → s.getD t 0 = al.getD t 0) (fun s k => (s.set (k * 2 + 0) (al.getD (k * 2 + 0) 0)).set (k * 2 + 1) (al.getD (k * 2 + 1) 0)) (K := fun s => some (an, s))
    (fun f k s hk hs => by
      show B_l_toPointS_0 an al (L_l_toPointS_0 an an al f) s (k : Int) = _
      unfold B_l_toPointS_0
      rw [if_pos (cnd hk), if_pos (cnd2 hk), Int.toNat_natCast, Int.toNat_natCast, if_pos (ble_ok (by omega)), if_pos (cnd2 hk), if_pos (ble_ok (by rw [hs.1]; omega)), wrap_add1 hk (by omega)]
      rfl)
    (fun k s hk hs => by
      refine ⟨by rw [List.length_set, List.length_set]; exact hs.1, fun t ht => ?_⟩
      rw [getD_set (by rw [List.length_set, hs.1]; omega), getD_set (by rw [hs.1]; omega)]
      by_cases e : k * 2 + 1 = t
      · rw [if_pos e, e]
      · rw [if_neg e]
        by_cases e0 : k * 2 + 0 = t
        · rw [if_pos e0, e0]
        · rw [if_neg e0]
          exact hs.2 t (by omega))
    (fun f s hs => by
      show B_l_toPointS_0 an al _ s ((an : Nat) : Int) = some (an, s)
      unfold B_l_toPointS_0
      rw [if_neg (by simp), Int.toNat_natCast]) (F := an + 100) (s := List.replicate (an * 2) 0) (by omega) ⟨by simp, fun t ht => absurd ht (by omega)⟩
  refine h.trans ?_
  have fin : ∀ (m k : Nat) (s : List Int), k + m = an → s.length = an * 2 → (∀ t, t < k * 2 → s.getD t 0 = al.getD t 0) → (List.range' k m).foldl (fun s k => (s.set (k * 2 + 0) (al.getD (k * 2 + 0) 0)).set (k * 2 + 1) (al.getD (k * 2 + 1) 0)) s = al := by
    intro m
    induction m with
    | zero =>
      intro k s hk hs ht
      show s = al
      exact list_of_getD (by omega) fun t h => ht t (by omega)
    | succ m ih =>
      intro k s hk hs ht
      rw [List.range'_succ, List.foldl_cons]
      refine ih (k + 1) _ (by omega) (by rw [List.length_set, List.length_set]; exact hs) fun t h => ?_
      rw [getD_set (by rw [List.length_set]; omega), getD_set (by omega)]
      by_cases e : k * 2 + 1 = t
      · rw [if_pos e, e]
      · rw [if_neg e]
        by_cases e0 : k * 2 + 0 = t
        · rw [if_pos e0, e0]
        · rw [if_neg e0]
          exact ht t (by omega)
  rw [List.range_eq_range', fin an 0 (List.replicate (an * 2) 0) (Nat.zero_add an) (by simp) (fun t ht => absurd ht (by omega))]
def run_l_toPointS : List PV → Option (Bool × List TR)
  | [.s an (.ints al)] => some (lenB an 2 al && Nat.ble an 1048576, enc_l48_2 (l_toPointS an al))
  | _ => none
theorem sound_l_toPointS : Sound Try.prog 12 run_l_toPointS := by
  refine sound_of de_l48_2 SO_l_toPointS (by kernel_rfl) Try.func12 Try.ntmps12 rfl (by kernel_rfl) ?_
  intro W pvs avs rs hargs hrun
  unfold run_l_toPointS at hrun
  split at hrun
  · simp only [Option.some.injEq, Prod.mk.injEq] at hrun
    obtain ⟨hp, rfl⟩ := hrun
    rename_i an al
    exact ⟨_, _, _, hargs, rfl, (eq_l_toPointS _ an al).trans (tot_l_toPointS an al hp)⟩
  · cases hrun

def S_l_eqPoint : Sums := ⟨tblS [], tblM [], false, false⟩
theorem SO_l_eqPoint : SumsOK Try.prog S_l_eqPoint := ⟨tblS_ok True.intro, tblM_ok True.intro⟩
def Fo_l_eqPoint (a : Int × Int) (b : Int × Int) : Option (Bool) :=
  (if (a.1 != b.1) = true then some false else (if (a.2 != b.2) = true then some false else some true))
theorem eq_l_eqPoint (a : Int × Int) (b : Int × Int) : execT Try.prog S_l_eqPoint 31 17 (fun _ => 1000000) dec_b [.v (.agg ⟨[.int .i64 a.1, .int .i64 a.2]⟩), .v (.agg ⟨[.int .i64 b.1, .int .i64 b.2]⟩)] = Fo_l_eqPoint a b := by
  kernel_rfl
def l_eqPoint (a : Int × Int) (b : Int × Int) : Bool :=
  (if (a.1 != b.1) = true then false else (if (a.2 != b.2) = true then false else true))
theorem tot_l_eqPoint (a : Int × Int) (b : Int × Int) : Fo_l_eqPoint a b = some (l_eqPoint a b) := by
  unfold Fo_l_eqPoint l_eqPoint
  (try simp only [wI_eq])
  repeat' (first | with_reducible rfl | refine ite_opt (fun _ => ?_) (fun _ => ?_) | rfl)
def run_l_eqPoint : List PV → Option (Bool × List TR)
  | [.v (.agg ⟨[.int .i64 a0, .int .i64 a1]⟩), .v (.agg ⟨[.int .i64 b0, .int .i64 b1]⟩)] => some (true, enc_b (l_eqPoint (a0, a1) (b0, b1)))
  | _ => none
theorem sound_l_eqPoint : Sound Try.prog 31 run_l_eqPoint := by
  refine sound_of de_b SO_l_eqPoint (by kernel_rfl) Try.func31 Try.ntmps31 rfl (by kernel_rfl) ?_
  intro W pvs avs rs hargs hrun
  unfold run_l_eqPoint at hrun
  split at hrun
  · simp only [Option.some.injEq, Prod.mk.injEq] at hrun
    obtain ⟨hp, rfl⟩ := hrun
    rename_i a0 a1 b0 b1
    exact ⟨_, _, _, hargs, rfl, (eq_l_eqPoint (a0, a1) (b0, b1)).trans (tot_l_eqPoint (a0, a1) (b0, b1))⟩
  · cases hrun

def S_l_eqPointS : Sums := ⟨tblS [(31, run_l_eqPoint)], tblM [], false, false⟩
theorem SO_l_eqPointS : SumsOK Try.prog S_l_eqPointS := ⟨tblS_ok ⟨⟨Try.call31, sound_l_eqPoint⟩, True.intro⟩, tblM_ok True.intro⟩
def T_l_eqPointS_0 (an : Nat) (al : List Int) (bn : Nat) (bl : List Int) (i : Int) : Tab := ⟨[.row 0, .row 4, .junk, .junk, .val (.bool false), .val (.int .i64 i), .row 0, .val (.int .i64 ((an : Nat) : Int)), .row 4, .val (.int .i64 ((bn : Nat) : Int)), .val (.bool (((an : Nat) : Int) != ((bn : Nat) : Int))), .junk, .junk, .junk, .junk, .junk, .junk, .junk, .junk, .junk, .junk, .junk, .junk, .junk, .junk, .junk, .junk], [(0, .ros an (.ints al)), (4, .ros bn (.ints bl))]⟩
def X_l_eqPointS_0 (P : Program) (fu : Nat) (an : Nat) (al : List Int) (bn : Nat) (bl : List Int) (f : Nat) (i : Int) : Option (Bool) := loopK (exec P S_l_eqPointS 27 (fun _ => fu + 100) (Code.sub [1, 1, 0, 1, 0, 0] (bodyF P 14))) f (T_l_eqPointS_0 an al bn bl i) (kBlock 0 (kSeq (fun zs9 => exec P S_l_eqPointS 27 (fun _ => fu + 100) (Code.sub [1, 1, 1] (bodyF P 14)) zs9 (finT P 14 dec_b)) (finT P 14 dec_b)))
def B_l_eqPointS_0 (an : Nat) (al : List Int) (bn : Nat) (bl : List Int) (rec0 : Int → Option (Bool)) (i : Int) : Option (Bool) :=
  (if (decide (i < ((an : Nat) : Int))) = true then (if (decide (0 ≤ i) && decide (i < ((an : Nat) : Int))) = true then (if (Nat.ble (i.toNat * 2 + 2) al.length) = true then (if (decide (0 ≤ i) && decide (i < ((bn : Nat) : Int))) = true then (if (Nat.ble (i.toNat * 2 + 2) bl.length) = true then (if (!(l_eqPoint (al.getD (i.toNat * 2 + 0) 0, al.getD (i.toNat * 2 + 1) 0) (bl.getD (i.toNat * 2 + 0) 0, bl.getD (i.toNat * 2 + 1) 0))) = true then some false else rec0 (wI (i + 1))) else none) else none) else none) else none) else some true)
def L_l_eqPointS_0 (fu : Nat) (an : Nat) (al : List Int) (bn : Nat) (bl : List Int) : Nat → Int → Option (Bool)
  | 0, _ => none
  | f + 1, i => B_l_eqPointS_0 an al bn bl (L_l_eqPointS_0 fu an al bn bl f) i
theorem loop_l_eqPointS_0 (fu : Nat) (an : Nat) (al : List Int) (bn : Nat) (bl : List Int) : ∀ (f : Nat) (i : Int), X_l_eqPointS_0 Try.prog fu an al bn bl f i = L_l_eqPointS_0 fu an al bn bl f i := by
  intro f
  induction f with
  | zero => intros; rfl
  | succ f ih =>
    intro i
    have h1 : X_l_eqPointS_0 Try.prog fu an al bn bl (f + 1) i = B_l_eqPointS_0 an al bn bl (X_l_eqPointS_0 Try.prog fu an al bn bl f) i := by kernel_rfl
    have h2 : X_l_eqPointS_0 Try.prog fu an al bn bl f = L_l_eqPointS_0 fu an al bn bl f := by funext i; exact ih i
    rw [h1, h2]
    rfl
def G_l_eqPointS (an : Nat) (al : List Int) (bn : Nat) (bl : List Int) (lo0 : Int → Option (Bool)) : Option (Bool) :=
  (if (((an : Nat) : Int) != ((bn : Nat) : Int)) = true then some false else lo0 0)
def Fo_l_eqPointS (fu : Nat) (an : Nat) (al : List Int) (bn : Nat) (bl : List Int) : Option (Bool) := G_l_eqPointS an al bn bl (L_l_eqPointS_0 fu an al bn bl (fu + 100))
theorem eqg_l_eqPointS (fu : Nat) (an : Nat) (al : List Int) (bn : Nat) (bl : List Int) : execT Try.prog S_l_eqPointS 14 27 (fun _ => fu + 100) dec_b [.s an (.ints al), .s bn (.ints bl)] = G_l_eqPointS an al bn bl (L_l_eqPointS_0 fu an al bn bl (fu + 100)) := by
  have h1 : execT Try.prog S_l_eqPointS 14 27 (fun _ => fu + 100) dec_b [.s an (.ints al), .s bn (.ints bl)] = G_l_eqPointS an al bn bl (X_l_eqPointS_0 Try.prog fu an al bn bl (fu + 100)) := by kernel_rfl
  have c0 : X_l_eqPointS_0 Try.prog fu an al bn bl (fu + 100) = L_l_eqPointS_0 fu an al bn bl (fu + 100) := by funext i; exact loop_l_eqPointS_0 fu an al bn bl (fu + 100) i
  rw [h1, c0]
theorem eq_l_eqPointS (fu : Nat) (an : Nat) (al : List Int) (bn : Nat) (bl : List Int) : execT Try.prog S_l_eqPointS 14 27 (fun _ => fu + 100) dec_b [.s an (.ints al), .s bn (.ints bl)] = Fo_l_eqPointS fu an al bn bl := eqg_l_eqPointS fu an al bn bl
theorem l_eqPoint_eq (a b : P2) : l_eqPoint a b = (a == b) := by
  obtain ⟨a0, a1⟩ := a
  obtain ⟨b0, b1⟩ := b
  rw [Bool.eq_iff_iff]
  simp [l_eqPoint]
def l_eqPointS (an : Nat) (al : List Int) (bn : Nat) (bl : List Int) : Bool := al == bl
theorem go_l_eqPointS (fu an : Nat) (al : List Int) (bl : List Int) (hn : an ≤ 100000000000) (hl : al.length = 2 * an) (hm : bl.length = 2 * an) : ∀ (m j F : Nat), j + m = an → m < F → (∀ t : Nat, t < 2 * j → al.getD t 0 = bl.getD t 0) → L_l_eqPointS_0 fu an al an bl F (j : Int) = some (al == bl)
  | m, j, 0, _, h, _ => absurd h (Nat.not_lt_zero m)
  | 0, j, F + 1, hj, _, hp => by
    obtain rfl : j = an := by omega
    show B_l_eqPointS_0 j al j bl _ (j : Int) = _
    unfold B_l_eqPointS_0
    have e : al = bl := list_of_getD (by omega) fun t ht => hp t (by omega)
    rw [if_neg (by simp), e]
    simp
  | m + 1, j, F + 1, hj, hF, hp => by
    show B_l_eqPointS_0 an al an bl (L_l_eqPointS_0 fu an al an bl F) (j : Int) = _
    unfold B_l_eqPointS_0
    have e1 : decide ((j : Int) < ((an : Nat) : Int)) = true := by simp; omega
    have e2 : (decide (0 ≤ (j : Int)) && decide ((j : Int) < ((an : Nat) : Int))) = true := by simp; omega
    have e3 : (j : Int).toNat = j := Int.toNat_natCast j
    have a0 : wrap64 ((j : Int) + 1) = ((j + 1 : Nat) : Int) := by rw [wrapS (by omega)]; omega
    simp only [e3, wI_eq, a0]
    rw [if_pos e1, if_pos e2, if_pos (leb (by rw [hl]; omega)), if_pos e2, if_pos (leb (by rw [hm]; omega))]
    by_cases c : (al.getD (j * 2 + 0) 0, al.getD (j * 2 + 1) 0) = (bl.getD (j * 2 + 0) 0, bl.getD (j * 2 + 1) 0)
    rotate_left
    · rw [if_pos (by rw [l_eqPoint_eq]; simpa using c)]
      congr 1
      symm
      rw [beq_eq_false_iff_ne]
      rintro rfl
      exact c rfl
    rw [if_neg (by rw [l_eqPoint_eq]; simpa using c)]
    refine go_l_eqPointS fu an al bl hn hl hm m (j + 1) F (by omega) (by omega) fun t ht => ?_
    by_cases ht' : t < 2 * j
    · exact hp t ht'
    · simp only [Prod.mk.injEq] at c
      obtain rfl | rfl : t = j * 2 + 0 ∨ t = j * 2 + 1 := by omega
      · exact c.1
      · exact c.2
theorem tot_l_eqPointS (an : Nat) (al : List Int) (bn : Nat) (bl : List Int) (hp : (lenB an 2 al && lenB bn 2 bl) = true) : Fo_l_eqPointS an an al bn bl = some (l_eqPointS an al bn bl) := by
  simp only [Bool.and_eq_true] at hp
  obtain ⟨hl, hn⟩ := lenB_ok hp.1
  obtain ⟨hm, _⟩ := lenB_ok hp.2
  unfold Fo_l_eqPointS G_l_eqPointS l_eqPointS
  by_cases e : an = bn
  · subst e
    rw [if_neg (by simp)]
    exact go_l_eqPointS an an al bl hn hl hm an 0 (an + 100) (by omega) (by omega) (fun t ht => by omega)
  · rw [if_pos (by simp; omega)]
    congr 1
    symm
    rw [beq_eq_false_iff_ne]
    rintro rfl
    omega
def run_l_eqPointS : List PV → Option (Bool × List TR)
  | [.s an (.ints al), .s bn (.ints bl)] => some (lenB an 2 al && lenB bn 2 bl, enc_b (l_eqPointS an al bn bl))
  | _ => none
theorem sound_l_eqPointS : Sound Try.prog 14 run_l_eqPointS := by
  refine sound_of de_b SO_l_eqPointS (by kernel_rfl) Try.func14 Try.ntmps14 rfl (by kernel_rfl) ?_
  intro W pvs avs rs hargs hrun
  unfold run_l_eqPointS at hrun
  split at hrun
  · simp only [Option.some.injEq, Prod.mk.injEq] at hrun
    obtain ⟨hp, rfl⟩ := hrun
    rename_i an al bn bl
    exact ⟨_, _, _, hargs, rfl, (eq_l_eqPointS _ an al bn bl).trans (tot_l_eqPointS an al bn bl hp)⟩
  · cases hrun

def S_l_eqConic : Sums := ⟨tblS [], tblM [], false, false⟩
theorem SO_l_eqConic : SumsOK Try.prog S_l_eqConic := ⟨tblS_ok True.intro, tblM_ok True.intro⟩
def Fo_l_eqConic (a : Int × Int × Int × Int × Int × Int) (b : Int × Int × Int × Int × Int × Int) : Option (Bool) :=
  (if (a.1 != b.1) = true then some false else (if (a.2.1 != b.2.1) = true then some false else (if (a.2.2.1 != b.2.2.1) = true then some false else (if (a.2.2.2.1 != b.2.2.2.1) = true then some false else (if (a.2.2.2.2.1 != b.2.2.2.2.1) = true then some false else (if (a.2.2.2.2.2 != b.2.2.2.2.2) = true then some false else some true))))))
theorem eq_l_eqConic (a : Int × Int × Int × Int × Int × Int) (b : Int × Int × Int × Int × Int × Int) : execT Try.prog S_l_eqConic 8 17 (fun _ => 1000000) dec_b [.v (.agg ⟨[.int .i64 a.1, .int .i64 a.2.1, .int .i64 a.2.2.1, .int .i64 a.2.2.2.1, .int .i64 a.2.2.2.2.1, .int .i64 a.2.2.2.2.2]⟩), .v (.agg ⟨[.int .i64 b.1, .int .i64 b.2.1, .int .i64 b.2.2.1, .int .i64 b.2.2.2.1, .int .i64 b.2.2.2.2.1, .int .i64 b.2.2.2.2.2]⟩)] = Fo_l_eqConic a b := by
  kernel_rfl
def l_eqConic (a : Int × Int × Int × Int × Int × Int) (b : Int × Int × Int × Int × Int × Int) : Bool :=
  (if (a.1 != b.1) = true then false else (if (a.2.1 != b.2.1) = true then false else (if (a.2.2.1 != b.2.2.1) = true then false else (if (a.2.2.2.1 != b.2.2.2.1) = true then false else (if (a.2.2.2.2.1 != b.2.2.2.2.1) = true then false else (if (a.2.2.2.2.2 != b.2.2.2.2.2) = true then false else true))))))
theorem tot_l_eqConic (a : Int × Int × Int × Int × Int × Int) (b : Int × Int × Int × Int × Int × Int) : Fo_l_eqConic a b = some (l_eqConic a b) := by
  unfold Fo_l_eqConic l_eqConic
  (try simp only [wI_eq])
  repeat' (first | with_reducible rfl | refine ite_opt (fun _ => ?_) (fun _ => ?_) | rfl)
def run_l_eqConic : List PV → Option (Bool × List TR)
  | [.v (.agg ⟨[.int .i64 a0, .int .i64 a1, .int .i64 a2, .int .i64 a3, .int .i64 a4, .int .i64 a5]⟩), .v (.agg ⟨[.int .i64 b0, .int .i64 b1, .int .i64 b2, .int .i64 b3, .int .i64 b4, .int .i64 b5]⟩)] => some (true, enc_b (l_eqConic (a0, a1, a2, a3, a4, a5) (b0, b1, b2, b3, b4, b5)))
  | _ => none
theorem sound_l_eqConic : Sound Try.prog 8 run_l_eqConic := by
  refine sound_of de_b SO_l_eqConic (by kernel_rfl) Try.func8 Try.ntmps8 rfl (by kernel_rfl) ?_
  intro W pvs avs rs hargs hrun
  unfold run_l_eqConic at hrun
  split at hrun
  · simp only [Option.some.injEq, Prod.mk.injEq] at hrun
    obtain ⟨hp, rfl⟩ := hrun
    rename_i a0 a1 a2 a3 a4 a5 b0 b1 b2 b3 b4 b5
    exact ⟨_, _, _, hargs, rfl, (eq_l_eqConic (a0, a1, a2, a3, a4, a5) (b0, b1, b2, b3, b4, b5)).trans (tot_l_eqConic (a0, a1, a2, a3, a4, a5) (b0, b1, b2, b3, b4, b5))⟩
  · cases hrun


end

end Go.Proofs.Ytikfglnhkjoioaa
