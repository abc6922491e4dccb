import Derived.Test.YtoblkbpejfojjaaGreatDoorFa
import Derived.Test.YtoblkbpejfojjaaGreatDoorFb
import Derived.Test.YtoblkbpejfojjaaGreatDoorFc
import Derived.Test.YtoblkbpejfojjaaGreatDoorProg
set_option linter.unusedSimpArgs false
set_option linter.unusedVariables false
namespace Go.Proofs.YtoblkbpejfojjaaGreatDoor
open Go.RowKit
noncomputable section
def S_l_big : Sums := ⟨tblS [], tblM []⟩
theorem SO_l_big : SumsOK Tryz.prog S_l_big := ⟨tblS_ok True.intro, tblM_ok True.intro⟩
def Fo_l_big (coden : Nat) (codel : List Int) : Option (Bool) :=
  some (decide (((coden : Nat) : Int) > 4096))
theorem eq_l_big (coden : Nat) (codel : List Int) : execT Tryz.prog S_l_big 5 6 (fun _ => 1000000) dec_b [.s coden (.byts codel)] = Fo_l_big coden codel := by
  kernel_rfl
def l_big (coden : Nat) (codel : List Int) : Bool :=
  decide (((coden : Nat) : Int) > 4096)
theorem tot_l_big (coden : Nat) (codel : List Int) : Fo_l_big coden codel = some (l_big coden codel) := by
  unfold Fo_l_big l_big
  (try simp only [wI_eq])
  repeat' (first | with_reducible rfl | refine ite_opt (fun _ => ?_) (fun _ => ?_) | rfl)
def run_l_big : List PV → Option (Bool × List TR)
  | [.s coden (.byts codel)] => some (true, enc_b (l_big coden codel))
  | _ => none
theorem sound_l_big : Sound Tryz.prog 5 run_l_big := by
  refine sound_of de_b SO_l_big (by kernel_rfl) Tryz.func5 Tryz.ntmps5 rfl (by kernel_rfl) ?_
  intro W pvs avs rs hargs hrun
  unfold run_l_big at hrun
  split at hrun
  · simp only [Option.some.injEq, Prod.mk.injEq] at hrun
    obtain ⟨hp, rfl⟩ := hrun
    rename_i coden codel
    exact ⟨_, _, _, hargs, rfl, (eq_l_big coden codel).trans (tot_l_big coden codel)⟩
  · cases hrun

def S_l_points5 : Sums := ⟨tblS [], tblM []⟩
theorem SO_l_points5 : SumsOK Tryz.prog S_l_points5 := ⟨tblS_ok True.intro, tblM_ok True.intro⟩
def T_l_points5_0 (an : Nat) (al : List Int) (bn : Nat) (bl : List Int) (i : Int) : Tab := ⟨[.row 0, .row 4, .junk, .junk, .val (.bool false), .val (.int .i64 i), .row 0, .val (.int .i64 ((an : Nat) : Int)), .row 4, .val (.int .i64 ((bn : Nat) : Int)), .val (.bool (((an : Nat) : Int) != ((bn : Nat) : Int))), .junk, .junk, .junk, .junk, .junk, .junk, .junk, .junk, .junk, .junk, .junk, .junk, .junk, .junk, .junk], [(0, .ros an (.ints al)), (4, .ros bn (.ints bl))]⟩
def X_l_points5_0 (P : Program) (fu : Nat) (an : Nat) (al : List Int) (bn : Nat) (bl : List Int) (f : Nat) (i : Int) : Option (Bool) := loopK (exec P S_l_points5 26 (fun _ => fu + 100) (Code.sub [1, 1, 0, 1, 0, 0] (bodyF P 32))) f (T_l_points5_0 an al bn bl i) (kBlock 0 (kSeq (fun zs9 => exec P S_l_points5 26 (fun _ => fu + 100) (Code.sub [1, 1, 1] (bodyF P 32)) zs9 (finT P 32 dec_b)) (finT P 32 dec_b)))
def B_l_points5_0 (an : Nat) (al : List Int) (bn : Nat) (bl : List Int) (rec0 : Int → Option (Bool)) (i : Int) : Option (Bool) :=
  (if (decide (i < ((an : Nat) : Int))) = true then (if (decide (0 ≤ i) && decide (i < ((an : Nat) : Int))) = true then (if (Nat.ble (i.toNat * 2 + 2) al.length) = true then (if (decide (0 ≤ i) && decide (i < ((bn : Nat) : Int))) = true then (if (Nat.ble (i.toNat * 2 + 2) bl.length) = true then (if (!((al.getD (i.toNat * 2 + 0) 0, al.getD (i.toNat * 2 + 1) 0) == (bl.getD (i.toNat * 2 + 0) 0, bl.getD (i.toNat * 2 + 1) 0))) = true then some false else rec0 (wI (i + 1))) else none) else none) else none) else none) else some true)
def L_l_points5_0 (fu : Nat) (an : Nat) (al : List Int) (bn : Nat) (bl : List Int) : Nat → Int → Option (Bool)
  | 0, _ => none
  | f + 1, i => B_l_points5_0 an al bn bl (L_l_points5_0 fu an al bn bl f) i
theorem loop_l_points5_0 (fu : Nat) (an : Nat) (al : List Int) (bn : Nat) (bl : List Int) : ∀ (f : Nat) (i : Int), X_l_points5_0 Tryz.prog fu an al bn bl f i = L_l_points5_0 fu an al bn bl f i := by
  intro f
  induction f with
  | zero => intros; rfl
  | succ f ih =>
    intro i
    have h1 : X_l_points5_0 Tryz.prog fu an al bn bl (f + 1) i = B_l_points5_0 an al bn bl (X_l_points5_0 Tryz.prog fu an al bn bl f) i := by kernel_rfl
    have h2 : X_l_points5_0 Tryz.prog fu an al bn bl f = L_l_points5_0 fu an al bn bl f := by funext i; exact ih i
    rw [h1, h2]
    rfl
def G_l_points5 (an : Nat) (al : List Int) (bn : Nat) (bl : List Int) (lo0 : Int → Option (Bool)) : Option (Bool) :=
  (if (((an : Nat) : Int) != ((bn : Nat) : Int)) = true then some false else lo0 0)
def Fo_l_points5 (fu : Nat) (an : Nat) (al : List Int) (bn : Nat) (bl : List Int) : Option (Bool) := G_l_points5 an al bn bl (L_l_points5_0 fu an al bn bl (fu + 100))
theorem eqg_l_points5 (fu : Nat) (an : Nat) (al : List Int) (bn : Nat) (bl : List Int) : execT Tryz.prog S_l_points5 32 26 (fun _ => fu + 100) dec_b [.s an (.ints al), .s bn (.ints bl)] = G_l_points5 an al bn bl (L_l_points5_0 fu an al bn bl (fu + 100)) := by
  have h1 : execT Tryz.prog S_l_points5 32 26 (fun _ => fu + 100) dec_b [.s an (.ints al), .s bn (.ints bl)] = G_l_points5 an al bn bl (X_l_points5_0 Tryz.prog fu an al bn bl (fu + 100)) := by kernel_rfl
  have c0 : X_l_points5_0 Tryz.prog fu an al bn bl (fu + 100) = L_l_points5_0 fu an al bn bl (fu + 100) := by funext i; exact loop_l_points5_0 fu an al bn bl (fu + 100) i
  rw [h1, c0]
theorem eq_l_points5 (fu : Nat) (an : Nat) (al : List Int) (bn : Nat) (bl : List Int) : execT Tryz.prog S_l_points5 32 26 (fun _ => fu + 100) dec_b [.s an (.ints al), .s bn (.ints bl)] = Fo_l_points5 fu an al bn bl := eqg_l_points5 fu an al bn bl
def l_points5 (an : Nat) (al : List Int) (bn : Nat) (bl : List Int) : Bool := al == bl
theorem go_l_points5 (fu an : Nat) (al : List Int) (bl : List Int) (hn : an ≤ 100000000000) (hl : al.length = 2 * an) (hm : bl.length = 2 * an) : ∀ (m j F : Nat), j + m = an → m < F → (∀ t : Nat, t < 2 * j → al.getD t 0 = bl.getD t 0) → L_l_points5_0 fu an al an bl F (j : Int) = some (al == bl)
  | m, j, 0, _, h, _ => absurd h (Nat.not_lt_zero m)
  | 0, j, F + 1, hj, _, hp => by
    obtain rfl : j = an := by omega
    show B_l_points5_0 j al j bl _ (j : Int) = _
    unfold B_l_points5_0
    have e : al = bl := list_of_getD (by omega) fun t ht => hp t (by omega)
    rw [if_neg (by simp), e]
    simp
  | m + 1, j, F + 1, hj, hF, hp => by
    show B_l_points5_0 an al an bl (L_l_points5_0 fu an al an bl F) (j : Int) = _
    unfold B_l_points5_0
    have e1 : decide ((j : Int) < ((an : Nat) : Int)) = true := by simp; omega
    have e2 : (decide (0 ≤ (j : Int)) && decide ((j : Int) < ((an : Nat) : Int))) = true := by simp; omega
    have e3 : (j : Int).toNat = j := Int.toNat_natCast j
    have a0 : wrap64 ((j : Int) + 1) = ((j + 1 : Nat) : Int) := by rw [wrapS (by omega)]; omega
    simp only [e3, wI_eq, a0]
    rw [if_pos e1, if_pos e2, if_pos (leb (by rw [hl]; omega)), if_pos e2, if_pos (leb (by rw [hm]; omega))]
    by_cases c : (al.getD (j * 2 + 0) 0, al.getD (j * 2 + 1) 0) = (bl.getD (j * 2 + 0) 0, bl.getD (j * 2 + 1) 0)
    rotate_left
    · rw [if_pos (by rw [beq_eq_false_iff_ne.2 c]; rfl)]
      congr 1
      symm
      rw [beq_eq_false_iff_ne]
      rintro rfl
      exact c rfl
    rw [if_neg (by rw [beq_iff_eq.2 c]; decide)]
    refine go_l_points5 fu an al bl hn hl hm m (j + 1) F (by omega) (by omega) fun t ht => ?_
    by_cases ht' : t < 2 * j
    · exact hp t ht'
    · simp only [Prod.mk.injEq] at c
      obtain rfl | rfl : t = j * 2 + 0 ∨ t = j * 2 + 1 := by omega
      · exact c.1
      · exact c.2
theorem tot_l_points5 (an : Nat) (al : List Int) (bn : Nat) (bl : List Int) (hp : (lenB an 2 al && lenB bn 2 bl) = true) : Fo_l_points5 an an al bn bl = some (l_points5 an al bn bl) := by
  simp only [Bool.and_eq_true] at hp
  obtain ⟨hl, hn⟩ := lenB_ok hp.1
  obtain ⟨hm, _⟩ := lenB_ok hp.2
  unfold Fo_l_points5 G_l_points5 l_points5
  by_cases e : an = bn
  · subst e
    rw [if_neg (by simp)]
    exact go_l_points5 an an al bl hn hl hm an 0 (an + 100) (by omega) (by omega) (fun t ht => by omega)
  · rw [if_pos (by simp; omega)]
    congr 1
    symm
    rw [beq_eq_false_iff_ne]
    rintro rfl
    omega
def run_l_points5 : List PV → Option (Bool × List TR)
  | [.s an (.ints al), .s bn (.ints bl)] => some (lenB an 2 al && lenB bn 2 bl, enc_b (l_points5 an al bn bl))
  | _ => none
theorem sound_l_points5 : Sound Tryz.prog 32 run_l_points5 := by
  refine sound_of de_b SO_l_points5 (by kernel_rfl) Tryz.func32 Tryz.ntmps32 rfl (by kernel_rfl) ?_
  intro W pvs avs rs hargs hrun
  unfold run_l_points5 at hrun
  split at hrun
  · simp only [Option.some.injEq, Prod.mk.injEq] at hrun
    obtain ⟨hp, rfl⟩ := hrun
    rename_i an al bn bl
    exact ⟨_, _, _, hargs, rfl, (eq_l_points5 _ an al bn bl).trans (tot_l_points5 an al bn bl hp)⟩
  · cases hrun

def S_l_moves5 : Sums := ⟨tblS [], tblM []⟩
theorem SO_l_moves5 : SumsOK Tryz.prog S_l_moves5 := ⟨tblS_ok True.intro, tblM_ok True.intro⟩
def T_l_moves5_0 (an : Nat) (al : List Int) (bn : Nat) (bl : List Int) (i : Int) : Tab := ⟨[.row 0, .row 4, .junk, .junk, .val (.bool false), .val (.int .i64 i), .row 0, .val (.int .i64 ((an : Nat) : Int)), .row 4, .val (.int .i64 ((bn : Nat) : Int)), .val (.bool (((an : Nat) : Int) != ((bn : Nat) : Int))), .junk, .junk, .junk, .junk, .junk, .junk, .junk, .junk, .junk, .junk, .junk, .junk, .junk, .junk, .junk], [(0, .ros an (.ints al)), (4, .ros bn (.ints bl))]⟩
def X_l_moves5_0 (P : Program) (fu : Nat) (an : Nat) (al : List Int) (bn : Nat) (bl : List Int) (f : Nat) (i : Int) : Option (Bool) := loopK (exec P S_l_moves5 26 (fun _ => fu + 100) (Code.sub [1, 1, 0, 1, 0, 0] (bodyF P 42))) f (T_l_moves5_0 an al bn bl i) (kBlock 0 (kSeq (fun zs9 => exec P S_l_moves5 26 (fun _ => fu + 100) (Code.sub [1, 1, 1] (bodyF P 42)) zs9 (finT P 42 dec_b)) (finT P 42 dec_b)))
def B_l_moves5_0 (an : Nat) (al : List Int) (bn : Nat) (bl : List Int) (rec0 : Int → Option (Bool)) (i : Int) : Option (Bool) :=
  (if (decide (i < ((an : Nat) : Int))) = true then (if (decide (0 ≤ i) && decide (i < ((an : Nat) : Int))) = true then (if (Nat.ble (i.toNat * 6 + 6) al.length) = true then (if (decide (0 ≤ i) && decide (i < ((bn : Nat) : Int))) = true then (if (Nat.ble (i.toNat * 6 + 6) bl.length) = true then (if (!((al.getD (i.toNat * 6 + 0) 0, al.getD (i.toNat * 6 + 1) 0, al.getD (i.toNat * 6 + 2) 0, al.getD (i.toNat * 6 + 3) 0, al.getD (i.toNat * 6 + 4) 0, al.getD (i.toNat * 6 + 5) 0) == (bl.getD (i.toNat * 6 + 0) 0, bl.getD (i.toNat * 6 + 1) 0, bl.getD (i.toNat * 6 + 2) 0, bl.getD (i.toNat * 6 + 3) 0, bl.getD (i.toNat * 6 + 4) 0, bl.getD (i.toNat * 6 + 5) 0))) = true then some false else rec0 (wI (i + 1))) else none) else none) else none) else none) else some true)
def L_l_moves5_0 (fu : Nat) (an : Nat) (al : List Int) (bn : Nat) (bl : List Int) : Nat → Int → Option (Bool)
  | 0, _ => none
  | f + 1, i => B_l_moves5_0 an al bn bl (L_l_moves5_0 fu an al bn bl f) i
theorem loop_l_moves5_0 (fu : Nat) (an : Nat) (al : List Int) (bn : Nat) (bl : List Int) : ∀ (f : Nat) (i : Int), X_l_moves5_0 Tryz.prog fu an al bn bl f i = L_l_moves5_0 fu an al bn bl f i := by
  intro f
  induction f with
  | zero => intros; rfl
  | succ f ih =>
    intro i
    have h1 : X_l_moves5_0 Tryz.prog fu an al bn bl (f + 1) i = B_l_moves5_0 an al bn bl (X_l_moves5_0 Tryz.prog fu an al bn bl f) i := by kernel_rfl
    have h2 : X_l_moves5_0 Tryz.prog fu an al bn bl f = L_l_moves5_0 fu an al bn bl f := by funext i; exact ih i
    rw [h1, h2]
    rfl
def G_l_moves5 (an : Nat) (al : List Int) (bn : Nat) (bl : List Int) (lo0 : Int → Option (Bool)) : Option (Bool) :=
  (if (((an : Nat) : Int) != ((bn : Nat) : Int)) = true then some false else lo0 0)
def Fo_l_moves5 (fu : Nat) (an : Nat) (al : List Int) (bn : Nat) (bl : List Int) : Option (Bool) := G_l_moves5 an al bn bl (L_l_moves5_0 fu an al bn bl (fu + 100))
theorem eqg_l_moves5 (fu : Nat) (an : Nat) (al : List Int) (bn : Nat) (bl : List Int) : execT Tryz.prog S_l_moves5 42 26 (fun _ => fu + 100) dec_b [.s an (.ints al), .s bn (.ints bl)] = G_l_moves5 an al bn bl (L_l_moves5_0 fu an al bn bl (fu + 100)) := by
  have h1 : execT Tryz.prog S_l_moves5 42 26 (fun _ => fu + 100) dec_b [.s an (.ints al), .s bn (.ints bl)] = G_l_moves5 an al bn bl (X_l_moves5_0 Tryz.prog fu an al bn bl (fu + 100)) := by kernel_rfl
  have c0 : X_l_moves5_0 Tryz.prog fu an al bn bl (fu + 100) = L_l_moves5_0 fu an al bn bl (fu + 100) := by funext i; exact loop_l_moves5_0 fu an al bn bl (fu + 100) i
  rw [h1, c0]
theorem eq_l_moves5 (fu : Nat) (an : Nat) (al : List Int) (bn : Nat) (bl : List Int) : execT Tryz.prog S_l_moves5 42 26 (fun _ => fu + 100) dec_b [.s an (.ints al), .s bn (.ints bl)] = Fo_l_moves5 fu an al bn bl := eqg_l_moves5 fu an al bn bl
def l_moves5 (an : Nat) (al : List Int) (bn : Nat) (bl : List Int) : Bool := al == bl
theorem go_l_moves5 (fu an : Nat) (al : List Int) (bl : List Int) (hn : an ≤ 100000000000) (hl : al.length = 6 * an) (hm : bl.length = 6 * an) : ∀ (m j F : Nat), j + m = an → m < F → (∀ t : Nat, t < 6 * j → al.getD t 0 = bl.getD t 0) → L_l_moves5_0 fu an al an bl F (j : Int) = some (al == bl)
  | m, j, 0, _, h, _ => absurd h (Nat.not_lt_zero m)
  | 0, j, F + 1, hj, _, hp => by
    obtain rfl : j = an := by omega
    show B_l_moves5_0 j al j bl _ (j : Int) = _
    unfold B_l_moves5_0
    have e : al = bl := list_of_getD (by omega) fun t ht => hp t (by omega)
    rw [if_neg (by simp), e]
    simp
  | m + 1, j, F + 1, hj, hF, hp => by
    show B_l_moves5_0 an al an bl (L_l_moves5_0 fu an al an bl F) (j : Int) = _
    unfold B_l_moves5_0
    have e1 : decide ((j : Int) < ((an : Nat) : Int)) = true := by simp; omega
    have e2 : (decide (0 ≤ (j : Int)) && decide ((j : Int) < ((an : Nat) : Int))) = true := by simp; omega
    have e3 : (j : Int).toNat = j := Int.toNat_natCast j
    have a0 : wrap64 ((j : Int) + 1) = ((j + 1 : Nat) : Int) := by rw [wrapS (by omega)]; omega
    simp only [e3, wI_eq, a0]
    rw [if_pos e1, if_pos e2, if_pos (leb (by rw [hl]; omega)), if_pos e2, if_pos (leb (by rw [hm]; omega))]
    by_cases c : (al.getD (j * 6 + 0) 0, al.getD (j * 6 + 1) 0, al.getD (j * 6 + 2) 0, al.getD (j * 6 + 3) 0, al.getD (j * 6 + 4) 0, al.getD (j * 6 + 5) 0) = (bl.getD (j * 6 + 0) 0, bl.getD (j * 6 + 1) 0, bl.getD (j * 6 + 2) 0, bl.getD (j * 6 + 3) 0, bl.getD (j * 6 + 4) 0, bl.getD (j * 6 + 5) 0)
    rotate_left
    · rw [if_pos (by rw [beq_eq_false_iff_ne.2 c]; rfl)]
      congr 1
      symm
      rw [beq_eq_false_iff_ne]
      rintro rfl
      exact c rfl
    rw [if_neg (by rw [beq_iff_eq.2 c]; decide)]
    refine go_l_moves5 fu an al bl hn hl hm m (j + 1) F (by omega) (by omega) fun t ht => ?_
    by_cases ht' : t < 6 * j
    · exact hp t ht'
    · simp only [Prod.mk.injEq] at c
      obtain rfl | rfl | rfl | rfl | rfl | rfl : t = j * 6 + 0 ∨ t = j * 6 + 1 ∨ t = j * 6 + 2 ∨ t = j * 6 + 3 ∨ t = j * 6 + 4 ∨ t = j * 6 + 5 := by omega
      · exact c.1
      · exact c.2.1
      · exact c.2.2.1
      · exact c.2.2.2.1
      · exact c.2.2.2.2.1
      · exact c.2.2.2.2.2
theorem tot_l_moves5 (an : Nat) (al : List Int) (bn : Nat) (bl : List Int) (hp : (lenB an 6 al && lenB bn 6 bl) = true) : Fo_l_moves5 an an al bn bl = some (l_moves5 an al bn bl) := by
  simp only [Bool.and_eq_true] at hp
  obtain ⟨hl, hn⟩ := lenB_ok hp.1
  obtain ⟨hm, _⟩ := lenB_ok hp.2
  unfold Fo_l_moves5 G_l_moves5 l_moves5
  by_cases e : an = bn
  · subst e
    rw [if_neg (by simp)]
    exact go_l_moves5 an an al bl hn hl hm an 0 (an + 100) (by omega) (by omega) (fun t ht => by omega)
  · rw [if_pos (by simp; omega)]
    congr 1
    symm
    rw [beq_eq_false_iff_ne]
    rintro rfl
    omega
def run_l_moves5 : List PV → Option (Bool × List TR)
  | [.s an (.ints al), .s bn (.ints bl)] => some (lenB an 6 al && lenB bn 6 bl, enc_b (l_moves5 an al bn bl))
  | _ => none
theorem sound_l_moves5 : Sound Tryz.prog 42 run_l_moves5 := by
  refine sound_of de_b SO_l_moves5 (by kernel_rfl) Tryz.func42 Tryz.ntmps42 rfl (by kernel_rfl) ?_
  intro W pvs avs rs hargs hrun
  unfold run_l_moves5 at hrun
  split at hrun
  · simp only [Option.some.injEq, Prod.mk.injEq] at hrun
    obtain ⟨hp, rfl⟩ := hrun
    rename_i an al bn bl
    exact ⟨_, _, _, hargs, rfl, (eq_l_moves5 _ an al bn bl).trans (tot_l_moves5 an al bn bl hp)⟩
  · cases hrun

def S_s_l01Next : Sums := ⟨tblS [], tblM []⟩
theorem SO_s_l01Next : SumsOK Tryz.prog S_s_l01Next := ⟨tblS_ok True.intro, tblM_ok True.intro⟩
def Fo_s_l01Next (sn : Nat) (sl : List Int) (ss : Int × Int) (n_ : Int) : Option (Int × Nat × List Int × Int × Int) :=
  (if (decide (n_ < 1)) = true then some (0, sn, sl, ss) else (if (decide (ss.1 < ((sn : Nat) : Int))) = true then (if (decide (0 ≤ ss.1) && decide (ss.1 < ((sn : Nat) : Int))) = true then (if (Nat.ble (ss.1.toNat * 1 + 1) sl.length) = true then (if (!(n_ == 0)) = true then some ((wI ((wI (andI .u64 (shrI (IntKind.u64.wrap ((IntKind.u64.wrap (ss.2 * 6364136223846793005)) + 1442695040888963407)) 33) 16777215)) + (wI (sl.getD (ss.1.toNat * 1) 0)))).tmod n_, sn, sl, wI (ss.1 + 1), IntKind.u64.wrap ((IntKind.u64.wrap (ss.2 * 6364136223846793005)) + 1442695040888963407)) else none) else none) else none) else (if (!(n_ == 0)) = true then some ((wI (andI .u64 (shrI (IntKind.u64.wrap ((IntKind.u64.wrap (ss.2 * 6364136223846793005)) + 1442695040888963407)) 33) 16777215)).tmod n_, sn, sl, ss.1, IntKind.u64.wrap ((IntKind.u64.wrap (ss.2 * 6364136223846793005)) + 1442695040888963407)) else none)))
theorem eq_s_l01Next (sn : Nat) (sl : List Int) (ss : Int × Int) (n_ : Int) : execP Tryz.prog S_s_l01Next 124 58 (fun _ => 1000000) dec_P142_i 142 [.s sn (.byts sl), .v (.int .i64 ss.1), .v (.int .u64 ss.2)] [.v (.int .i64 n_)] = Fo_s_l01Next sn sl ss n_ := by
  kernel_rfl
def s_l01Next_d (sn : Nat) (sl : List Int) (ss : Int × Int) (n_ : Int) : Int × Nat × List Int × Int × Int :=
  (if (decide (n_ < 1)) = true then (0, sn, sl, ss) else (if (decide (ss.1 < ((sn : Nat) : Int))) = true then ((wrap64 ((wrap64 (andI .u64 (shrI (IntKind.u64.wrap ((IntKind.u64.wrap (ss.2 * 6364136223846793005)) + 1442695040888963407)) 33) 16777215)) + (wrap64 (sl.getD (ss.1.toNat * 1) 0)))).tmod n_, sn, sl, wrap64 (ss.1 + 1), IntKind.u64.wrap ((IntKind.u64.wrap (ss.2 * 6364136223846793005)) + 1442695040888963407)) else ((wrap64 (andI .u64 (shrI (IntKind.u64.wrap ((IntKind.u64.wrap (ss.2 * 6364136223846793005)) + 1442695040888963407)) 33) 16777215)).tmod n_, sn, sl, ss.1, IntKind.u64.wrap ((IntKind.u64.wrap (ss.2 * 6364136223846793005)) + 1442695040888963407))))
def s_l01Next : (Nat) → (List Int) → (Int × Int) → (Int) → (Int × Nat × List Int × Int × Int) := shut s_l01Next_d
theorem s_l01Next_eq (sn : Nat) (sl : List Int) (ss : Int × Int) (n_ : Int) : s_l01Next sn sl ss n_ = s_l01Next_d sn sl ss n_ := by
  unfold s_l01Next
  rw [shut_eq]
theorem tot_s_l01Next (sn : Nat) (sl : List Int) (ss : Int × Int) (n_ : Int) (hp : (srcB sn sl ss) = true) : Fo_s_l01Next sn sl ss n_ = some (s_l01Next sn sl ss n_) := by
  have hs := hp
  have hc := (srcB_ok hs).1
  obtain ⟨hl, hb, _⟩ := codeB_ok hc
  have ha := (srcB_ok hs).2
  rw [s_l01Next_eq]
  unfold Fo_s_l01Next s_l01Next_d
  (try simp only [wI_eq])
  refine ite_opt (fun _ => rfl) (fun hn => ?_)
  have hn : (!(n_ == 0)) = true := by
    have : ¬ n_ < 1 := by simpa using hn
    have : n_ ≠ 0 := by omega
    simpa using this
  refine ite_opt (fun hk => ?_) (fun _ => chk_opt hn rfl)
  have hk := of_decide_eq_true hk
  exact chk_opt (idx_ok ⟨ha, hk⟩) (chk_opt (ble_ok (by omega)) (chk_opt hn rfl))
theorem post_s_l01Next (sn : Nat) (sl : List Int) (ss : Int × Int) (n_ : Int) (hs : srcB sn sl ss = true) : srcB sn sl (s_l01Next sn sl ss n_).2.2.2 = true := by
  have hc := (srcB_ok hs).1
  have ha := (srcB_ok hs).2
  obtain ⟨hl, hb, _⟩ := codeB_ok hc
  rw [s_l01Next_eq]
  unfold s_l01Next_d
  refine ite_ind (P := fun r : Int × Nat × List Int × Int × Int => srcB sn sl r.2.2.2 = true) hs ?_
  by_cases hk : ss.1 < (sn : Int)
  · rw [if_pos (decide_eq_true hk)]
    refine srcB_mk hc ?_
    show 0 ≤ wrap64 (ss.1 + 1)
    unfold wrap64
    omega
  · rw [if_neg (by simp [hk])]
    exact srcB_mk hc ha
theorem next_rng (sn : Nat) (sl : List Int) (ss : Int × Int) (n : Int) (hs : srcB sn sl ss = true) (hn : 1 ≤ n) : 0 ≤ (s_l01Next sn sl ss n).1 ∧ (s_l01Next sn sl ss n).1 < n := by
  have hc := (srcB_ok hs).1
  have ha := (srcB_ok hs).2
  obtain ⟨hl, _, hb⟩ := codeB_ok hc
  rw [s_l01Next_eq]
  unfold s_l01Next_d
  rw [if_neg (by simp; omega)]
  generalize (IntKind.u64.wrap ((IntKind.u64.wrap (ss.2 * 6364136223846793005)) + 1442695040888963407)) = w
  have hr := andI_rng (shrI w 33)
  generalize andI .u64 (shrI w 33) 16777215 = z at hr ⊢
  have key : ∀ x : Int, 0 ≤ x → 0 ≤ x.tmod n ∧ x.tmod n < n := fun x hx => by
    rw [Int.tmod_eq_emod_of_nonneg hx]
    exact ⟨Int.emod_nonneg _ (by omega), Int.emod_lt_of_pos _ (by omega)⟩
  refine ite_ind (P := fun r : Int × Nat × List Int × Int × Int => 0 ≤ r.1 ∧ r.1 < n) ?_ ?_
  · refine key _ ?_
    have h2 : 0 ≤ sl.getD (ss.1.toNat * 1) 0 ∧ sl.getD (ss.1.toNat * 1) 0 < 256 := by
      by_cases hk : ss.1.toNat * 1 < sl.length
      · exact hb _ (getD_mem hk)
      · rw [List.getD_eq_getElem?_getD, List.getElem?_eq_none (by omega)]
        decide
    generalize sl.getD (ss.1.toNat * 1) 0 = y at h2 ⊢
    unfold wrap64
    omega
  · refine key _ ?_
    unfold wrap64
    omega
theorem next_ble (sn : Nat) (sl : List Int) (ss : Int × Int) (n : Int) {w c m : Nat} (hs : srcB sn sl ss = true) (hn : 1 ≤ n) (hm : (n.toNat - 1) * w + c ≤ m) : (s_l01Next sn sl ss n).1.toNat * w + c ≤ m := by
  obtain ⟨h0, h1⟩ := next_rng sn sl ss n hs hn
  have : (s_l01Next sn sl ss n).1.toNat ≤ n.toNat - 1 := by omega
  have := Nat.mul_le_mul_right w this
  omega
theorem next_ble0 (sn : Nat) (sl : List Int) (ss : Int × Int) (n : Int) {w c m b : Nat} (hs : srcB sn sl ss = true) (hn : 1 ≤ n) (hm : b + (n.toNat - 1) * w + c ≤ m) : b + (s_l01Next sn sl ss n).1.toNat * w + c ≤ m := by
  have := next_ble sn sl ss n (w := w) (c := b + c) (m := m) hs hn (by omega)
  omega
theorem pos_one {n : Nat} (h : decide (((n : Nat) : Int) > 0) = true) : (1 : Int) ≤ ((n : Nat) : Int) := by
  have := of_decide_eq_true h
  omega
theorem pos_idx {n : Nat} (h : decide (((n : Nat) : Int) > 0) = true) : (decide ((0 : Int) ≤ 0) && decide ((0 : Int) < ((n : Nat) : Int))) = true := by
  have := of_decide_eq_true h
  simp
  omega
theorem pos_cell {n w : Nat} {l : List Int} (h : decide (((n : Nat) : Int) > 0) = true) (hl : l.length = w * n) : Nat.ble w l.length = true := by
  have := of_decide_eq_true h
  refine ble_ok ?_
  rw [hl]
  exact Nat.le_mul_of_pos_right w (by omega)
theorem next_cell {sn : Nat} {sl : List Int} {ss : Int × Int} {n w : Nat} {l : List Int} (hs : srcB sn sl ss = true) (h : decide (((n : Nat) : Int) > 0) = true) (hl : l.length = w * n) : Nat.ble ((s_l01Next sn sl ss ((n : Nat) : Int)).1.toNat * w + w) l.length = true := by
  have h1 := pos_one h
  refine ble_ok (next_ble sn sl ss _ hs h1 ?_)
  rw [hl, Int.toNat_natCast]
  obtain ⟨m, rfl⟩ : ∃ m, n = m + 1 := ⟨n - 1, by omega⟩
  rw [Nat.add_sub_cancel, Nat.mul_add, Nat.mul_one, Nat.mul_comm w m]
  exact Nat.le_refl _
theorem len_next {n w : Nat} {l : List Int} (hl : l.length = w * n) (h : (1 : Int) ≤ ((n : Nat) : Int)) : ((((n : Nat) : Int).toNat) - 1) * w + w ≤ l.length := by
  rw [hl, Int.toNat_natCast]
  obtain ⟨m, rfl⟩ : ∃ m, n = m + 1 := ⟨n - 1, by omega⟩
  rw [Nat.add_sub_cancel, Nat.mul_add, Nat.mul_one, Nat.mul_comm w m]
  exact Nat.le_refl _
def run_s_l01Next : PRun
  | 142, [.s sn (.byts sl), .v (.int .i64 s_1), .v (.int .u64 s_2)], [.v (.int .i64 n_)] => some (srcB sn sl (s_1, s_2), enc_P142_i (s_l01Next sn sl (s_1, s_2) n_))
  | _, _, _ => none
theorem sound_s_l01Next : SoundP Tryz.prog 124 run_s_l01Next := by
  refine soundP_of de_P142_i SO_s_l01Next (by kernel_rfl) Tryz.func124 Tryz.ntmps124 rfl (by kernel_rfl) ?_
  intro e bcs pvs rs bcs' hrun
  unfold run_s_l01Next at hrun
  split at hrun
  · simp only [Option.some.injEq, Prod.mk.injEq] at hrun
    obtain ⟨hp, hrun⟩ := hrun
    rename_i sn sl s_1 s_2 n_
    exact ⟨_, s_l01Next sn sl (s_1, s_2) n_, by first | exact hrun.symm | exact (Prod.ext hrun.1 hrun.2).symm, (eq_s_l01Next sn sl (s_1, s_2) n_).trans (tot_s_l01Next sn sl (s_1, s_2) n_ hp)⟩
  · cases hrun

abbrev k123_0 (sn : Nat) (sl : List Int) (ss : Int × Int) (listn : Nat) (listl : List Int) : Int × Nat × List Int × Int × Int := (s_l01Next sn sl ss ((listn : Nat) : Int))
def S_s_l01Pick : Sums := ⟨tblS [], tblM [(124, .box run_s_l01Next)]⟩
theorem SO_s_l01Pick : SumsOK Tryz.prog S_s_l01Pick := ⟨tblS_ok True.intro, tblM_ok ⟨⟨Tryz.call124, sound_s_l01Next⟩, True.intro⟩⟩
def Fo_s_l01Pick (sn : Nat) (sl : List Int) (ss : Int × Int) (listn : Nat) (listl : List Int) : Option (Int × Nat × List Int × Int × Int) :=
  (if (srcB sn sl ss) = true then (if (decide (0 ≤ (k123_0 sn sl ss listn listl).1) && decide ((k123_0 sn sl ss listn listl).1 < ((listn : Nat) : Int))) = true then (if (Nat.ble ((((k123_0 sn sl ss listn listl).1).toNat) * 1 + 1) listl.length) = true then some (listl.getD ((((k123_0 sn sl ss listn listl).1).toNat) * 1) 0, sn, sl, (k123_0 sn sl ss listn listl).2.2.2) else none) else none) else none)
theorem eq_s_l01Pick (sn : Nat) (sl : List Int) (ss : Int × Int) (listn : Nat) (listl : List Int) : execP Tryz.prog S_s_l01Pick 123 12 (fun _ => 1000000) dec_P142_i 142 [.s sn (.byts sl), .v (.int .i64 ss.1), .v (.int .u64 ss.2)] [.s listn (.ints listl)] = Fo_s_l01Pick sn sl ss listn listl := by
  kernel_rfl
def s_l01Pick_d (sn : Nat) (sl : List Int) (ss : Int × Int) (listn : Nat) (listl : List Int) : Int × Nat × List Int × Int × Int :=
  (listl.getD ((((k123_0 sn sl ss listn listl).1).toNat) * 1) 0, sn, sl, (k123_0 sn sl ss listn listl).2.2.2)
def s_l01Pick : (Nat) → (List Int) → (Int × Int) → (Nat) → (List Int) → (Int × Nat × List Int × Int × Int) := shut s_l01Pick_d
theorem s_l01Pick_eq (sn : Nat) (sl : List Int) (ss : Int × Int) (listn : Nat) (listl : List Int) : s_l01Pick sn sl ss listn listl = s_l01Pick_d sn sl ss listn listl := by
  unfold s_l01Pick
  rw [shut_eq]
theorem tot_s_l01Pick (sn : Nat) (sl : List Int) (ss : Int × Int) (listn : Nat) (listl : List Int) (hp : (srcB sn sl ss && (lenB listn 1 listl && Nat.blt 0 listn)) = true) : Fo_s_l01Pick sn sl ss listn listl = some (s_l01Pick sn sl ss listn listl) := by
  have hs := and_l hp
  have hc := (srcB_ok hs).1
  have hk := and_r hp
  obtain ⟨hl, _⟩ := lenB_ok (and_l hk)
  have h0 : 0 < listn := blt_pos (and_r hk)
  have hr := next_rng sn sl ss (listn : Int) hs (by omega)
  rw [s_l01Pick_eq]
  unfold Fo_s_l01Pick s_l01Pick_d
  dsimp only [k123_0]
  exact chk_opt hs (chk_opt (idx_ok hr) (chk_opt (ble_ok (by omega)) rfl))
theorem post_s_l01Pick (sn : Nat) (sl : List Int) (ss : Int × Int) (listn : Nat) (listl : List Int) (hs : srcB sn sl ss = true) : srcB sn sl (s_l01Pick sn sl ss listn listl).2.2.2 = true := by
  have hc := (srcB_ok hs).1
  rw [s_l01Pick_eq]
  unfold s_l01Pick_d
  repeat' (first | (with_reducible first | assumption | apply post_s_l01Next) | refine ite_ind (P := fun r : Int × Nat × List Int × Int × Int => srcB sn sl r.2.2.2 = true) ?_ ?_ | dsimp only)
theorem pick_mem (sn : Nat) (sl : List Int) (ss : Int × Int) (listn : Nat) (listl : List Int) (hs : srcB sn sl ss = true) (hk : (lenB listn 1 listl && Nat.blt 0 listn) = true) : (s_l01Pick sn sl ss listn listl).1 ∈ listl := by
  obtain ⟨hl, _⟩ := lenB_ok (and_l hk)
  have h0 : 0 < listn := blt_pos (and_r hk)
  have hr := next_rng sn sl ss (listn : Int) hs (by omega)
  rw [s_l01Pick_eq]
  unfold s_l01Pick_d
  dsimp only [k123_0]
  exact getD_mem (by omega)
theorem pick_prB (sn : Nat) (sl : List Int) (ss : Int × Int) (x : Int) (hs : srcB sn sl ss = true) : prB (s_l01Pick sn sl ss 3 [3, 5, minI (maxI x 1) 31]).1 = true := by
  have h := pick_mem sn sl ss 3 [3, 5, minI (maxI x 1) 31] hs rfl
  generalize (s_l01Pick sn sl ss 3 [3, 5, minI (maxI x 1) 31]).1 = y at h
  have hm : 1 ≤ minI (maxI x 1) 31 ∧ minI (maxI x 1) 31 ≤ 31 := by
    unfold minI maxI
    repeat' split
    all_goals omega
  refine Pr_prB ?_
  unfold Pr
  simp at h
  omega
def run_s_l01Pick : PRun
  | 142, [.s sn (.byts sl), .v (.int .i64 s_1), .v (.int .u64 s_2)], [.s listn (.ints listl)] => some (srcB sn sl (s_1, s_2) && (lenB listn 1 listl && Nat.blt 0 listn), enc_P142_i (s_l01Pick sn sl (s_1, s_2) listn listl))
  | _, _, _ => none
theorem sound_s_l01Pick : SoundP Tryz.prog 123 run_s_l01Pick := by
  refine soundP_of de_P142_i SO_s_l01Pick (by kernel_rfl) Tryz.func123 Tryz.ntmps123 rfl (by kernel_rfl) ?_
  intro e bcs pvs rs bcs' hrun
  unfold run_s_l01Pick at hrun
  split at hrun
  · simp only [Option.some.injEq, Prod.mk.injEq] at hrun
    obtain ⟨hp, hrun⟩ := hrun
    rename_i sn sl s_1 s_2 listn listl
    exact ⟨_, s_l01Pick sn sl (s_1, s_2) listn listl, by first | exact hrun.symm | exact (Prod.ext hrun.1 hrun.2).symm, (eq_s_l01Pick sn sl (s_1, s_2) listn listl).trans (tot_s_l01Pick sn sl (s_1, s_2) listn listl hp)⟩
  · cases hrun

abbrev k144_0 (sn : Nat) (sl : List Int) (ss : Int × Int) : Int × Nat × List Int × Int × Int := (s_l01Pick sn sl ss 13 [3, 5, 5, 7, 7, 11, 13, 13, 17, 19, 23, 29, 31])
def S_s_l01DrawField : Sums := ⟨tblS [], tblM [(123, .box run_s_l01Pick)]⟩
theorem SO_s_l01DrawField : SumsOK Tryz.prog S_s_l01DrawField := ⟨tblS_ok True.intro, tblM_ok ⟨⟨Tryz.call123, sound_s_l01Pick⟩, True.intro⟩⟩
def Fo_s_l01DrawField (sn : Nat) (sl : List Int) (ss : Int × Int) : Option (Int × Nat × List Int × Int × Int) :=
  (if (srcB sn sl ss && (lenB 13 1 ([3, 5, 5, 7, 7, 11, 13, 13, 17, 19, 23, 29, 31]) && Nat.blt 0 13)) = true then some ((k144_0 sn sl ss).1, sn, sl, (k144_0 sn sl ss).2.2.2) else none)
theorem eq_s_l01DrawField (sn : Nat) (sl : List Int) (ss : Int × Int) : execP Tryz.prog S_s_l01DrawField 144 6 (fun _ => 1000000) dec_P142_i 142 [.s sn (.byts sl), .v (.int .i64 ss.1), .v (.int .u64 ss.2)] [] = Fo_s_l01DrawField sn sl ss := by
  kernel_rfl
def s_l01DrawField_d (sn : Nat) (sl : List Int) (ss : Int × Int) : Int × Nat × List Int × Int × Int :=
  ((k144_0 sn sl ss).1, sn, sl, (k144_0 sn sl ss).2.2.2)
def s_l01DrawField : (Nat) → (List Int) → (Int × Int) → (Int × Nat × List Int × Int × Int) := shut s_l01DrawField_d
theorem s_l01DrawField_eq (sn : Nat) (sl : List Int) (ss : Int × Int) : s_l01DrawField sn sl ss = s_l01DrawField_d sn sl ss := by
  unfold s_l01DrawField
  rw [shut_eq]
theorem tot_s_l01DrawField (sn : Nat) (sl : List Int) (ss : Int × Int) (hp : (srcB sn sl ss) = true) : Fo_s_l01DrawField sn sl ss = some (s_l01DrawField sn sl ss) := by
  have hs := hp
  have hc := (srcB_ok hs).1
  rw [s_l01DrawField_eq]
  unfold Fo_s_l01DrawField s_l01DrawField_d
  (try simp only [wI_eq])
  repeat' (first | with_reducible rfl | refine chk_opt (by first | (with_reducible assumption) | ((repeat (with_reducible first | assumption | apply post_s_l01Pick)); done) | (with_reducible exact field_prB9 _ _ _ (by ((repeat (with_reducible first | assumption | apply post_s_l01Pick)); done))) | fail | exact pos_idx ‹_› | exact and_two (by ((repeat (with_reducible first | assumption | apply post_s_l01Pick)); done)) (by (first | (with_reducible assumption) | with_reducible exact field_prB9 _ _ _ (by ((repeat (with_reducible first | assumption | apply post_s_l01Pick)); done)) | fail | rfl)) | exact pos_cell ‹_› (by (first | exact flat2_len _ | exact flat3_len _)) | exact idx_ok (next_rng _ _ _ _ (by ((repeat (with_reducible first | assumption | apply post_s_l01Pick)); done)) (by decide)) | exact ble_ok (next_ble _ _ _ _ (by ((repeat (with_reducible first | assumption | apply post_s_l01Pick)); done)) (by decide) (by decide)) | exact ble_ok (next_ble0 _ _ _ _ (by ((repeat (with_reducible first | assumption | apply post_s_l01Pick)); done)) (by decide) (by decide)) | exact idx_ok (next_rng _ _ _ _ (by ((repeat (with_reducible first | assumption | apply post_s_l01Pick)); done)) (pos_one ‹_›)) | exact next_cell (by ((repeat (with_reducible first | assumption | apply post_s_l01Pick)); done)) ‹_› (by (first | exact flat2_len _ | exact flat3_len _))) ?_ | refine ite_opt (fun _ => ?_) (fun _ => ?_) | rfl)
theorem post_s_l01DrawField (sn : Nat) (sl : List Int) (ss : Int × Int) (hs : srcB sn sl ss = true) : srcB sn sl (s_l01DrawField sn sl ss).2.2.2 = true := by
  have hc := (srcB_ok hs).1
  rw [s_l01DrawField_eq]
  unfold s_l01DrawField_d
  repeat' (first | (with_reducible first | assumption | apply post_s_l01Pick) | refine ite_ind (P := fun r : Int × Nat × List Int × Int × Int => srcB sn sl r.2.2.2 = true) ?_ ?_ | dsimp only)
theorem field_mem9 (sn : Nat) (sl : List Int) (ss : Int × Int) (hs : srcB sn sl ss = true) : (s_l01DrawField sn sl ss).1 ∈ [3, 5, 5, 7, 7, 11, 13, 13, 17, 19, 23, 29, 31] := by
  rw [s_l01DrawField_eq]
  exact pick_mem sn sl ss _ _ hs rfl
theorem field_prB9 (sn : Nat) (sl : List Int) (ss : Int × Int) (hs : srcB sn sl ss = true) : prB (s_l01DrawField sn sl ss).1 = true := by
  have h := field_mem9 sn sl ss hs
  have : ∀ x ∈ [3, 5, 5, 7, 7, 11, 13, 13, 17, 19, 23, 29, (31 : Int)], prB x = true := by decide
  exact this _ h
def run_s_l01DrawField : PRun
  | 142, [.s sn (.byts sl), .v (.int .i64 s_1), .v (.int .u64 s_2)], [] => some (srcB sn sl (s_1, s_2), enc_P142_i (s_l01DrawField sn sl (s_1, s_2)))
  | _, _, _ => none
theorem sound_s_l01DrawField : SoundP Tryz.prog 144 run_s_l01DrawField := by
  refine soundP_of de_P142_i SO_s_l01DrawField (by kernel_rfl) Tryz.func144 Tryz.ntmps144 rfl (by kernel_rfl) ?_
  intro e bcs pvs rs bcs' hrun
  unfold run_s_l01DrawField at hrun
  split at hrun
  · simp only [Option.some.injEq, Prod.mk.injEq] at hrun
    obtain ⟨hp, hrun⟩ := hrun
    rename_i sn sl s_1 s_2
    exact ⟨_, s_l01DrawField sn sl (s_1, s_2), by first | exact hrun.symm | exact (Prod.ext hrun.1 hrun.2).symm, (eq_s_l01DrawField sn sl (s_1, s_2)).trans (tot_s_l01DrawField sn sl (s_1, s_2) hp)⟩
  · cases hrun

theorem field_is8 (sn : Nat) (sl : List Int) (ss : Int × Int) (hs : srcB sn sl ss = true) : i_IsField (s_l01DrawField sn sl ss).1 = true := by
  have h := field_mem9 sn sl ss hs
  have : ∀ x ∈ [3, 5, 5, 7, 7, 11, 13, 13, 17, 19, 23, 29, (31 : Int)], i_IsField x = true := by decide +kernel
  exact this _ h
abbrev k85_0 (sn : Nat) (sl : List Int) (ss : Int × Int) (p : Int) : Int × Nat × List Int × Int × Int := (s_l01Pick sn sl ((s_l01Next sn sl ss 40).2.2.2) 8 [2, 1, 0, (-3), 9, 15, 37, 1099511627776])
def S_s_l01BadField : Sums := ⟨tblS [], tblM [(124, .box run_s_l01Next), (123, .box run_s_l01Pick)]⟩
theorem SO_s_l01BadField : SumsOK Tryz.prog S_s_l01BadField := ⟨tblS_ok True.intro, tblM_ok ⟨⟨Tryz.call124, sound_s_l01Next⟩, ⟨Tryz.call123, sound_s_l01Pick⟩, True.intro⟩⟩
def Fo_s_l01BadField (sn : Nat) (sl : List Int) (ss : Int × Int) (p : Int) : Option (Int × Nat × List Int × Int × Int) :=
  (if (srcB sn sl ss) = true then (if (((s_l01Next sn sl ss 40).1) == 0) = true then (if (srcB sn sl ((s_l01Next sn sl ss 40).2.2.2) && (lenB 8 1 ([2, 1, 0, (-3), 9, 15, 37, 1099511627776]) && Nat.blt 0 8)) = true then some ((k85_0 sn sl ss p).1, sn, sl, (k85_0 sn sl ss p).2.2.2) else none) else some (p, sn, sl, (s_l01Next sn sl ss 40).2.2.2)) else none)
theorem eq_s_l01BadField (sn : Nat) (sl : List Int) (ss : Int × Int) (p : Int) : execP Tryz.prog S_s_l01BadField 85 12 (fun _ => 1000000) dec_P142_i 142 [.s sn (.byts sl), .v (.int .i64 ss.1), .v (.int .u64 ss.2)] [.v (.int .i64 p)] = Fo_s_l01BadField sn sl ss p := by
  kernel_rfl
def s_l01BadField_d (sn : Nat) (sl : List Int) (ss : Int × Int) (p : Int) : Int × Nat × List Int × Int × Int :=
  (if (((s_l01Next sn sl ss 40).1) == 0) = true then ((k85_0 sn sl ss p).1, sn, sl, (k85_0 sn sl ss p).2.2.2) else (p, sn, sl, (s_l01Next sn sl ss 40).2.2.2))
def s_l01BadField : (Nat) → (List Int) → (Int × Int) → (Int) → (Int × Nat × List Int × Int × Int) := shut s_l01BadField_d
theorem s_l01BadField_eq (sn : Nat) (sl : List Int) (ss : Int × Int) (p : Int) : s_l01BadField sn sl ss p = s_l01BadField_d sn sl ss p := by
  unfold s_l01BadField
  rw [shut_eq]
theorem tot_s_l01BadField (sn : Nat) (sl : List Int) (ss : Int × Int) (p : Int) (hp : (srcB sn sl ss && prB p) = true) : Fo_s_l01BadField sn sl ss p = some (s_l01BadField sn sl ss p) := by
  have hs := and_l hp
  have hc := (srcB_ok hs).1
  have hq := and_r hp
  have h0 := prB_ne hq
  rw [s_l01BadField_eq]
  unfold Fo_s_l01BadField s_l01BadField_d
  (try simp only [wI_eq])
  repeat' (first | with_reducible rfl | refine chk_opt (by first | (with_reducible assumption) | ((repeat (with_reducible first | assumption | apply post_s_l01Next | apply post_s_l01Pick)); done) | (with_reducible exact field_prB9 _ _ _ (by ((repeat (with_reducible first | assumption | apply post_s_l01Next | apply post_s_l01Pick)); done))) | fail | exact pos_idx ‹_› | exact and_two (by ((repeat (with_reducible first | assumption | apply post_s_l01Next | apply post_s_l01Pick)); done)) (by (first | (with_reducible assumption) | with_reducible exact field_prB9 _ _ _ (by ((repeat (with_reducible first | assumption | apply post_s_l01Next | apply post_s_l01Pick)); done)) | fail | rfl)) | exact pos_cell ‹_› (by (first | exact flat2_len _ | exact flat3_len _)) | exact idx_ok (next_rng _ _ _ _ (by ((repeat (with_reducible first | assumption | apply post_s_l01Next | apply post_s_l01Pick)); done)) (by decide)) | exact ble_ok (next_ble _ _ _ _ (by ((repeat (with_reducible first | assumption | apply post_s_l01Next | apply post_s_l01Pick)); done)) (by decide) (by decide)) | exact ble_ok (next_ble0 _ _ _ _ (by ((repeat (with_reducible first | assumption | apply post_s_l01Next | apply post_s_l01Pick)); done)) (by decide) (by decide)) | exact idx_ok (next_rng _ _ _ _ (by ((repeat (with_reducible first | assumption | apply post_s_l01Next | apply post_s_l01Pick)); done)) (pos_one ‹_›)) | exact next_cell (by ((repeat (with_reducible first | assumption | apply post_s_l01Next | apply post_s_l01Pick)); done)) ‹_› (by (first | exact flat2_len _ | exact flat3_len _))) ?_ | refine ite_opt (fun _ => ?_) (fun _ => ?_) | rfl)
theorem post_s_l01BadField (sn : Nat) (sl : List Int) (ss : Int × Int) (p : Int) (hs : srcB sn sl ss = true) : srcB sn sl (s_l01BadField sn sl ss p).2.2.2 = true := by
  have hc := (srcB_ok hs).1
  rw [s_l01BadField_eq]
  unfold s_l01BadField_d
  repeat' (first | (with_reducible first | assumption | apply post_s_l01Next | apply post_s_l01Pick) | refine ite_ind (P := fun r : Int × Nat × List Int × Int × Int => srcB sn sl r.2.2.2 = true) ?_ ?_ | dsimp only)
def run_s_l01BadField : PRun
  | 142, [.s sn (.byts sl), .v (.int .i64 s_1), .v (.int .u64 s_2)], [.v (.int .i64 p)] => some (srcB sn sl (s_1, s_2) && prB p, enc_P142_i (s_l01BadField sn sl (s_1, s_2) p))
  | _, _, _ => none
theorem sound_s_l01BadField : SoundP Tryz.prog 85 run_s_l01BadField := by
  refine soundP_of de_P142_i SO_s_l01BadField (by kernel_rfl) Tryz.func85 Tryz.ntmps85 rfl (by kernel_rfl) ?_
  intro e bcs pvs rs bcs' hrun
  unfold run_s_l01BadField at hrun
  split at hrun
  · simp only [Option.some.injEq, Prod.mk.injEq] at hrun
    obtain ⟨hp, hrun⟩ := hrun
    rename_i sn sl s_1 s_2 p
    exact ⟨_, s_l01BadField sn sl (s_1, s_2) p, by first | exact hrun.symm | exact (Prod.ext hrun.1 hrun.2).symm, (eq_s_l01BadField sn sl (s_1, s_2) p).trans (tot_s_l01BadField sn sl (s_1, s_2) p hp)⟩
  · cases hrun

abbrev k84_0 (sn : Nat) (sl : List Int) (ss : Int × Int) (p : Int) : Int × Nat × List Int × Int × Int := (s_l01Next sn sl ((s_l01Next sn sl ss 4).2.2.2) 3)
abbrev k84_1 (sn : Nat) (sl : List Int) (ss : Int × Int) (p : Int) : Int × Nat × List Int × Int × Int := (s_l01Next sn sl ((k84_0 sn sl ss p).2.2.2) 3)
abbrev k84_2 (sn : Nat) (sl : List Int) (ss : Int × Int) (p : Int) : Int × Nat × List Int × Int × Int := (s_l01Next sn sl ((s_l01Next sn sl ss 4).2.2.2) p)
abbrev k84_3 (sn : Nat) (sl : List Int) (ss : Int × Int) (p : Int) : Int × Nat × List Int × Int × Int := (s_l01Next sn sl ((k84_2 sn sl ss p).2.2.2) p)
def S_s_l01DrawPoint : Sums := ⟨tblS [], tblM [(124, .box run_s_l01Next)]⟩
theorem SO_s_l01DrawPoint : SumsOK Tryz.prog S_s_l01DrawPoint := ⟨tblS_ok True.intro, tblM_ok ⟨⟨Tryz.call124, sound_s_l01Next⟩, True.intro⟩⟩
def Fo_s_l01DrawPoint (sn : Nat) (sl : List Int) (ss : Int × Int) (p : Int) : Option ((Int × Int) × Nat × List Int × Int × Int) :=
  (if (srcB sn sl ss) = true then (if (((s_l01Next sn sl ss 4).1) == 0) = true then (if (srcB sn sl ((s_l01Next sn sl ss 4).2.2.2)) = true then (if (srcB sn sl ((k84_0 sn sl ss p).2.2.2)) = true then some (((k84_0 sn sl ss p).1, (k84_1 sn sl ss p).1), sn, sl, (k84_1 sn sl ss p).2.2.2) else none) else none) else (if (srcB sn sl ((s_l01Next sn sl ss 4).2.2.2)) = true then (if (srcB sn sl ((k84_2 sn sl ss p).2.2.2)) = true then some (((k84_2 sn sl ss p).1, (k84_3 sn sl ss p).1), sn, sl, (k84_3 sn sl ss p).2.2.2) else none) else none)) else none)
theorem eq_s_l01DrawPoint (sn : Nat) (sl : List Int) (ss : Int × Int) (p : Int) : execP Tryz.prog S_s_l01DrawPoint 84 20 (fun _ => 1000000) dec_P142_a2 142 [.s sn (.byts sl), .v (.int .i64 ss.1), .v (.int .u64 ss.2)] [.v (.int .i64 p)] = Fo_s_l01DrawPoint sn sl ss p := by
  kernel_rfl
def s_l01DrawPoint_d (sn : Nat) (sl : List Int) (ss : Int × Int) (p : Int) : (Int × Int) × Nat × List Int × Int × Int :=
  (if (((s_l01Next sn sl ss 4).1) == 0) = true then (((k84_0 sn sl ss p).1, (k84_1 sn sl ss p).1), sn, sl, (k84_1 sn sl ss p).2.2.2) else (((k84_2 sn sl ss p).1, (k84_3 sn sl ss p).1), sn, sl, (k84_3 sn sl ss p).2.2.2))
def s_l01DrawPoint : (Nat) → (List Int) → (Int × Int) → (Int) → ((Int × Int) × Nat × List Int × Int × Int) := shut s_l01DrawPoint_d
theorem s_l01DrawPoint_eq (sn : Nat) (sl : List Int) (ss : Int × Int) (p : Int) : s_l01DrawPoint sn sl ss p = s_l01DrawPoint_d sn sl ss p := by
  unfold s_l01DrawPoint
  rw [shut_eq]
theorem tot_s_l01DrawPoint (sn : Nat) (sl : List Int) (ss : Int × Int) (p : Int) (hp : (srcB sn sl ss && prB p) = true) : Fo_s_l01DrawPoint sn sl ss p = some (s_l01DrawPoint sn sl ss p) := by
  have hs := and_l hp
  have hc := (srcB_ok hs).1
  have hq := and_r hp
  have h0 := prB_ne hq
  rw [s_l01DrawPoint_eq]
  unfold Fo_s_l01DrawPoint s_l01DrawPoint_d
  (try simp only [wI_eq])
  repeat' (first | with_reducible rfl | refine chk_opt (by first | (with_reducible assumption) | ((repeat (with_reducible first | assumption | apply post_s_l01Next)); done) | (with_reducible exact field_prB9 _ _ _ (by ((repeat (with_reducible first | assumption | apply post_s_l01Next)); done))) | fail | exact pos_idx ‹_› | exact and_two (by ((repeat (with_reducible first | assumption | apply post_s_l01Next)); done)) (by (first | (with_reducible assumption) | with_reducible exact field_prB9 _ _ _ (by ((repeat (with_reducible first | assumption | apply post_s_l01Next)); done)) | fail | rfl)) | exact pos_cell ‹_› (by (first | exact flat2_len _ | exact flat3_len _)) | exact idx_ok (next_rng _ _ _ _ (by ((repeat (with_reducible first | assumption | apply post_s_l01Next)); done)) (by decide)) | exact ble_ok (next_ble _ _ _ _ (by ((repeat (with_reducible first | assumption | apply post_s_l01Next)); done)) (by decide) (by decide)) | exact ble_ok (next_ble0 _ _ _ _ (by ((repeat (with_reducible first | assumption | apply post_s_l01Next)); done)) (by decide) (by decide)) | exact idx_ok (next_rng _ _ _ _ (by ((repeat (with_reducible first | assumption | apply post_s_l01Next)); done)) (pos_one ‹_›)) | exact next_cell (by ((repeat (with_reducible first | assumption | apply post_s_l01Next)); done)) ‹_› (by (first | exact flat2_len _ | exact flat3_len _))) ?_ | refine ite_opt (fun _ => ?_) (fun _ => ?_) | rfl)
theorem post_s_l01DrawPoint (sn : Nat) (sl : List Int) (ss : Int × Int) (p : Int) (hs : srcB sn sl ss = true) : srcB sn sl (s_l01DrawPoint sn sl ss p).2.2.2 = true := by
  have hc := (srcB_ok hs).1
  rw [s_l01DrawPoint_eq]
  unfold s_l01DrawPoint_d
  repeat' (first | (with_reducible first | assumption | apply post_s_l01Next) | refine ite_ind (P := fun r : (Int × Int) × Nat × List Int × Int × Int => srcB sn sl r.2.2.2 = true) ?_ ?_ | dsimp only)
def run_s_l01DrawPoint : PRun
  | 142, [.s sn (.byts sl), .v (.int .i64 s_1), .v (.int .u64 s_2)], [.v (.int .i64 p)] => some (srcB sn sl (s_1, s_2) && prB p, enc_P142_a2 (s_l01DrawPoint sn sl (s_1, s_2) p))
  | _, _, _ => none
theorem sound_s_l01DrawPoint : SoundP Tryz.prog 84 run_s_l01DrawPoint := by
  refine soundP_of de_P142_a2 SO_s_l01DrawPoint (by kernel_rfl) Tryz.func84 Tryz.ntmps84 rfl (by kernel_rfl) ?_
  intro e bcs pvs rs bcs' hrun
  unfold run_s_l01DrawPoint at hrun
  split at hrun
  · simp only [Option.some.injEq, Prod.mk.injEq] at hrun
    obtain ⟨hp, hrun⟩ := hrun
    rename_i sn sl s_1 s_2 p
    exact ⟨_, s_l01DrawPoint sn sl (s_1, s_2) p, by first | exact hrun.symm | exact (Prod.ext hrun.1 hrun.2).symm, (eq_s_l01DrawPoint sn sl (s_1, s_2) p).trans (tot_s_l01DrawPoint sn sl (s_1, s_2) p hp)⟩
  · cases hrun

abbrev k83_0 (sn : Nat) (sl : List Int) (ss : Int × Int) (p : Int) (a : Int × Int) : Int × Nat × List Int × Int × Int := (s_l01Next sn sl ((s_l01Next sn sl ss 40).2.2.2) 2)
abbrev k83_1 (sn : Nat) (sl : List Int) (ss : Int × Int) (p : Int) (a : Int × Int) : Int × Nat × List Int × Int × Int := (s_l01Pick sn sl ((k83_0 sn sl ss p a).2.2.2) 3 [(-1), p, 1099511627776])
def S_s_l01BadPoint : Sums := ⟨tblS [], tblM [(124, .box run_s_l01Next), (123, .box run_s_l01Pick)]⟩
theorem SO_s_l01BadPoint : SumsOK Tryz.prog S_s_l01BadPoint := ⟨tblS_ok True.intro, tblM_ok ⟨⟨Tryz.call124, sound_s_l01Next⟩, ⟨Tryz.call123, sound_s_l01Pick⟩, True.intro⟩⟩
def Fo_s_l01BadPoint (sn : Nat) (sl : List Int) (ss : Int × Int) (p : Int) (a : Int × Int) : Option ((Int × Int) × Nat × List Int × Int × Int) :=
  (if (srcB sn sl ss) = true then (if (((s_l01Next sn sl ss 40).1) == 0) = true then (if (srcB sn sl ((s_l01Next sn sl ss 40).2.2.2)) = true then (if (srcB sn sl ((k83_0 sn sl ss p a).2.2.2) && (lenB 3 1 ([(-1), p, 1099511627776]) && Nat.blt 0 3)) = true then (if (decide (0 ≤ (k83_0 sn sl ss p a).1) && decide ((k83_0 sn sl ss p a).1 < ((2 : Nat) : Int))) = true then (if (Nat.ble (0 + ((((k83_0 sn sl ss p a).1).toNat) * 1) + 1) 2) = true then some ((bif Nat.beq (0 + ((((k83_0 sn sl ss p a).1).toNat) * 1)) 0 then ((k83_1 sn sl ss p a).1) else a.1, bif Nat.beq (0 + ((((k83_0 sn sl ss p a).1).toNat) * 1)) 1 then ((k83_1 sn sl ss p a).1) else a.2), sn, sl, (k83_1 sn sl ss p a).2.2.2) else none) else none) else none) else none) else some (a, sn, sl, (s_l01Next sn sl ss 40).2.2.2)) else none)
theorem eq_s_l01BadPoint (sn : Nat) (sl : List Int) (ss : Int × Int) (p : Int) (a : Int × Int) : execP Tryz.prog S_s_l01BadPoint 83 18 (fun _ => 1000000) dec_P142_a2 142 [.s sn (.byts sl), .v (.int .i64 ss.1), .v (.int .u64 ss.2)] [.v (.int .i64 p), .v (.agg ⟨[.int .i64 a.1, .int .i64 a.2]⟩)] = Fo_s_l01BadPoint sn sl ss p a := by
  kernel_rfl
def s_l01BadPoint_d (sn : Nat) (sl : List Int) (ss : Int × Int) (p : Int) (a : Int × Int) : (Int × Int) × Nat × List Int × Int × Int :=
  (if (((s_l01Next sn sl ss 40).1) == 0) = true then ((bif Nat.beq (0 + ((((k83_0 sn sl ss p a).1).toNat) * 1)) 0 then ((k83_1 sn sl ss p a).1) else a.1, bif Nat.beq (0 + ((((k83_0 sn sl ss p a).1).toNat) * 1)) 1 then ((k83_1 sn sl ss p a).1) else a.2), sn, sl, (k83_1 sn sl ss p a).2.2.2) else (a, sn, sl, (s_l01Next sn sl ss 40).2.2.2))
def s_l01BadPoint : (Nat) → (List Int) → (Int × Int) → (Int) → (Int × Int) → ((Int × Int) × Nat × List Int × Int × Int) := shut s_l01BadPoint_d
theorem s_l01BadPoint_eq (sn : Nat) (sl : List Int) (ss : Int × Int) (p : Int) (a : Int × Int) : s_l01BadPoint sn sl ss p a = s_l01BadPoint_d sn sl ss p a := by
  unfold s_l01BadPoint
  rw [shut_eq]
theorem tot_s_l01BadPoint (sn : Nat) (sl : List Int) (ss : Int × Int) (p : Int) (a : Int × Int) (hp : (srcB sn sl ss && prB p) = true) : Fo_s_l01BadPoint sn sl ss p a = some (s_l01BadPoint sn sl ss p a) := by
  have hs := and_l hp
  have hc := (srcB_ok hs).1
  have hq := and_r hp
  have h0 := prB_ne hq
  rw [s_l01BadPoint_eq]
  unfold Fo_s_l01BadPoint s_l01BadPoint_d
  (try simp only [wI_eq])
  repeat' (first | with_reducible rfl | refine chk_opt (by first | (with_reducible assumption) | ((repeat (with_reducible first | assumption | apply post_s_l01Next | apply post_s_l01Pick)); done) | (with_reducible exact field_prB9 _ _ _ (by ((repeat (with_reducible first | assumption | apply post_s_l01Next | apply post_s_l01Pick)); done))) | fail | exact pos_idx ‹_› | exact and_two (by ((repeat (with_reducible first | assumption | apply post_s_l01Next | apply post_s_l01Pick)); done)) (by (first | (with_reducible assumption) | with_reducible exact field_prB9 _ _ _ (by ((repeat (with_reducible first | assumption | apply post_s_l01Next | apply post_s_l01Pick)); done)) | fail | rfl)) | exact pos_cell ‹_› (by (first | exact flat2_len _ | exact flat3_len _)) | exact idx_ok (next_rng _ _ _ _ (by ((repeat (with_reducible first | assumption | apply post_s_l01Next | apply post_s_l01Pick)); done)) (by decide)) | exact ble_ok (next_ble _ _ _ _ (by ((repeat (with_reducible first | assumption | apply post_s_l01Next | apply post_s_l01Pick)); done)) (by decide) (by decide)) | exact ble_ok (next_ble0 _ _ _ _ (by ((repeat (with_reducible first | assumption | apply post_s_l01Next | apply post_s_l01Pick)); done)) (by decide) (by decide)) | exact idx_ok (next_rng _ _ _ _ (by ((repeat (with_reducible first | assumption | apply post_s_l01Next | apply post_s_l01Pick)); done)) (pos_one ‹_›)) | exact next_cell (by ((repeat (with_reducible first | assumption | apply post_s_l01Next | apply post_s_l01Pick)); done)) ‹_› (by (first | exact flat2_len _ | exact flat3_len _))) ?_ | refine ite_opt (fun _ => ?_) (fun _ => ?_) | rfl)
theorem post_s_l01BadPoint (sn : Nat) (sl : List Int) (ss : Int × Int) (p : Int) (a : Int × Int) (hs : srcB sn sl ss = true) : srcB sn sl (s_l01BadPoint sn sl ss p a).2.2.2 = true := by
  have hc := (srcB_ok hs).1
  rw [s_l01BadPoint_eq]
  unfold s_l01BadPoint_d
  repeat' (first | (with_reducible first | assumption | apply post_s_l01Next | apply post_s_l01Pick) | refine ite_ind (P := fun r : (Int × Int) × Nat × List Int × Int × Int => srcB sn sl r.2.2.2 = true) ?_ ?_ | dsimp only)
def run_s_l01BadPoint : PRun
  | 142, [.s sn (.byts sl), .v (.int .i64 s_1), .v (.int .u64 s_2)], [.v (.int .i64 p), .v (.agg ⟨[.int .i64 a0, .int .i64 a1]⟩)] => some (srcB sn sl (s_1, s_2) && prB p, enc_P142_a2 (s_l01BadPoint sn sl (s_1, s_2) p (a0, a1)))
  | _, _, _ => none
theorem sound_s_l01BadPoint : SoundP Tryz.prog 83 run_s_l01BadPoint := by
  refine soundP_of de_P142_a2 SO_s_l01BadPoint (by kernel_rfl) Tryz.func83 Tryz.ntmps83 rfl (by kernel_rfl) ?_
  intro e bcs pvs rs bcs' hrun
  unfold run_s_l01BadPoint at hrun
  split at hrun
  · simp only [Option.some.injEq, Prod.mk.injEq] at hrun
    obtain ⟨hp, hrun⟩ := hrun
    rename_i sn sl s_1 s_2 p a0 a1
    exact ⟨_, s_l01BadPoint sn sl (s_1, s_2) p (a0, a1), by first | exact hrun.symm | exact (Prod.ext hrun.1 hrun.2).symm, (eq_s_l01BadPoint sn sl (s_1, s_2) p (a0, a1)).trans (tot_s_l01BadPoint sn sl (s_1, s_2) p (a0, a1) hp)⟩
  · cases hrun

abbrev k90_0 (sn : Nat) (sl : List Int) (ss : Int × Int) (p : Int) : Int × Nat × List Int × Int × Int := (s_l01Next sn sl ss (wI (p + 1)))
abbrev k90_1 (sn : Nat) (sl : List Int) (ss : Int × Int) (p : Int) : Int × Nat × List Int × Int × Int := (s_l01Next sn sl ((k90_0 sn sl ss p).2.2.2) p)
abbrev k90_2 (sn : Nat) (sl : List Int) (ss : Int × Int) (p : Int) : Int × Nat × List Int × Int × Int := (s_l01Next sn sl ((k90_1 sn sl ss p).2.2.2) p)
def S_s_l01DrawLine : Sums := ⟨tblS [], tblM [(124, .box run_s_l01Next)]⟩
theorem SO_s_l01DrawLine : SumsOK Tryz.prog S_s_l01DrawLine := ⟨tblS_ok True.intro, tblM_ok ⟨⟨Tryz.call124, sound_s_l01Next⟩, True.intro⟩⟩
def Fo_s_l01DrawLine (sn : Nat) (sl : List Int) (ss : Int × Int) (p : Int) : Option ((Int × Int × Int) × Nat × List Int × Int × Int) :=
  (if (srcB sn sl ss) = true then (if (((k90_0 sn sl ss p).1) == 0) = true then (if (srcB sn sl ((k90_0 sn sl ss p).2.2.2)) = true then some ((0, 1, (k90_1 sn sl ss p).1), sn, sl, (k90_1 sn sl ss p).2.2.2) else none) else (if (srcB sn sl ((k90_0 sn sl ss p).2.2.2)) = true then (if (srcB sn sl ((k90_1 sn sl ss p).2.2.2)) = true then some ((1, (k90_1 sn sl ss p).1, (k90_2 sn sl ss p).1), sn, sl, (k90_2 sn sl ss p).2.2.2) else none) else none)) else none)
theorem eq_s_l01DrawLine (sn : Nat) (sl : List Int) (ss : Int × Int) (p : Int) : execP Tryz.prog S_s_l01DrawLine 90 21 (fun _ => 1000000) dec_P142_a3 142 [.s sn (.byts sl), .v (.int .i64 ss.1), .v (.int .u64 ss.2)] [.v (.int .i64 p)] = Fo_s_l01DrawLine sn sl ss p := by
  kernel_rfl
def s_l01DrawLine_d (sn : Nat) (sl : List Int) (ss : Int × Int) (p : Int) : (Int × Int × Int) × Nat × List Int × Int × Int :=
  (if (((k90_0 sn sl ss p).1) == 0) = true then ((0, 1, (k90_1 sn sl ss p).1), sn, sl, (k90_1 sn sl ss p).2.2.2) else ((1, (k90_1 sn sl ss p).1, (k90_2 sn sl ss p).1), sn, sl, (k90_2 sn sl ss p).2.2.2))
def s_l01DrawLine : (Nat) → (List Int) → (Int × Int) → (Int) → ((Int × Int × Int) × Nat × List Int × Int × Int) := shut s_l01DrawLine_d
theorem s_l01DrawLine_eq (sn : Nat) (sl : List Int) (ss : Int × Int) (p : Int) : s_l01DrawLine sn sl ss p = s_l01DrawLine_d sn sl ss p := by
  unfold s_l01DrawLine
  rw [shut_eq]
theorem tot_s_l01DrawLine (sn : Nat) (sl : List Int) (ss : Int × Int) (p : Int) (hp : (srcB sn sl ss && prB p) = true) : Fo_s_l01DrawLine sn sl ss p = some (s_l01DrawLine sn sl ss p) := by
  have hs := and_l hp
  have hc := (srcB_ok hs).1
  have hq := and_r hp
  have h0 := prB_ne hq
  rw [s_l01DrawLine_eq]
  unfold Fo_s_l01DrawLine s_l01DrawLine_d
  (try simp only [wI_eq])
  repeat' (first | with_reducible rfl | refine chk_opt (by first | (with_reducible assumption) | ((repeat (with_reducible first | assumption | apply post_s_l01Next)); done) | (with_reducible exact field_prB9 _ _ _ (by ((repeat (with_reducible first | assumption | apply post_s_l01Next)); done))) | fail | exact pos_idx ‹_› | exact and_two (by ((repeat (with_reducible first | assumption | apply post_s_l01Next)); done)) (by (first | (with_reducible assumption) | with_reducible exact field_prB9 _ _ _ (by ((repeat (with_reducible first | assumption | apply post_s_l01Next)); done)) | fail | rfl)) | exact pos_cell ‹_› (by (first | exact flat2_len _ | exact flat3_len _)) | exact idx_ok (next_rng _ _ _ _ (by ((repeat (with_reducible first | assumption | apply post_s_l01Next)); done)) (by decide)) | exact ble_ok (next_ble _ _ _ _ (by ((repeat (with_reducible first | assumption | apply post_s_l01Next)); done)) (by decide) (by decide)) | exact ble_ok (next_ble0 _ _ _ _ (by ((repeat (with_reducible first | assumption | apply post_s_l01Next)); done)) (by decide) (by decide)) | exact idx_ok (next_rng _ _ _ _ (by ((repeat (with_reducible first | assumption | apply post_s_l01Next)); done)) (pos_one ‹_›)) | exact next_cell (by ((repeat (with_reducible first | assumption | apply post_s_l01Next)); done)) ‹_› (by (first | exact flat2_len _ | exact flat3_len _))) ?_ | refine ite_opt (fun _ => ?_) (fun _ => ?_) | rfl)
theorem post_s_l01DrawLine (sn : Nat) (sl : List Int) (ss : Int × Int) (p : Int) (hs : srcB sn sl ss = true) : srcB sn sl (s_l01DrawLine sn sl ss p).2.2.2 = true := by
  have hc := (srcB_ok hs).1
  rw [s_l01DrawLine_eq]
  unfold s_l01DrawLine_d
  repeat' (first | (with_reducible first | assumption | apply post_s_l01Next) | refine ite_ind (P := fun r : (Int × Int × Int) × Nat × List Int × Int × Int => srcB sn sl r.2.2.2 = true) ?_ ?_ | dsimp only)
def run_s_l01DrawLine : PRun
  | 142, [.s sn (.byts sl), .v (.int .i64 s_1), .v (.int .u64 s_2)], [.v (.int .i64 p)] => some (srcB sn sl (s_1, s_2) && prB p, enc_P142_a3 (s_l01DrawLine sn sl (s_1, s_2) p))
  | _, _, _ => none
theorem sound_s_l01DrawLine : SoundP Tryz.prog 90 run_s_l01DrawLine := by
  refine soundP_of de_P142_a3 SO_s_l01DrawLine (by kernel_rfl) Tryz.func90 Tryz.ntmps90 rfl (by kernel_rfl) ?_
  intro e bcs pvs rs bcs' hrun
  unfold run_s_l01DrawLine at hrun
  split at hrun
  · simp only [Option.some.injEq, Prod.mk.injEq] at hrun
    obtain ⟨hp, hrun⟩ := hrun
    rename_i sn sl s_1 s_2 p
    exact ⟨_, s_l01DrawLine sn sl (s_1, s_2) p, by first | exact hrun.symm | exact (Prod.ext hrun.1 hrun.2).symm, (eq_s_l01DrawLine sn sl (s_1, s_2) p).trans (tot_s_l01DrawLine sn sl (s_1, s_2) p hp)⟩
  · cases hrun

abbrev k89_0 (sn : Nat) (sl : List Int) (ss : Int × Int) (p : Int) (l : Int × Int × Int) : Int × Nat × List Int × Int × Int := (s_l01Next sn sl ((s_l01Next sn sl ss 40).2.2.2) 3)
abbrev k89_1 (sn : Nat) (sl : List Int) (ss : Int × Int) (p : Int) (l : Int × Int × Int) : Int × Nat × List Int × Int × Int := (s_l01Pick sn sl ((k89_0 sn sl ss p l).2.2.2) 3 [(-1), p, 1099511627776])
abbrev k89_2 (sn : Nat) (sl : List Int) (ss : Int × Int) (p : Int) (l : Int × Int × Int) : Int × Nat × List Int × Int × Int := (s_l01Pick sn sl ((s_l01Next sn sl ss 40).2.2.2) 2 [0, 2])
def S_s_l01BadLine : Sums := ⟨tblS [], tblM [(124, .box run_s_l01Next), (123, .box run_s_l01Pick)]⟩
theorem SO_s_l01BadLine : SumsOK Tryz.prog S_s_l01BadLine := ⟨tblS_ok True.intro, tblM_ok ⟨⟨Tryz.call124, sound_s_l01Next⟩, ⟨Tryz.call123, sound_s_l01Pick⟩, True.intro⟩⟩
def Fo_s_l01BadLine (sn : Nat) (sl : List Int) (ss : Int × Int) (p : Int) (l : Int × Int × Int) : Option ((Int × Int × Int) × Nat × List Int × Int × Int) :=
  (if (srcB sn sl ss) = true then (if (((s_l01Next sn sl ss 40).1) == 0) = true then (if (srcB sn sl ((s_l01Next sn sl ss 40).2.2.2)) = true then (if (srcB sn sl ((k89_0 sn sl ss p l).2.2.2) && (lenB 3 1 ([(-1), p, 1099511627776]) && Nat.blt 0 3)) = true then (if (decide (0 ≤ (k89_0 sn sl ss p l).1) && decide ((k89_0 sn sl ss p l).1 < ((3 : Nat) : Int))) = true then (if (Nat.ble (0 + ((((k89_0 sn sl ss p l).1).toNat) * 1) + 1) 3) = true then some ((bif Nat.beq (0 + ((((k89_0 sn sl ss p l).1).toNat) * 1)) 0 then ((k89_1 sn sl ss p l).1) else l.1, bif Nat.beq (0 + ((((k89_0 sn sl ss p l).1).toNat) * 1)) 1 then ((k89_1 sn sl ss p l).1) else l.2.1, bif Nat.beq (0 + ((((k89_0 sn sl ss p l).1).toNat) * 1)) 2 then ((k89_1 sn sl ss p l).1) else l.2.2), sn, sl, (k89_1 sn sl ss p l).2.2.2) else none) else none) else none) else none) else (if (((s_l01Next sn sl ss 40).1) == 1) = true then (if (srcB sn sl ((s_l01Next sn sl ss 40).2.2.2) && (lenB 2 1 ([0, 2]) && Nat.blt 0 2)) = true then some ((0, (k89_2 sn sl ss p l).1, 1), sn, sl, (k89_2 sn sl ss p l).2.2.2) else none) else (if (((s_l01Next sn sl ss 40).1) == 2) = true then some ((2, 1, 0), sn, sl, (s_l01Next sn sl ss 40).2.2.2) else some (l, sn, sl, (s_l01Next sn sl ss 40).2.2.2)))) else none)
theorem eq_s_l01BadLine (sn : Nat) (sl : List Int) (ss : Int × Int) (p : Int) (l : Int × Int × Int) : execP Tryz.prog S_s_l01BadLine 89 28 (fun _ => 1000000) dec_P142_a3 142 [.s sn (.byts sl), .v (.int .i64 ss.1), .v (.int .u64 ss.2)] [.v (.int .i64 p), .v (.agg ⟨[.int .i64 l.1, .int .i64 l.2.1, .int .i64 l.2.2]⟩)] = Fo_s_l01BadLine sn sl ss p l := by
  kernel_rfl
def s_l01BadLine_d (sn : Nat) (sl : List Int) (ss : Int × Int) (p : Int) (l : Int × Int × Int) : (Int × Int × Int) × Nat × List Int × Int × Int :=
  (if (((s_l01Next sn sl ss 40).1) == 0) = true then ((bif Nat.beq (0 + ((((k89_0 sn sl ss p l).1).toNat) * 1)) 0 then ((k89_1 sn sl ss p l).1) else l.1, bif Nat.beq (0 + ((((k89_0 sn sl ss p l).1).toNat) * 1)) 1 then ((k89_1 sn sl ss p l).1) else l.2.1, bif Nat.beq (0 + ((((k89_0 sn sl ss p l).1).toNat) * 1)) 2 then ((k89_1 sn sl ss p l).1) else l.2.2), sn, sl, (k89_1 sn sl ss p l).2.2.2) else (if (((s_l01Next sn sl ss 40).1) == 1) = true then ((0, (k89_2 sn sl ss p l).1, 1), sn, sl, (k89_2 sn sl ss p l).2.2.2) else (if (((s_l01Next sn sl ss 40).1) == 2) = true then ((2, 1, 0), sn, sl, (s_l01Next sn sl ss 40).2.2.2) else (l, sn, sl, (s_l01Next sn sl ss 40).2.2.2))))
def s_l01BadLine : (Nat) → (List Int) → (Int × Int) → (Int) → (Int × Int × Int) → ((Int × Int × Int) × Nat × List Int × Int × Int) := shut s_l01BadLine_d
theorem s_l01BadLine_eq (sn : Nat) (sl : List Int) (ss : Int × Int) (p : Int) (l : Int × Int × Int) : s_l01BadLine sn sl ss p l = s_l01BadLine_d sn sl ss p l := by
  unfold s_l01BadLine
  rw [shut_eq]
theorem tot_s_l01BadLine (sn : Nat) (sl : List Int) (ss : Int × Int) (p : Int) (l : Int × Int × Int) (hp : (srcB sn sl ss && prB p) = true) : Fo_s_l01BadLine sn sl ss p l = some (s_l01BadLine sn sl ss p l) := by
  have hs := and_l hp
  have hc := (srcB_ok hs).1
  have hq := and_r hp
  have h0 := prB_ne hq
  rw [s_l01BadLine_eq]
  unfold Fo_s_l01BadLine s_l01BadLine_d
  (try simp only [wI_eq])
  repeat' (first | with_reducible rfl | refine chk_opt (by first | (with_reducible assumption) | ((repeat (with_reducible first | assumption | apply post_s_l01Next | apply post_s_l01Pick)); done) | (with_reducible exact field_prB9 _ _ _ (by ((repeat (with_reducible first | assumption | apply post_s_l01Next | apply post_s_l01Pick)); done))) | fail | exact pos_idx ‹_› | exact and_two (by ((repeat (with_reducible first | assumption | apply post_s_l01Next | apply post_s_l01Pick)); done)) (by (first | (with_reducible assumption) | with_reducible exact field_prB9 _ _ _ (by ((repeat (with_reducible first | assumption | apply post_s_l01Next | apply post_s_l01Pick)); done)) | fail | rfl)) | exact pos_cell ‹_› (by (first | exact flat2_len _ | exact flat3_len _)) | exact idx_ok (next_rng _ _ _ _ (by ((repeat (with_reducible first | assumption | apply post_s_l01Next | apply post_s_l01Pick)); done)) (by decide)) | exact ble_ok (next_ble _ _ _ _ (by ((repeat (with_reducible first | assumption | apply post_s_l01Next | apply post_s_l01Pick)); done)) (by decide) (by decide)) | exact ble_ok (next_ble0 _ _ _ _ (by ((repeat (with_reducible first | assumption | apply post_s_l01Next | apply post_s_l01Pick)); done)) (by decide) (by decide)) | exact idx_ok (next_rng _ _ _ _ (by ((repeat (with_reducible first | assumption | apply post_s_l01Next | apply post_s_l01Pick)); done)) (pos_one ‹_›)) | exact next_cell (by ((repeat (with_reducible first | assumption | apply post_s_l01Next | apply post_s_l01Pick)); done)) ‹_› (by (first | exact flat2_len _ | exact flat3_len _))) ?_ | refine ite_opt (fun _ => ?_) (fun _ => ?_) | rfl)
theorem post_s_l01BadLine (sn : Nat) (sl : List Int) (ss : Int × Int) (p : Int) (l : Int × Int × Int) (hs : srcB sn sl ss = true) : srcB sn sl (s_l01BadLine sn sl ss p l).2.2.2 = true := by
  have hc := (srcB_ok hs).1
  rw [s_l01BadLine_eq]
  unfold s_l01BadLine_d
  repeat' (first | (with_reducible first | assumption | apply post_s_l01Next | apply post_s_l01Pick) | refine ite_ind (P := fun r : (Int × Int × Int) × Nat × List Int × Int × Int => srcB sn sl r.2.2.2 = true) ?_ ?_ | dsimp only)
def run_s_l01BadLine : PRun
  | 142, [.s sn (.byts sl), .v (.int .i64 s_1), .v (.int .u64 s_2)], [.v (.int .i64 p), .v (.agg ⟨[.int .i64 l0, .int .i64 l1, .int .i64 l2]⟩)] => some (srcB sn sl (s_1, s_2) && prB p, enc_P142_a3 (s_l01BadLine sn sl (s_1, s_2) p (l0, l1, l2)))
  | _, _, _ => none
theorem sound_s_l01BadLine : SoundP Tryz.prog 89 run_s_l01BadLine := by
  refine soundP_of de_P142_a3 SO_s_l01BadLine (by kernel_rfl) Tryz.func89 Tryz.ntmps89 rfl (by kernel_rfl) ?_
  intro e bcs pvs rs bcs' hrun
  unfold run_s_l01BadLine at hrun
  split at hrun
  · simp only [Option.some.injEq, Prod.mk.injEq] at hrun
    obtain ⟨hp, hrun⟩ := hrun
    rename_i sn sl s_1 s_2 p l0 l1 l2
    exact ⟨_, s_l01BadLine sn sl (s_1, s_2) p (l0, l1, l2), by first | exact hrun.symm | exact (Prod.ext hrun.1 hrun.2).symm, (eq_s_l01BadLine sn sl (s_1, s_2) p (l0, l1, l2)).trans (tot_s_l01BadLine sn sl (s_1, s_2) p (l0, l1, l2) hp)⟩
  · cases hrun


end

end Go.Proofs.YtoblkbpejfojjaaGreatDoor
