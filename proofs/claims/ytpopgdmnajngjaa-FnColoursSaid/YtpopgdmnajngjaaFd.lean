import Derived.Test.YtpopgdmnajngjaaFa
import Derived.Test.YtpopgdmnajngjaaProg
set_option linter.unusedSimpArgs false
set_option linter.unusedVariables false
namespace Go.Proofs.Ytpopgdmnajngjaa
open Go.RowKit
noncomputable section
def S_l_big : Sums := ⟨tblS [], tblM []⟩
theorem SO_l_big : SumsOK Try.prog S_l_big := ⟨tblS_ok True.intro, tblM_ok True.intro⟩
def Fo_l_big (coden : Nat) (codel : List Int) : Option (Bool) :=
  some (decide (((coden : Nat) : Int) > 4096))
theorem eq_l_big (coden : Nat) (codel : List Int) : execT Try.prog S_l_big 5 6 (fun _ => 1000000) dec_b [.s coden (.byts codel)] = Fo_l_big coden codel := by
  kernel_rfl
def l_big (coden : Nat) (codel : List Int) : Bool :=
  decide (((coden : Nat) : Int) > 4096)
theorem tot_l_big (coden : Nat) (codel : List Int) : Fo_l_big coden codel = some (l_big coden codel) := by
  unfold Fo_l_big l_big
  (try simp only [wI_eq])
  repeat' (first | with_reducible rfl | refine ite_opt (fun _ => ?_) (fun _ => ?_) | rfl)
def run_l_big : List PV → Option (Bool × List TR)
  | [.s coden (.byts codel)] => some (true, enc_b (l_big coden codel))
  | _ => none
theorem sound_l_big : Sound Try.prog 5 run_l_big := by
  refine sound_of de_b SO_l_big (by kernel_rfl) Try.func5 Try.ntmps5 rfl (by kernel_rfl) ?_
  intro W pvs avs rs hargs hrun
  unfold run_l_big at hrun
  split at hrun
  · simp only [Option.some.injEq, Prod.mk.injEq] at hrun
    obtain ⟨hp, rfl⟩ := hrun
    rename_i coden codel
    exact ⟨_, _, _, hargs, rfl, (eq_l_big coden codel).trans (tot_l_big coden codel)⟩
  · cases hrun

def S_l_likeInts : Sums := ⟨tblS [], tblM []⟩
theorem SO_l_likeInts : SumsOK Try.prog S_l_likeInts := ⟨tblS_ok True.intro, tblM_ok True.intro⟩
def T_l_likeInts_0 (an : Nat) (al : List Int) (bn : Nat) (bl : List Int) (i : Int) : Tab := ⟨[.row 0, .row 4, .junk, .junk, .val (.bool false), .val (.int .i64 i), .row 0, .val (.int .i64 ((an : Nat) : Int)), .row 4, .val (.int .i64 ((bn : Nat) : Int)), .val (.bool (((an : Nat) : Int) != ((bn : Nat) : Int))), .junk, .junk, .junk, .junk, .junk, .junk, .junk, .junk, .junk, .junk, .junk, .junk, .junk, .junk, .junk], [(0, .ros an (.ints al)), (4, .ros bn (.ints bl))]⟩
def X_l_likeInts_0 (P : Program) (fu : Nat) (an : Nat) (al : List Int) (bn : Nat) (bl : List Int) (f : Nat) (i : Int) : Option (Bool) := loopK (exec P S_l_likeInts 26 (fun _ => fu + 100) (Code.sub [1, 1, 0, 1, 0, 0] (bodyF P 9))) f (T_l_likeInts_0 an al bn bl i) (kBlock 0 (kSeq (fun s => exec P S_l_likeInts 26 (fun _ => fu + 100) (Code.sub [1, 1, 1] (bodyF P 9)) s (finT P 9 dec_b)) (finT P 9 dec_b)))
def B_l_likeInts_0 (an : Nat) (al : List Int) (bn : Nat) (bl : List Int) (rec0 : Int → Option (Bool)) (i : Int) : Option (Bool) :=
  (if (decide (i < ((an : Nat) : Int))) = true then (if (decide (0 ≤ i) && decide (i < ((an : Nat) : Int))) = true then (if (Nat.ble (i.toNat * 1 + 1) al.length) = true then (if (decide (0 ≤ i) && decide (i < ((bn : Nat) : Int))) = true then (if (Nat.ble (i.toNat * 1 + 1) bl.length) = true then (if ((al.getD (i.toNat * 1) 0) != (bl.getD (i.toNat * 1) 0)) = true then some false else rec0 (wI (i + 1))) else none) else none) else none) else none) else some true)
def L_l_likeInts_0 (fu : Nat) (an : Nat) (al : List Int) (bn : Nat) (bl : List Int) : Nat → Int → Option (Bool)
  | 0, _ => none
  | f + 1, i => B_l_likeInts_0 an al bn bl (L_l_likeInts_0 fu an al bn bl f) i
theorem loop_l_likeInts_0 (fu : Nat) (an : Nat) (al : List Int) (bn : Nat) (bl : List Int) : ∀ (f : Nat) (i : Int), X_l_likeInts_0 Try.prog fu an al bn bl f i = L_l_likeInts_0 fu an al bn bl f i := by
  intro f
  induction f with
  | zero => intros; rfl
  | succ f ih =>
    intro i
    have h1 : X_l_likeInts_0 Try.prog fu an al bn bl (f + 1) i = B_l_likeInts_0 an al bn bl (X_l_likeInts_0 Try.prog fu an al bn bl f) i := by kernel_rfl
    have h2 : X_l_likeInts_0 Try.prog fu an al bn bl f = L_l_likeInts_0 fu an al bn bl f := by funext i; exact ih i
    rw [h1, h2]
    rfl
def G_l_likeInts (an : Nat) (al : List Int) (bn : Nat) (bl : List Int) (lo0 : Int → Option (Bool)) : Option (Bool) :=
  (if (((an : Nat) : Int) != ((bn : Nat) : Int)) = true then some false else lo0 0)
def Fo_l_likeInts (fu : Nat) (an : Nat) (al : List Int) (bn : Nat) (bl : List Int) : Option (Bool) := G_l_likeInts an al bn bl (L_l_likeInts_0 fu an al bn bl (fu + 100))
theorem eqg_l_likeInts (fu : Nat) (an : Nat) (al : List Int) (bn : Nat) (bl : List Int) : execT Try.prog S_l_likeInts 9 26 (fun _ => fu + 100) dec_b [.s an (.ints al), .s bn (.ints bl)] = G_l_likeInts an al bn bl (L_l_likeInts_0 fu an al bn bl (fu + 100)) := by
  have h1 : execT Try.prog S_l_likeInts 9 26 (fun _ => fu + 100) dec_b [.s an (.ints al), .s bn (.ints bl)] = G_l_likeInts an al bn bl (X_l_likeInts_0 Try.prog fu an al bn bl (fu + 100)) := by kernel_rfl
  have c0 : X_l_likeInts_0 Try.prog fu an al bn bl (fu + 100) = L_l_likeInts_0 fu an al bn bl (fu + 100) := by funext i; exact loop_l_likeInts_0 fu an al bn bl (fu + 100) i
  rw [h1, c0]
theorem eq_l_likeInts (fu : Nat) (an : Nat) (al : List Int) (bn : Nat) (bl : List Int) : execT Try.prog S_l_likeInts 9 26 (fun _ => fu + 100) dec_b [.s an (.ints al), .s bn (.ints bl)] = Fo_l_likeInts fu an al bn bl := eqg_l_likeInts fu an al bn bl
def l_likeInts (an : Nat) (al : List Int) (bn : Nat) (bl : List Int) : Bool := al == bl
theorem go_l_likeInts (fu an : Nat) (al : List Int) (bl : List Int) (hn : an ≤ 100000000000) (hl : al.length = 1 * an) (hm : bl.length = 1 * an) : ∀ (m j F : Nat), j + m = an → m < F → (∀ t : Nat, t < 1 * j → al.getD t 0 = bl.getD t 0) → L_l_likeInts_0 fu an al an bl F (j : Int) = some (al == bl)
  | m, j, 0, _, h, _ => absurd h (Nat.not_lt_zero m)
  | 0, j, F + 1, hj, _, hp => by
    obtain rfl : j = an := by omega
    show B_l_likeInts_0 j al j bl _ (j : Int) = _
    unfold B_l_likeInts_0
    have e : al = bl := list_of_getD (by omega) fun t ht => hp t (by omega)
    rw [if_neg (by simp), e]
    simp
  | m + 1, j, F + 1, hj, hF, hp => by
    show B_l_likeInts_0 an al an bl (L_l_likeInts_0 fu an al an bl F) (j : Int) = _
    unfold B_l_likeInts_0
    have e1 : decide ((j : Int) < ((an : Nat) : Int)) = true := by simp; omega
    have e2 : (decide (0 ≤ (j : Int)) && decide ((j : Int) < ((an : Nat) : Int))) = true := by simp; omega
    have e3 : (j : Int).toNat = j := Int.toNat_natCast j
    have a0 : wrap64 ((j : Int) + 1) = ((j + 1 : Nat) : Int) := by rw [wrapS (by omega)]; omega
    simp only [e3, wI_eq, a0]
    rw [if_pos e1, if_pos e2, if_pos (leb (by rw [hl]; omega)), if_pos e2, if_pos (leb (by rw [hm]; omega))]
    by_cases c : al.getD (j * 1) 0 = bl.getD (j * 1) 0
    rotate_left
    · rw [if_pos (by simpa using c)]
      congr 1
      symm
      rw [beq_eq_false_iff_ne]
      rintro rfl
      exact c rfl
    rw [if_neg (by simpa using c)]
    refine go_l_likeInts fu an al bl hn hl hm m (j + 1) F (by omega) (by omega) fun t ht => ?_
    by_cases ht' : t < 1 * j
    · exact hp t ht'
    · obtain rfl : t = j * 1 := by omega
      exact c
theorem tot_l_likeInts (an : Nat) (al : List Int) (bn : Nat) (bl : List Int) (hp : (lenB an 1 al && lenB bn 1 bl) = true) : Fo_l_likeInts an an al bn bl = some (l_likeInts an al bn bl) := by
  simp only [Bool.and_eq_true] at hp
  obtain ⟨hl, hn⟩ := lenB_ok hp.1
  obtain ⟨hm, _⟩ := lenB_ok hp.2
  unfold Fo_l_likeInts G_l_likeInts l_likeInts
  by_cases e : an = bn
  · subst e
    rw [if_neg (by simp)]
    exact go_l_likeInts an an al bl hn hl hm an 0 (an + 100) (by omega) (by omega) (fun t ht => by omega)
  · rw [if_pos (by simp; omega)]
    congr 1
    symm
    rw [beq_eq_false_iff_ne]
    rintro rfl
    omega
def run_l_likeInts : List PV → Option (Bool × List TR)
  | [.s an (.ints al), .s bn (.ints bl)] => some (lenB an 1 al && lenB bn 1 bl, enc_b (l_likeInts an al bn bl))
  | _ => none
theorem sound_l_likeInts : Sound Try.prog 9 run_l_likeInts := by
  refine sound_of de_b SO_l_likeInts (by kernel_rfl) Try.func9 Try.ntmps9 rfl (by kernel_rfl) ?_
  intro W pvs avs rs hargs hrun
  unfold run_l_likeInts at hrun
  split at hrun
  · simp only [Option.some.injEq, Prod.mk.injEq] at hrun
    obtain ⟨hp, rfl⟩ := hrun
    rename_i an al bn bl
    exact ⟨_, _, _, hargs, rfl, (eq_l_likeInts _ an al bn bl).trans (tot_l_likeInts an al bn bl hp)⟩
  · cases hrun

def S_l_points9 : Sums := ⟨tblS [], tblM []⟩
theorem SO_l_points9 : SumsOK Try.prog S_l_points9 := ⟨tblS_ok True.intro, tblM_ok True.intro⟩
def T_l_points9_0 (an : Nat) (al : List Int) (bn : Nat) (bl : List Int) (i : Int) : Tab := ⟨[.row 0, .row 4, .junk, .junk, .val (.bool false), .val (.int .i64 i), .row 0, .val (.int .i64 ((an : Nat) : Int)), .row 4, .val (.int .i64 ((bn : Nat) : Int)), .val (.bool (((an : Nat) : Int) != ((bn : Nat) : Int))), .junk, .junk, .junk, .junk, .junk, .junk, .junk, .junk, .junk, .junk, .junk, .junk, .junk, .junk, .junk], [(0, .ros an (.ints al)), (4, .ros bn (.ints bl))]⟩
def X_l_points9_0 (P : Program) (fu : Nat) (an : Nat) (al : List Int) (bn : Nat) (bl : List Int) (f : Nat) (i : Int) : Option (Bool) := loopK (exec P S_l_points9 26 (fun _ => fu + 100) (Code.sub [1, 1, 0, 1, 0, 0] (bodyF P 13))) f (T_l_points9_0 an al bn bl i) (kBlock 0 (kSeq (fun s => exec P S_l_points9 26 (fun _ => fu + 100) (Code.sub [1, 1, 1] (bodyF P 13)) s (finT P 13 dec_b)) (finT P 13 dec_b)))
def B_l_points9_0 (an : Nat) (al : List Int) (bn : Nat) (bl : List Int) (rec0 : Int → Option (Bool)) (i : Int) : Option (Bool) :=
  (if (decide (i < ((an : Nat) : Int))) = true then (if (decide (0 ≤ i) && decide (i < ((an : Nat) : Int))) = true then (if (Nat.ble (i.toNat * 2 + 2) al.length) = true then (if (decide (0 ≤ i) && decide (i < ((bn : Nat) : Int))) = true then (if (Nat.ble (i.toNat * 2 + 2) bl.length) = true then (if (!((al.getD (i.toNat * 2 + 0) 0, al.getD (i.toNat * 2 + 1) 0) == (bl.getD (i.toNat * 2 + 0) 0, bl.getD (i.toNat * 2 + 1) 0))) = true then some false else rec0 (wI (i + 1))) else none) else none) else none) else none) else some true)
def L_l_points9_0 (fu : Nat) (an : Nat) (al : List Int) (bn : Nat) (bl : List Int) : Nat → Int → Option (Bool)
  | 0, _ => none
  | f + 1, i => B_l_points9_0 an al bn bl (L_l_points9_0 fu an al bn bl f) i
theorem loop_l_points9_0 (fu : Nat) (an : Nat) (al : List Int) (bn : Nat) (bl : List Int) : ∀ (f : Nat) (i : Int), X_l_points9_0 Try.prog fu an al bn bl f i = L_l_points9_0 fu an al bn bl f i := by
  intro f
  induction f with
  | zero => intros; rfl
  | succ f ih =>
    intro i
    have h1 : X_l_points9_0 Try.prog fu an al bn bl (f + 1) i = B_l_points9_0 an al bn bl (X_l_points9_0 Try.prog fu an al bn bl f) i := by kernel_rfl
    have h2 : X_l_points9_0 Try.prog fu an al bn bl f = L_l_points9_0 fu an al bn bl f := by funext i; exact ih i
    rw [h1, h2]
    rfl
def G_l_points9 (an : Nat) (al : List Int) (bn : Nat) (bl : List Int) (lo0 : Int → Option (Bool)) : Option (Bool) :=
  (if (((an : Nat) : Int) != ((bn : Nat) : Int)) = true then some false else lo0 0)
def Fo_l_points9 (fu : Nat) (an : Nat) (al : List Int) (bn : Nat) (bl : List Int) : Option (Bool) := G_l_points9 an al bn bl (L_l_points9_0 fu an al bn bl (fu + 100))
theorem eqg_l_points9 (fu : Nat) (an : Nat) (al : List Int) (bn : Nat) (bl : List Int) : execT Try.prog S_l_points9 13 26 (fun _ => fu + 100) dec_b [.s an (.ints al), .s bn (.ints bl)] = G_l_points9 an al bn bl (L_l_points9_0 fu an al bn bl (fu + 100)) := by
  have h1 : execT Try.prog S_l_points9 13 26 (fun _ => fu + 100) dec_b [.s an (.ints al), .s bn (.ints bl)] = G_l_points9 an al bn bl (X_l_points9_0 Try.prog fu an al bn bl (fu + 100)) := by kernel_rfl
  have c0 : X_l_points9_0 Try.prog fu an al bn bl (fu + 100) = L_l_points9_0 fu an al bn bl (fu + 100) := by funext i; exact loop_l_points9_0 fu an al bn bl (fu + 100) i
  rw [h1, c0]
theorem eq_l_points9 (fu : Nat) (an : Nat) (al : List Int) (bn : Nat) (bl : List Int) : execT Try.prog S_l_points9 13 26 (fun _ => fu + 100) dec_b [.s an (.ints al), .s bn (.ints bl)] = Fo_l_points9 fu an al bn bl := eqg_l_points9 fu an al bn bl
def l_points9 (an : Nat) (al : List Int) (bn : Nat) (bl : List Int) : Bool := al == bl
theorem go_l_points9 (fu an : Nat) (al : List Int) (bl : List Int) (hn : an ≤ 100000000000) (hl : al.length = 2 * an) (hm : bl.length = 2 * an) : ∀ (m j F : Nat), j + m = an → m < F → (∀ t : Nat, t < 2 * j → al.getD t 0 = bl.getD t 0) → L_l_points9_0 fu an al an bl F (j : Int) = some (al == bl)
  | m, j, 0, _, h, _ => absurd h (Nat.not_lt_zero m)
  | 0, j, F + 1, hj, _, hp => by
    obtain rfl : j = an := by omega
    show B_l_points9_0 j al j bl _ (j : Int) = _
    unfold B_l_points9_0
    have e : al = bl := list_of_getD (by omega) fun t ht => hp t (by omega)
    rw [if_neg (by simp), e]
    simp
  | m + 1, j, F + 1, hj, hF, hp => by
    show B_l_points9_0 an al an bl (L_l_points9_0 fu an al an bl F) (j : Int) = _
    unfold B_l_points9_0
    have e1 : decide ((j : Int) < ((an : Nat) : Int)) = true := by simp; omega
    have e2 : (decide (0 ≤ (j : Int)) && decide ((j : Int) < ((an : Nat) : Int))) = true := by simp; omega
    have e3 : (j : Int).toNat = j := Int.toNat_natCast j
    have a0 : wrap64 ((j : Int) + 1) = ((j + 1 : Nat) : Int) := by rw [wrapS (by omega)]; omega
    simp only [e3, wI_eq, a0]
    rw [if_pos e1, if_pos e2, if_pos (leb (by rw [hl]; omega)), if_pos e2, if_pos (leb (by rw [hm]; omega))]
    by_cases c : (al.getD (j * 2 + 0) 0, al.getD (j * 2 + 1) 0) = (bl.getD (j * 2 + 0) 0, bl.getD (j * 2 + 1) 0)
    rotate_left
    · rw [if_pos (by rw [beq_eq_false_iff_ne.2 c]; rfl)]
      congr 1
      symm
      rw [beq_eq_false_iff_ne]
      rintro rfl
      exact c rfl
    rw [if_neg (by rw [beq_iff_eq.2 c]; decide)]
    refine go_l_points9 fu an al bl hn hl hm m (j + 1) F (by omega) (by omega) fun t ht => ?_
    by_cases ht' : t < 2 * j
    · exact hp t ht'
    · simp only [Prod.mk.injEq] at c
      obtain rfl | rfl : t = j * 2 + 0 ∨ t = j * 2 + 1 := by omega
      · exact c.1
      · exact c.2
theorem tot_l_points9 (an : Nat) (al : List Int) (bn : Nat) (bl : List Int) (hp : (lenB an 2 al && lenB bn 2 bl) = true) : Fo_l_points9 an an al bn bl = some (l_points9 an al bn bl) := by
  simp only [Bool.and_eq_true] at hp
  obtain ⟨hl, hn⟩ := lenB_ok hp.1
  obtain ⟨hm, _⟩ := lenB_ok hp.2
  unfold Fo_l_points9 G_l_points9 l_points9
  by_cases e : an = bn
  · subst e
    rw [if_neg (by simp)]
    exact go_l_points9 an an al bl hn hl hm an 0 (an + 100) (by omega) (by omega) (fun t ht => by omega)
  · rw [if_pos (by simp; omega)]
    congr 1
    symm
    rw [beq_eq_false_iff_ne]
    rintro rfl
    omega
def run_l_points9 : List PV → Option (Bool × List TR)
  | [.s an (.ints al), .s bn (.ints bl)] => some (lenB an 2 al && lenB bn 2 bl, enc_b (l_points9 an al bn bl))
  | _ => none
theorem sound_l_points9 : Sound Try.prog 13 run_l_points9 := by
  refine sound_of de_b SO_l_points9 (by kernel_rfl) Try.func13 Try.ntmps13 rfl (by kernel_rfl) ?_
  intro W pvs avs rs hargs hrun
  unfold run_l_points9 at hrun
  split at hrun
  · simp only [Option.some.injEq, Prod.mk.injEq] at hrun
    obtain ⟨hp, rfl⟩ := hrun
    rename_i an al bn bl
    exact ⟨_, _, _, hargs, rfl, (eq_l_points9 _ an al bn bl).trans (tot_l_points9 an al bn bl hp)⟩
  · cases hrun

def S_l_lines9 : Sums := ⟨tblS [], tblM []⟩
theorem SO_l_lines9 : SumsOK Try.prog S_l_lines9 := ⟨tblS_ok True.intro, tblM_ok True.intro⟩
def T_l_lines9_0 (an : Nat) (al : List Int) (bn : Nat) (bl : List Int) (i : Int) : Tab := ⟨[.row 0, .row 4, .junk, .junk, .val (.bool false), .val (.int .i64 i), .row 0, .val (.int .i64 ((an : Nat) : Int)), .row 4, .val (.int .i64 ((bn : Nat) : Int)), .val (.bool (((an : Nat) : Int) != ((bn : Nat) : Int))), .junk, .junk, .junk, .junk, .junk, .junk, .junk, .junk, .junk, .junk, .junk, .junk, .junk, .junk, .junk], [(0, .ros an (.ints al)), (4, .ros bn (.ints bl))]⟩
def X_l_lines9_0 (P : Program) (fu : Nat) (an : Nat) (al : List Int) (bn : Nat) (bl : List Int) (f : Nat) (i : Int) : Option (Bool) := loopK (exec P S_l_lines9 26 (fun _ => fu + 100) (Code.sub [1, 1, 0, 1, 0, 0] (bodyF P 33))) f (T_l_lines9_0 an al bn bl i) (kBlock 0 (kSeq (fun s => exec P S_l_lines9 26 (fun _ => fu + 100) (Code.sub [1, 1, 1] (bodyF P 33)) s (finT P 33 dec_b)) (finT P 33 dec_b)))
def B_l_lines9_0 (an : Nat) (al : List Int) (bn : Nat) (bl : List Int) (rec0 : Int → Option (Bool)) (i : Int) : Option (Bool) :=
  (if (decide (i < ((an : Nat) : Int))) = true then (if (decide (0 ≤ i) && decide (i < ((an : Nat) : Int))) = true then (if (Nat.ble (i.toNat * 3 + 3) al.length) = true then (if (decide (0 ≤ i) && decide (i < ((bn : Nat) : Int))) = true then (if (Nat.ble (i.toNat * 3 + 3) bl.length) = true then (if (!((al.getD (i.toNat * 3 + 0) 0, al.getD (i.toNat * 3 + 1) 0, al.getD (i.toNat * 3 + 2) 0) == (bl.getD (i.toNat * 3 + 0) 0, bl.getD (i.toNat * 3 + 1) 0, bl.getD (i.toNat * 3 + 2) 0))) = true then some false else rec0 (wI (i + 1))) else none) else none) else none) else none) else some true)
def L_l_lines9_0 (fu : Nat) (an : Nat) (al : List Int) (bn : Nat) (bl : List Int) : Nat → Int → Option (Bool)
  | 0, _ => none
  | f + 1, i => B_l_lines9_0 an al bn bl (L_l_lines9_0 fu an al bn bl f) i
theorem loop_l_lines9_0 (fu : Nat) (an : Nat) (al : List Int) (bn : Nat) (bl : List Int) : ∀ (f : Nat) (i : Int), X_l_lines9_0 Try.prog fu an al bn bl f i = L_l_lines9_0 fu an al bn bl f i := by
  intro f
  induction f with
  | zero => intros; rfl
  | succ f ih =>
    intro i
    have h1 : X_l_lines9_0 Try.prog fu an al bn bl (f + 1) i = B_l_lines9_0 an al bn bl (X_l_lines9_0 Try.prog fu an al bn bl f) i := by kernel_rfl
    have h2 : X_l_lines9_0 Try.prog fu an al bn bl f = L_l_lines9_0 fu an al bn bl f := by funext i; exact ih i
    rw [h1, h2]
    rfl
def G_l_lines9 (an : Nat) (al : List Int) (bn : Nat) (bl : List Int) (lo0 : Int → Option (Bool)) : Option (Bool) :=
  (if (((an : Nat) : Int) != ((bn : Nat) : Int)) = true then some false else lo0 0)
def Fo_l_lines9 (fu : Nat) (an : Nat) (al : List Int) (bn : Nat) (bl : List Int) : Option (Bool) := G_l_lines9 an al bn bl (L_l_lines9_0 fu an al bn bl (fu + 100))
theorem eqg_l_lines9 (fu : Nat) (an : Nat) (al : List Int) (bn : Nat) (bl : List Int) : execT Try.prog S_l_lines9 33 26 (fun _ => fu + 100) dec_b [.s an (.ints al), .s bn (.ints bl)] = G_l_lines9 an al bn bl (L_l_lines9_0 fu an al bn bl (fu + 100)) := by
  have h1 : execT Try.prog S_l_lines9 33 26 (fun _ => fu + 100) dec_b [.s an (.ints al), .s bn (.ints bl)] = G_l_lines9 an al bn bl (X_l_lines9_0 Try.prog fu an al bn bl (fu + 100)) := by kernel_rfl
  have c0 : X_l_lines9_0 Try.prog fu an al bn bl (fu + 100) = L_l_lines9_0 fu an al bn bl (fu + 100) := by funext i; exact loop_l_lines9_0 fu an al bn bl (fu + 100) i
  rw [h1, c0]
theorem eq_l_lines9 (fu : Nat) (an : Nat) (al : List Int) (bn : Nat) (bl : List Int) : execT Try.prog S_l_lines9 33 26 (fun _ => fu + 100) dec_b [.s an (.ints al), .s bn (.ints bl)] = Fo_l_lines9 fu an al bn bl := eqg_l_lines9 fu an al bn bl
def l_lines9 (an : Nat) (al : List Int) (bn : Nat) (bl : List Int) : Bool := al == bl
theorem go_l_lines9 (fu an : Nat) (al : List Int) (bl : List Int) (hn : an ≤ 100000000000) (hl : al.length = 3 * an) (hm : bl.length = 3 * an) : ∀ (m j F : Nat), j + m = an → m < F → (∀ t : Nat, t < 3 * j → al.getD t 0 = bl.getD t 0) → L_l_lines9_0 fu an al an bl F (j : Int) = some (al == bl)
  | m, j, 0, _, h, _ => absurd h (Nat.not_lt_zero m)
  | 0, j, F + 1, hj, _, hp => by
    obtain rfl : j = an := by omega
    show B_l_lines9_0 j al j bl _ (j : Int) = _
    unfold B_l_lines9_0
    have e : al = bl := list_of_getD (by omega) fun t ht => hp t (by omega)
    rw [if_neg (by simp), e]
    simp
  | m + 1, j, F + 1, hj, hF, hp => by
    show B_l_lines9_0 an al an bl (L_l_lines9_0 fu an al an bl F) (j : Int) = _
    unfold B_l_lines9_0
    have e1 : decide ((j : Int) < ((an : Nat) : Int)) = true := by simp; omega
    have e2 : (decide (0 ≤ (j : Int)) && decide ((j : Int) < ((an : Nat) : Int))) = true := by simp; omega
    have e3 : (j : Int).toNat = j := Int.toNat_natCast j
    have a0 : wrap64 ((j : Int) + 1) = ((j + 1 : Nat) : Int) := by rw [wrapS (by omega)]; omega
    simp only [e3, wI_eq, a0]
    rw [if_pos e1, if_pos e2, if_pos (leb (by rw [hl]; omega)), if_pos e2, if_pos (leb (by rw [hm]; omega))]
    by_cases c : (al.getD (j * 3 + 0) 0, al.getD (j * 3 + 1) 0, al.getD (j * 3 + 2) 0) = (bl.getD (j * 3 + 0) 0, bl.getD (j * 3 + 1) 0, bl.getD (j * 3 + 2) 0)
    rotate_left
    · rw [if_pos (by rw [beq_eq_false_iff_ne.2 c]; rfl)]
      congr 1
      symm
      rw [beq_eq_false_iff_ne]
      rintro rfl
      exact c rfl
    rw [if_neg (by rw [beq_iff_eq.2 c]; decide)]
    refine go_l_lines9 fu an al bl hn hl hm m (j + 1) F (by omega) (by omega) fun t ht => ?_
    by_cases ht' : t < 3 * j
    · exact hp t ht'
    · simp only [Prod.mk.injEq] at c
      obtain rfl | rfl | rfl : t = j * 3 + 0 ∨ t = j * 3 + 1 ∨ t = j * 3 + 2 := by omega
      · exact c.1
      · exact c.2.1
      · exact c.2.2
theorem tot_l_lines9 (an : Nat) (al : List Int) (bn : Nat) (bl : List Int) (hp : (lenB an 3 al && lenB bn 3 bl) = true) : Fo_l_lines9 an an al bn bl = some (l_lines9 an al bn bl) := by
  simp only [Bool.and_eq_true] at hp
  obtain ⟨hl, hn⟩ := lenB_ok hp.1
  obtain ⟨hm, _⟩ := lenB_ok hp.2
  unfold Fo_l_lines9 G_l_lines9 l_lines9
  by_cases e : an = bn
  · subst e
    rw [if_neg (by simp)]
    exact go_l_lines9 an an al bl hn hl hm an 0 (an + 100) (by omega) (by omega) (fun t ht => by omega)
  · rw [if_pos (by simp; omega)]
    congr 1
    symm
    rw [beq_eq_false_iff_ne]
    rintro rfl
    omega
def run_l_lines9 : List PV → Option (Bool × List TR)
  | [.s an (.ints al), .s bn (.ints bl)] => some (lenB an 3 al && lenB bn 3 bl, enc_b (l_lines9 an al bn bl))
  | _ => none
theorem sound_l_lines9 : Sound Try.prog 33 run_l_lines9 := by
  refine sound_of de_b SO_l_lines9 (by kernel_rfl) Try.func33 Try.ntmps33 rfl (by kernel_rfl) ?_
  intro W pvs avs rs hargs hrun
  unfold run_l_lines9 at hrun
  split at hrun
  · simp only [Option.some.injEq, Prod.mk.injEq] at hrun
    obtain ⟨hp, rfl⟩ := hrun
    rename_i an al bn bl
    exact ⟨_, _, _, hargs, rfl, (eq_l_lines9 _ an al bn bl).trans (tot_l_lines9 an al bn bl hp)⟩
  · cases hrun

def S_l_hasInt : Sums := ⟨tblS [], tblM []⟩
theorem SO_l_hasInt : SumsOK Try.prog S_l_hasInt := ⟨tblS_ok True.intro, tblM_ok True.intro⟩
def T_l_hasInt_0 (listn : Nat) (listl : List Int) (x : Int) (i : Int) : Tab := ⟨[.row 0, .val (.int .i64 x), .junk, .junk, .val (.bool false), .val (.int .i64 i), .junk, .junk, .junk, .junk, .junk, .junk, .junk, .junk, .junk, .junk, .junk, .junk], [(0, .ros listn (.ints listl))]⟩
def X_l_hasInt_0 (P : Program) (fu : Nat) (listn : Nat) (listl : List Int) (x : Int) (f : Nat) (i : Int) : Option (Bool) := loopK (exec P S_l_hasInt 18 (fun _ => fu + 100) (Code.sub [1, 0, 1, 0, 0] (bodyF P 23))) f (T_l_hasInt_0 listn listl x i) (kBlock 0 (kSeq (fun s => exec P S_l_hasInt 18 (fun _ => fu + 100) (Code.sub [1, 1] (bodyF P 23)) s (finT P 23 dec_b)) (finT P 23 dec_b)))
def B_l_hasInt_0 (listn : Nat) (listl : List Int) (x : Int) (rec0 : Int → Option (Bool)) (i : Int) : Option (Bool) :=
  (if (decide (i < ((listn : Nat) : Int))) = true then (if (decide (0 ≤ i) && decide (i < ((listn : Nat) : Int))) = true then (if (Nat.ble (i.toNat * 1 + 1) listl.length) = true then (if ((listl.getD (i.toNat * 1) 0) == x) = true then some true else rec0 (wI (i + 1))) else none) else none) else some false)
def L_l_hasInt_0 (fu : Nat) (listn : Nat) (listl : List Int) (x : Int) : Nat → Int → Option (Bool)
  | 0, _ => none
  | f + 1, i => B_l_hasInt_0 listn listl x (L_l_hasInt_0 fu listn listl x f) i
theorem loop_l_hasInt_0 (fu : Nat) (listn : Nat) (listl : List Int) (x : Int) : ∀ (f : Nat) (i : Int), X_l_hasInt_0 Try.prog fu listn listl x f i = L_l_hasInt_0 fu listn listl x f i := by
  intro f
  induction f with
  | zero => intros; rfl
  | succ f ih =>
    intro i
    have h1 : X_l_hasInt_0 Try.prog fu listn listl x (f + 1) i = B_l_hasInt_0 listn listl x (X_l_hasInt_0 Try.prog fu listn listl x f) i := by kernel_rfl
    have h2 : X_l_hasInt_0 Try.prog fu listn listl x f = L_l_hasInt_0 fu listn listl x f := by funext i; exact ih i
    rw [h1, h2]
    rfl
def G_l_hasInt (listn : Nat) (listl : List Int) (x : Int) (lo0 : Int → Option (Bool)) : Option (Bool) :=
  lo0 0
def Fo_l_hasInt (fu : Nat) (listn : Nat) (listl : List Int) (x : Int) : Option (Bool) := G_l_hasInt listn listl x (L_l_hasInt_0 fu listn listl x (fu + 100))
theorem eqg_l_hasInt (fu : Nat) (listn : Nat) (listl : List Int) (x : Int) : execT Try.prog S_l_hasInt 23 18 (fun _ => fu + 100) dec_b [.s listn (.ints listl), .v (.int .i64 x)] = G_l_hasInt listn listl x (L_l_hasInt_0 fu listn listl x (fu + 100)) := by
  have h1 : execT Try.prog S_l_hasInt 23 18 (fun _ => fu + 100) dec_b [.s listn (.ints listl), .v (.int .i64 x)] = G_l_hasInt listn listl x (X_l_hasInt_0 Try.prog fu listn listl x (fu + 100)) := by kernel_rfl
  have c0 : X_l_hasInt_0 Try.prog fu listn listl x (fu + 100) = L_l_hasInt_0 fu listn listl x (fu + 100) := by funext i; exact loop_l_hasInt_0 fu listn listl x (fu + 100) i
  rw [h1, c0]
theorem eq_l_hasInt (fu : Nat) (listn : Nat) (listl : List Int) (x : Int) : execT Try.prog S_l_hasInt 23 18 (fun _ => fu + 100) dec_b [.s listn (.ints listl), .v (.int .i64 x)] = Fo_l_hasInt fu listn listl x := eqg_l_hasInt fu listn listl x
def l_hasInt (listn : Nat) (listl : List Int) (x : Int) : Bool := listl.any (fun z => z == x)
theorem tot_l_hasInt (listn : Nat) (listl : List Int) (x : Int) (hp : (lenB listn 1 listl) = true) : Fo_l_hasInt listn listn listl x = some (l_hasInt listn listl x) := by
  obtain ⟨hl, hn⟩ := lenB_ok hp
  rw [Nat.one_mul] at hl
  unfold Fo_l_hasInt G_l_hasInt l_hasInt
  have h := scan (L := fun f i => L_l_hasInt_0 listn listn listl x f i) (n := listn) (q := fun k => !(listl.getD (k * 1) 0 == x)) (bad := true) (good := false) (F := listn + 100) (by omega)
    (fun f k hk => by
      show B_l_hasInt_0 listn listl x (L_l_hasInt_0 listn listn listl x f) (k : Int) = _
      unfold B_l_hasInt_0
      rw [if_pos (cnd hk), if_pos (cnd2 hk), Int.toNat_natCast, if_pos (row1_ok hl hk), wrap_add1 hk (by omega), Bool.not_not]
      try rfl)
    (fun f => by
      show B_l_hasInt_0 listn listl x _ ((listn : Nat) : Int) = _
      unfold B_l_hasInt_0
      rw [if_neg (by simp)])
  rw [← all_rows1 listn listl hl (fun z => !(z == x))] at h
  refine h.trans ?_
  rw [List.any_eq_not_all_not]
  cases (listl.all fun z => !(z == x)) <;> rfl
def run_l_hasInt : List PV → Option (Bool × List TR)
  | [.s listn (.ints listl), .v (.int .i64 x)] => some (lenB listn 1 listl, enc_b (l_hasInt listn listl x))
  | _ => none
theorem sound_l_hasInt : Sound Try.prog 23 run_l_hasInt := by
  refine sound_of de_b SO_l_hasInt (by kernel_rfl) Try.func23 Try.ntmps23 rfl (by kernel_rfl) ?_
  intro W pvs avs rs hargs hrun
  unfold run_l_hasInt at hrun
  split at hrun
  · simp only [Option.some.injEq, Prod.mk.injEq] at hrun
    obtain ⟨hp, rfl⟩ := hrun
    rename_i listn listl x
    exact ⟨_, _, _, hargs, rfl, (eq_l_hasInt _ listn listl x).trans (tot_l_hasInt listn listl x hp)⟩
  · cases hrun

def S_i_SquareKind_c1 : Sums := ⟨tblS [(78, run_i_isNumber)], tblM []⟩
theorem SO_i_SquareKind_c1 : SumsOK Try.prog S_i_SquareKind_c1 := ⟨tblS_ok ⟨⟨Try.call78, sound_i_isNumber⟩, True.intro⟩, tblM_ok True.intro⟩
def Fo_i_SquareKind_c1 (c0 : Int) (c1 : Int) : Option (Bool) :=
  some (i_isNumber c0 c1)
theorem eq_i_SquareKind_c1 (c0 : Int) (c1 : Int) : execT Try.prog S_i_SquareKind_c1 77 6 (fun _ => 1000000) dec_b [.p [.int .i64 c0], .p [.int .i64 c1]] = Fo_i_SquareKind_c1 c0 c1 := by
  kernel_rfl
def i_SquareKind_c1 (c0 : Int) (c1 : Int) : Bool :=
  (i_isNumber c0 c1)
theorem tot_i_SquareKind_c1 (c0 : Int) (c1 : Int) : Fo_i_SquareKind_c1 c0 c1 = some (i_SquareKind_c1 c0 c1) := by
  unfold Fo_i_SquareKind_c1 i_SquareKind_c1
  (try simp only [wI_eq])
  repeat' (first | with_reducible rfl | refine ite_opt (fun _ => ?_) (fun _ => ?_) | rfl)
def run_i_SquareKind_c1 : List PV → Option (Bool × List TR)
  | [.p [.int .i64 c0], .p [.int .i64 c1]] => some (true, enc_b (i_SquareKind_c1 c0 c1))
  | _ => none
theorem sound_i_SquareKind_c1 : Sound Try.prog 77 run_i_SquareKind_c1 := by
  refine sound_of de_b SO_i_SquareKind_c1 (by kernel_rfl) Try.func77 Try.ntmps77 rfl (by kernel_rfl) ?_
  intro W pvs avs rs hargs hrun
  unfold run_i_SquareKind_c1 at hrun
  split at hrun
  · simp only [Option.some.injEq, Prod.mk.injEq] at hrun
    obtain ⟨hp, rfl⟩ := hrun
    rename_i c0 c1
    exact ⟨_, _, _, hargs, rfl, (eq_i_SquareKind_c1 c0 c1).trans (tot_i_SquareKind_c1 c0 c1)⟩
  · cases hrun

def S_i_root : Sums := ⟨tblS [], tblM []⟩
theorem SO_i_root : SumsOK Try.prog S_i_root := ⟨tblS_ok True.intro, tblM_ok True.intro⟩
def T_i_root_0 (p : Int) (a : Int) (x : Int) : Tab := ⟨[.val (.int .i64 p), .val (.int .i64 a), .junk, .junk, .val (.int .i64 0), .val (.int .i64 x), .junk, .junk, .junk, .junk, .junk, .junk, .junk, .junk, .junk, .junk, .junk, .junk, .junk], []⟩
def X_i_root_0 (P : Program) (fu : Nat) (p : Int) (a : Int) (f : Nat) (x : Int) : Option (Int) := loopK (exec P S_i_root 19 (fun _ => fu + 100) (Code.sub [1, 0, 1, 0, 0] (bodyF P 125))) f (T_i_root_0 p a x) (kBlock 0 (kSeq (fun s => exec P S_i_root 19 (fun _ => fu + 100) (Code.sub [1, 1] (bodyF P 125)) s (finT P 125 dec_i)) (finT P 125 dec_i)))
def B_i_root_0 (p : Int) (a : Int) (rec0 : Int → Option (Int)) (x : Int) : Option (Int) :=
  (if (decide (x < p)) = true then (if (!(p == 0)) = true then (if (((wI (x * x)).tmod p) == a) = true then some x else rec0 (wI (x + 1))) else none) else some (-1))
def L_i_root_0 (fu : Nat) (p : Int) (a : Int) : Nat → Int → Option (Int)
  | 0, _ => none
  | f + 1, x => B_i_root_0 p a (L_i_root_0 fu p a f) x
theorem loop_i_root_0 (fu : Nat) (p : Int) (a : Int) : ∀ (f : Nat) (x : Int), X_i_root_0 Try.prog fu p a f x = L_i_root_0 fu p a f x := by
  intro f
  induction f with
  | zero => intros; rfl
  | succ f ih =>
    intro x
    have h1 : X_i_root_0 Try.prog fu p a (f + 1) x = B_i_root_0 p a (X_i_root_0 Try.prog fu p a f) x := by kernel_rfl
    have h2 : X_i_root_0 Try.prog fu p a f = L_i_root_0 fu p a f := by funext x; exact ih x
    rw [h1, h2]
    rfl
def G_i_root (p : Int) (a : Int) (lo0 : Int → Option (Int)) : Option (Int) :=
  lo0 0
def Fo_i_root (fu : Nat) (p : Int) (a : Int) : Option (Int) := G_i_root p a (L_i_root_0 fu p a (fu + 100))
theorem eqg_i_root (fu : Nat) (p : Int) (a : Int) : execT Try.prog S_i_root 125 19 (fun _ => fu + 100) dec_i [.v (.int .i64 p), .v (.int .i64 a)] = G_i_root p a (L_i_root_0 fu p a (fu + 100)) := by
  have h1 : execT Try.prog S_i_root 125 19 (fun _ => fu + 100) dec_i [.v (.int .i64 p), .v (.int .i64 a)] = G_i_root p a (X_i_root_0 Try.prog fu p a (fu + 100)) := by kernel_rfl
  have c0 : X_i_root_0 Try.prog fu p a (fu + 100) = L_i_root_0 fu p a (fu + 100) := by funext x; exact loop_i_root_0 fu p a (fu + 100) x
  rw [h1, c0]
theorem eq_i_root (fu : Nat) (p : Int) (a : Int) : execT Try.prog S_i_root 125 19 (fun _ => fu + 100) dec_i [.v (.int .i64 p), .v (.int .i64 a)] = Fo_i_root fu p a := eqg_i_root fu p a
def i_root (p a : Int) : Int := ((List.range p.toNat).findSome? (fun k : Nat => if ((wrap64 ((k : Int) * (k : Int))).tmod p == a) = true then some (k : Int) else none)).getD (-1)
theorem lo0_i_root (p a : Int) (hp : prB p = true) {F : Nat} (hF : p.toNat < F) : L_i_root_0 1000000 p a F 0 = some (((List.range p.toNat).findSome? (fun k : Nat => if ((wrap64 ((k : Int) * (k : Int))).tmod p == a) = true then some (k : Int) else none)).getD (-1)) := by
  obtain ⟨h1, h0, hpn⟩ := prB_nat hp
  exact seek (L := fun f i => L_i_root_0 1000000 p a f i) (n := p.toNat) (q := (fun k : Nat => if ((wrap64 ((k : Int) * (k : Int))).tmod p == a) = true then some (k : Int) else none)) (e := (-1)) hF
    (fun f k hk => by
      show B_i_root_0 p a (L_i_root_0 1000000 p a f) (k : Int) = _
      unfold B_i_root_0
      rw [if_pos (cndp hk), if_pos (prB_ne hp), wrap_add1 hk (by omega), wI_eq]
      generalize ((wrap64 ((k : Int) * (k : Int))).tmod p == a) = c
      cases c <;> rfl)
    (fun f => by
      show B_i_root_0 p a (L_i_root_0 1000000 p a f) ((p.toNat : Nat) : Int) = _
      unfold B_i_root_0
      rw [if_neg (by simp; omega)])
theorem tot_i_root (p : Int) (a : Int) (hp : (prB p) = true) : Fo_i_root 1000000 p a = some (i_root p a) := by
  have h1 := (prB_nat hp).1
  unfold Fo_i_root G_i_root
  exact lo0_i_root _ _ hp (by omega)
def run_i_root : List PV → Option (Bool × List TR)
  | [.v (.int .i64 p), .v (.int .i64 a)] => some (prB p, enc_i (i_root p a))
  | _ => none
theorem sound_i_root : Sound Try.prog 125 run_i_root := by
  refine sound_of de_i SO_i_root (by kernel_rfl) Try.func125 Try.ntmps125 rfl (by kernel_rfl) ?_
  intro W pvs avs rs hargs hrun
  unfold run_i_root at hrun
  split at hrun
  · simp only [Option.some.injEq, Prod.mk.injEq] at hrun
    obtain ⟨hp, rfl⟩ := hrun
    rename_i p a
    exact ⟨_, _, _, hargs, rfl, (eq_i_root _ p a).trans (tot_i_root p a hp)⟩
  · cases hrun

def S_i_squareKind : Sums := ⟨tblS [(125, run_i_root)], tblM []⟩
theorem SO_i_squareKind : SumsOK Try.prog S_i_squareKind := ⟨tblS_ok ⟨⟨Try.call125, sound_i_root⟩, True.intro⟩, tblM_ok True.intro⟩
def Fo_i_squareKind (p : Int) (a : Int) : Option (Int) :=
  (if (a == 0) = true then some 0 else (if (prB p) = true then (if (decide ((i_root p a) ≥ 0)) = true then some 1 else some (-1)) else none))
theorem eq_i_squareKind (p : Int) (a : Int) : execT Try.prog S_i_squareKind 79 13 (fun _ => 1000000) dec_i [.v (.int .i64 p), .v (.int .i64 a)] = Fo_i_squareKind p a := by
  kernel_rfl
def i_squareKind (p : Int) (a : Int) : Int :=
  (if (a == 0) = true then 0 else (if (decide ((i_root p a) ≥ 0)) = true then 1 else (-1)))
theorem tot_i_squareKind (p : Int) (a : Int) (hp : (prB p) = true) : Fo_i_squareKind p a = some (i_squareKind p a) := by
  try have h0 := prB_ne hp
  unfold Fo_i_squareKind i_squareKind
  (try simp only [wI_eq])
  repeat' (first | with_reducible rfl | with_reducible refine chk_opt hp ?_ | with_reducible refine chk_opt h0 ?_ | refine chk_opt (and_all hp fun _ => hp) ?_ | refine chk_opt (and_all hp fun _ => rfl) ?_ | refine ite_opt (fun _ => ?_) (fun _ => ?_) | rfl)
def run_i_squareKind : List PV → Option (Bool × List TR)
  | [.v (.int .i64 p), .v (.int .i64 a)] => some (prB p, enc_i (i_squareKind p a))
  | _ => none
theorem sound_i_squareKind : Sound Try.prog 79 run_i_squareKind := by
  refine sound_of de_i SO_i_squareKind (by kernel_rfl) Try.func79 Try.ntmps79 rfl (by kernel_rfl) ?_
  intro W pvs avs rs hargs hrun
  unfold run_i_squareKind at hrun
  split at hrun
  · simp only [Option.some.injEq, Prod.mk.injEq] at hrun
    obtain ⟨hp, rfl⟩ := hrun
    rename_i p a
    exact ⟨_, _, _, hargs, rfl, (eq_i_squareKind p a).trans (tot_i_squareKind p a hp)⟩
  · cases hrun

def S_i_SquareKind : Sums := ⟨tblS [(53, run_i_asked), (77, run_i_SquareKind_c1), (79, run_i_squareKind)], tblM []⟩
theorem SO_i_SquareKind : SumsOK Try.prog S_i_SquareKind := ⟨tblS_ok ⟨⟨Try.call53, sound_i_asked⟩, ⟨Try.call77, sound_i_SquareKind_c1⟩, ⟨Try.call79, sound_i_squareKind⟩, True.intro⟩, tblM_ok True.intro⟩
def Fo_i_SquareKind (p : Int) (a : Int) : Option (Int × Int) :=
  (if ((true) || !(i_IsField p)) = true then (if ((i_asked p (true) (i_SquareKind_c1 p a)) != 0) = true then some (0, (i_asked p (true) (i_SquareKind_c1 p a))) else (if (prB p) = true then some ((i_squareKind p a), 0) else none)) else none)
theorem eq_i_SquareKind (p : Int) (a : Int) : execT Try.prog S_i_SquareKind 25 16 (fun _ => 1000000) dec_i_i [.v (.int .i64 p), .v (.int .i64 a)] = Fo_i_SquareKind p a := by
  kernel_rfl
def i_SquareKind (p : Int) (a : Int) : Int × Int :=
  (if ((i_asked p (true) (i_SquareKind_c1 p a)) != 0) = true then (0, (i_asked p (true) (i_SquareKind_c1 p a))) else ((i_squareKind p a), 0))
theorem tot_i_SquareKind (p : Int) (a : Int) : Fo_i_SquareKind p a = some (i_SquareKind p a) := by
  unfold Fo_i_SquareKind i_SquareKind
  (try simp only [wI_eq])
  repeat' (first | with_reducible rfl | refine chk_opt (by first | with_reducible rfl | exact Bool.true_or _ | (with_reducible exact asked_prB ‹_›) | (with_reducible exact asked_prB0 ‹_›) | exact mk_ok (by (first | (with_reducible assumption) | (with_reducible exact asked_prB ‹_›) | (with_reducible exact asked_prB0 ‹_›))) | exact and_all (by (first | (with_reducible assumption) | (with_reducible exact asked_prB ‹_›) | (with_reducible exact asked_prB0 ‹_›))) (fun _ => rfl) | exact and_all (by (first | (with_reducible assumption) | (with_reducible exact asked_prB ‹_›) | (with_reducible exact asked_prB0 ‹_›))) (fun _ => by (first | (with_reducible assumption) | (with_reducible exact asked_prB ‹_›) | (with_reducible exact asked_prB0 ‹_›))) | exact and3 (by (first | (with_reducible assumption) | (with_reducible exact asked_prB ‹_›) | (with_reducible exact asked_prB0 ‹_›))) (by (first | (with_reducible assumption) | (with_reducible exact asked_prB ‹_›) | (with_reducible exact asked_prB0 ‹_›))) (by (first | (with_reducible assumption) | (with_reducible exact asked_prB ‹_›) | (with_reducible exact asked_prB0 ‹_›))) | exact and_two (by (first | (with_reducible assumption) | (with_reducible exact asked_prB ‹_›) | (with_reducible exact asked_prB0 ‹_›))) rfl | rfl) ?_ | refine ite_opt (fun _ => ?_) (fun _ => ?_) | rfl)
def run_i_SquareKind : List PV → Option (Bool × List TR)
  | [.v (.int .i64 p), .v (.int .i64 a)] => some (true, enc_i_i (i_SquareKind p a))
  | _ => none
theorem sound_i_SquareKind : Sound Try.prog 25 run_i_SquareKind := by
  refine sound_of de_i_i SO_i_SquareKind (by kernel_rfl) Try.func25 Try.ntmps25 rfl (by kernel_rfl) ?_
  intro W pvs avs rs hargs hrun
  unfold run_i_SquareKind at hrun
  split at hrun
  · simp only [Option.some.injEq, Prod.mk.injEq] at hrun
    obtain ⟨hp, rfl⟩ := hrun
    rename_i p a
    exact ⟨_, _, _, hargs, rfl, (eq_i_SquareKind p a).trans (tot_i_SquareKind p a)⟩
  · cases hrun

def S_s_l01Next : Sums := ⟨tblS [], tblM []⟩
theorem SO_s_l01Next : SumsOK Try.prog S_s_l01Next := ⟨tblS_ok True.intro, tblM_ok True.intro⟩
def Fo_s_l01Next (sn : Nat) (sl : List Int) (ss : Int × Int) (n_ : Int) : Option (Int × Nat × List Int × Int × Int) :=
  (if (decide (n_ < 1)) = true then some (0, sn, sl, ss) else (if (decide (ss.1 < ((sn : Nat) : Int))) = true then (if (decide (0 ≤ ss.1) && decide (ss.1 < ((sn : Nat) : Int))) = true then (if (Nat.ble (ss.1.toNat * 1 + 1) sl.length) = true then (if (!(n_ == 0)) = true then some ((wI ((wI (andI .u64 (shrI (IntKind.u64.wrap ((IntKind.u64.wrap (ss.2 * 6364136223846793005)) + 1442695040888963407)) 33) 16777215)) + (wI (sl.getD (ss.1.toNat * 1) 0)))).tmod n_, sn, sl, wI (ss.1 + 1), IntKind.u64.wrap ((IntKind.u64.wrap (ss.2 * 6364136223846793005)) + 1442695040888963407)) else none) else none) else none) else (if (!(n_ == 0)) = true then some ((wI (andI .u64 (shrI (IntKind.u64.wrap ((IntKind.u64.wrap (ss.2 * 6364136223846793005)) + 1442695040888963407)) 33) 16777215)).tmod n_, sn, sl, ss.1, IntKind.u64.wrap ((IntKind.u64.wrap (ss.2 * 6364136223846793005)) + 1442695040888963407)) else none)))
theorem eq_s_l01Next (sn : Nat) (sl : List Int) (ss : Int × Int) (n_ : Int) : execP Try.prog S_s_l01Next 69 58 (fun _ => 1000000) dec_P104_i 104 [.s sn (.byts sl), .v (.int .i64 ss.1), .v (.int .u64 ss.2)] [.v (.int .i64 n_)] = Fo_s_l01Next sn sl ss n_ := by
  kernel_rfl
def s_l01Next_d (sn : Nat) (sl : List Int) (ss : Int × Int) (n_ : Int) : Int × Nat × List Int × Int × Int :=
  (if (decide (n_ < 1)) = true then (0, sn, sl, ss) else (if (decide (ss.1 < ((sn : Nat) : Int))) = true then ((wrap64 ((wrap64 (andI .u64 (shrI (IntKind.u64.wrap ((IntKind.u64.wrap (ss.2 * 6364136223846793005)) + 1442695040888963407)) 33) 16777215)) + (wrap64 (sl.getD (ss.1.toNat * 1) 0)))).tmod n_, sn, sl, wrap64 (ss.1 + 1), IntKind.u64.wrap ((IntKind.u64.wrap (ss.2 * 6364136223846793005)) + 1442695040888963407)) else ((wrap64 (andI .u64 (shrI (IntKind.u64.wrap ((IntKind.u64.wrap (ss.2 * 6364136223846793005)) + 1442695040888963407)) 33) 16777215)).tmod n_, sn, sl, ss.1, IntKind.u64.wrap ((IntKind.u64.wrap (ss.2 * 6364136223846793005)) + 1442695040888963407))))
def s_l01Next : (Nat) → (List Int) → (Int × Int) → (Int) → (Int × Nat × List Int × Int × Int) := shut s_l01Next_d
theorem s_l01Next_eq (sn : Nat) (sl : List Int) (ss : Int × Int) (n_ : Int) : s_l01Next sn sl ss n_ = s_l01Next_d sn sl ss n_ := by
  unfold s_l01Next
  rw [shut_eq]
theorem tot_s_l01Next (sn : Nat) (sl : List Int) (ss : Int × Int) (n_ : Int) (hp : (srcB sn sl ss) = true) : Fo_s_l01Next sn sl ss n_ = some (s_l01Next sn sl ss n_) := by
  have hs := hp
  have hc := (srcB_ok hs).1
  obtain ⟨hl, hb, _⟩ := codeB_ok hc
  have ha := (srcB_ok hs).2
  rw [s_l01Next_eq]
  unfold Fo_s_l01Next s_l01Next_d
  (try simp only [wI_eq])
  refine ite_opt (fun _ => rfl) (fun hn => ?_)
  have hn : (!(n_ == 0)) = true := by
    have : ¬ n_ < 1 := by simpa using hn
    have : n_ ≠ 0 := by omega
    simpa using this
  refine ite_opt (fun hk => ?_) (fun _ => chk_opt hn rfl)
  have hk := of_decide_eq_true hk
  exact chk_opt (idx_ok ⟨ha, hk⟩) (chk_opt (ble_ok (by omega)) (chk_opt hn rfl))
theorem post_s_l01Next (sn : Nat) (sl : List Int) (ss : Int × Int) (n_ : Int) (hs : srcB sn sl ss = true) : srcB sn sl (s_l01Next sn sl ss n_).2.2.2 = true := by
  have hc := (srcB_ok hs).1
  have ha := (srcB_ok hs).2
  obtain ⟨hl, hb, _⟩ := codeB_ok hc
  rw [s_l01Next_eq]
  unfold s_l01Next_d
  refine ite_ind (P := fun r : Int × Nat × List Int × Int × Int => srcB sn sl r.2.2.2 = true) hs ?_
  by_cases hk : ss.1 < (sn : Int)
  · rw [if_pos (decide_eq_true hk)]
    refine srcB_mk hc ?_
    show 0 ≤ wrap64 (ss.1 + 1)
    unfold wrap64
    omega
  · rw [if_neg (by simp [hk])]
    exact srcB_mk hc ha
theorem next_rng (sn : Nat) (sl : List Int) (ss : Int × Int) (n : Int) (hs : srcB sn sl ss = true) (hn : 1 ≤ n) : 0 ≤ (s_l01Next sn sl ss n).1 ∧ (s_l01Next sn sl ss n).1 < n := by
  have hc := (srcB_ok hs).1
  have ha := (srcB_ok hs).2
  obtain ⟨hl, _, hb⟩ := codeB_ok hc
  rw [s_l01Next_eq]
  unfold s_l01Next_d
  rw [if_neg (by simp; omega)]
  generalize (IntKind.u64.wrap ((IntKind.u64.wrap (ss.2 * 6364136223846793005)) + 1442695040888963407)) = w
  have hr := andI_rng (shrI w 33)
  generalize andI .u64 (shrI w 33) 16777215 = z at hr ⊢
  have key : ∀ x : Int, 0 ≤ x → 0 ≤ x.tmod n ∧ x.tmod n < n := fun x hx => by
    rw [Int.tmod_eq_emod_of_nonneg hx]
    exact ⟨Int.emod_nonneg _ (by omega), Int.emod_lt_of_pos _ (by omega)⟩
  refine ite_ind (P := fun r : Int × Nat × List Int × Int × Int => 0 ≤ r.1 ∧ r.1 < n) ?_ ?_
  · refine key _ ?_
    have h2 : 0 ≤ sl.getD (ss.1.toNat * 1) 0 ∧ sl.getD (ss.1.toNat * 1) 0 < 256 := by
      by_cases hk : ss.1.toNat * 1 < sl.length
      · exact hb _ (getD_mem hk)
      · rw [List.getD_eq_getElem?_getD, List.getElem?_eq_none (by omega)]
        decide
    generalize sl.getD (ss.1.toNat * 1) 0 = y at h2 ⊢
    unfold wrap64
    omega
  · refine key _ ?_
    unfold wrap64
    omega
theorem next_ble (sn : Nat) (sl : List Int) (ss : Int × Int) (n : Int) {w c m : Nat} (hs : srcB sn sl ss = true) (hn : 1 ≤ n) (hm : (n.toNat - 1) * w + c ≤ m) : (s_l01Next sn sl ss n).1.toNat * w + c ≤ m := by
  obtain ⟨h0, h1⟩ := next_rng sn sl ss n hs hn
  have : (s_l01Next sn sl ss n).1.toNat ≤ n.toNat - 1 := by omega
  have := Nat.mul_le_mul_right w this
  omega
theorem next_ble0 (sn : Nat) (sl : List Int) (ss : Int × Int) (n : Int) {w c m b : Nat} (hs : srcB sn sl ss = true) (hn : 1 ≤ n) (hm : b + (n.toNat - 1) * w + c ≤ m) : b + (s_l01Next sn sl ss n).1.toNat * w + c ≤ m := by
  have := next_ble sn sl ss n (w := w) (c := b + c) (m := m) hs hn (by omega)
  omega
theorem pos_one {n : Nat} (h : decide (((n : Nat) : Int) > 0) = true) : (1 : Int) ≤ ((n : Nat) : Int) := by
  have := of_decide_eq_true h
  omega
theorem pos_idx {n : Nat} (h : decide (((n : Nat) : Int) > 0) = true) : (decide ((0 : Int) ≤ 0) && decide ((0 : Int) < ((n : Nat) : Int))) = true := by
  have := of_decide_eq_true h
  simp
  omega
theorem pos_cell {n w : Nat} {l : List Int} (h : decide (((n : Nat) : Int) > 0) = true) (hl : l.length = w * n) : Nat.ble w l.length = true := by
  have := of_decide_eq_true h
  refine ble_ok ?_
  rw [hl]
  exact Nat.le_mul_of_pos_right w (by omega)
theorem next_cell {sn : Nat} {sl : List Int} {ss : Int × Int} {n w : Nat} {l : List Int} (hs : srcB sn sl ss = true) (h : decide (((n : Nat) : Int) > 0) = true) (hl : l.length = w * n) : Nat.ble ((s_l01Next sn sl ss ((n : Nat) : Int)).1.toNat * w + w) l.length = true := by
  have h1 := pos_one h
  refine ble_ok (next_ble sn sl ss _ hs h1 ?_)
  rw [hl, Int.toNat_natCast]
  obtain ⟨m, rfl⟩ : ∃ m, n = m + 1 := ⟨n - 1, by omega⟩
  rw [Nat.add_sub_cancel, Nat.mul_add, Nat.mul_one, Nat.mul_comm w m]
  exact Nat.le_refl _
def run_s_l01Next : PRun
  | 104, [.s sn (.byts sl), .v (.int .i64 s_1), .v (.int .u64 s_2)], [.v (.int .i64 n_)] => some (srcB sn sl (s_1, s_2), enc_P104_i (s_l01Next sn sl (s_1, s_2) n_))
  | _, _, _ => none
theorem sound_s_l01Next : SoundP Try.prog 69 run_s_l01Next := by
  refine soundP_of de_P104_i SO_s_l01Next (by kernel_rfl) Try.func69 Try.ntmps69 rfl (by kernel_rfl) ?_
  intro e bcs pvs rs bcs' hrun
  unfold run_s_l01Next at hrun
  split at hrun
  · simp only [Option.some.injEq, Prod.mk.injEq] at hrun
    obtain ⟨hp, hrun⟩ := hrun
    rename_i sn sl s_1 s_2 n_
    exact ⟨_, s_l01Next sn sl (s_1, s_2) n_, by first | exact hrun.symm | exact (Prod.ext hrun.1 hrun.2).symm, (eq_s_l01Next sn sl (s_1, s_2) n_).trans (tot_s_l01Next sn sl (s_1, s_2) n_ hp)⟩
  · cases hrun

abbrev k100_0 (sn : Nat) (sl : List Int) (ss : Int × Int) (listn : Nat) (listl : List Int) : Int × Nat × List Int × Int × Int := (s_l01Next sn sl ss ((listn : Nat) : Int))
def S_s_l01Pick : Sums := ⟨tblS [], tblM [(69, .box run_s_l01Next)]⟩
theorem SO_s_l01Pick : SumsOK Try.prog S_s_l01Pick := ⟨tblS_ok True.intro, tblM_ok ⟨⟨Try.call69, sound_s_l01Next⟩, True.intro⟩⟩
def Fo_s_l01Pick (sn : Nat) (sl : List Int) (ss : Int × Int) (listn : Nat) (listl : List Int) : Option (Int × Nat × List Int × Int × Int) :=
  (if (srcB sn sl ss) = true then (if (decide (0 ≤ (k100_0 sn sl ss listn listl).1) && decide ((k100_0 sn sl ss listn listl).1 < ((listn : Nat) : Int))) = true then (if (Nat.ble ((((k100_0 sn sl ss listn listl).1).toNat) * 1 + 1) listl.length) = true then some (listl.getD ((((k100_0 sn sl ss listn listl).1).toNat) * 1) 0, sn, sl, (k100_0 sn sl ss listn listl).2.2.2) else none) else none) else none)
theorem eq_s_l01Pick (sn : Nat) (sl : List Int) (ss : Int × Int) (listn : Nat) (listl : List Int) : execP Try.prog S_s_l01Pick 100 12 (fun _ => 1000000) dec_P104_i 104 [.s sn (.byts sl), .v (.int .i64 ss.1), .v (.int .u64 ss.2)] [.s listn (.ints listl)] = Fo_s_l01Pick sn sl ss listn listl := by
  kernel_rfl
def s_l01Pick_d (sn : Nat) (sl : List Int) (ss : Int × Int) (listn : Nat) (listl : List Int) : Int × Nat × List Int × Int × Int :=
  (listl.getD ((((k100_0 sn sl ss listn listl).1).toNat) * 1) 0, sn, sl, (k100_0 sn sl ss listn listl).2.2.2)
def s_l01Pick : (Nat) → (List Int) → (Int × Int) → (Nat) → (List Int) → (Int × Nat × List Int × Int × Int) := shut s_l01Pick_d
theorem s_l01Pick_eq (sn : Nat) (sl : List Int) (ss : Int × Int) (listn : Nat) (listl : List Int) : s_l01Pick sn sl ss listn listl = s_l01Pick_d sn sl ss listn listl := by
  unfold s_l01Pick
  rw [shut_eq]
theorem tot_s_l01Pick (sn : Nat) (sl : List Int) (ss : Int × Int) (listn : Nat) (listl : List Int) (hp : (srcB sn sl ss && (lenB listn 1 listl && Nat.blt 0 listn)) = true) : Fo_s_l01Pick sn sl ss listn listl = some (s_l01Pick sn sl ss listn listl) := by
  have hs := and_l hp
  have hc := (srcB_ok hs).1
  have hk := and_r hp
  obtain ⟨hl, _⟩ := lenB_ok (and_l hk)
  have h0 : 0 < listn := blt_pos (and_r hk)
  have hr := next_rng sn sl ss (listn : Int) hs (by omega)
  rw [s_l01Pick_eq]
  unfold Fo_s_l01Pick s_l01Pick_d
  dsimp only [k100_0]
  exact chk_opt hs (chk_opt (idx_ok hr) (chk_opt (ble_ok (by omega)) rfl))
theorem post_s_l01Pick (sn : Nat) (sl : List Int) (ss : Int × Int) (listn : Nat) (listl : List Int) (hs : srcB sn sl ss = true) : srcB sn sl (s_l01Pick sn sl ss listn listl).2.2.2 = true := by
  have hc := (srcB_ok hs).1
  rw [s_l01Pick_eq]
  unfold s_l01Pick_d
  repeat' (first | (with_reducible first | assumption | apply post_s_l01Next) | refine ite_ind (P := fun r : Int × Nat × List Int × Int × Int => srcB sn sl r.2.2.2 = true) ?_ ?_ | dsimp only)
theorem pick_mem (sn : Nat) (sl : List Int) (ss : Int × Int) (listn : Nat) (listl : List Int) (hs : srcB sn sl ss = true) (hk : (lenB listn 1 listl && Nat.blt 0 listn) = true) : (s_l01Pick sn sl ss listn listl).1 ∈ listl := by
  obtain ⟨hl, _⟩ := lenB_ok (and_l hk)
  have h0 : 0 < listn := blt_pos (and_r hk)
  have hr := next_rng sn sl ss (listn : Int) hs (by omega)
  rw [s_l01Pick_eq]
  unfold s_l01Pick_d
  dsimp only [k100_0]
  exact getD_mem (by omega)
def run_s_l01Pick : PRun
  | 104, [.s sn (.byts sl), .v (.int .i64 s_1), .v (.int .u64 s_2)], [.s listn (.ints listl)] => some (srcB sn sl (s_1, s_2) && (lenB listn 1 listl && Nat.blt 0 listn), enc_P104_i (s_l01Pick sn sl (s_1, s_2) listn listl))
  | _, _, _ => none
theorem sound_s_l01Pick : SoundP Try.prog 100 run_s_l01Pick := by
  refine soundP_of de_P104_i SO_s_l01Pick (by kernel_rfl) Try.func100 Try.ntmps100 rfl (by kernel_rfl) ?_
  intro e bcs pvs rs bcs' hrun
  unfold run_s_l01Pick at hrun
  split at hrun
  · simp only [Option.some.injEq, Prod.mk.injEq] at hrun
    obtain ⟨hp, hrun⟩ := hrun
    rename_i sn sl s_1 s_2 listn listl
    exact ⟨_, s_l01Pick sn sl (s_1, s_2) listn listl, by first | exact hrun.symm | exact (Prod.ext hrun.1 hrun.2).symm, (eq_s_l01Pick sn sl (s_1, s_2) listn listl).trans (tot_s_l01Pick sn sl (s_1, s_2) listn listl hp)⟩
  · cases hrun

abbrev k44_0 (sn : Nat) (sl : List Int) (ss : Int × Int) : Int × Nat × List Int × Int × Int := (s_l01Pick sn sl ss 13 [3, 5, 5, 7, 7, 11, 13, 13, 17, 19, 23, 29, 31])
def S_s_l01DrawField : Sums := ⟨tblS [], tblM [(100, .box run_s_l01Pick)]⟩
theorem SO_s_l01DrawField : SumsOK Try.prog S_s_l01DrawField := ⟨tblS_ok True.intro, tblM_ok ⟨⟨Try.call100, sound_s_l01Pick⟩, True.intro⟩⟩
def Fo_s_l01DrawField (sn : Nat) (sl : List Int) (ss : Int × Int) : Option (Int × Nat × List Int × Int × Int) :=
  (if (srcB sn sl ss && (lenB 13 1 ([3, 5, 5, 7, 7, 11, 13, 13, 17, 19, 23, 29, 31]) && Nat.blt 0 13)) = true then some ((k44_0 sn sl ss).1, sn, sl, (k44_0 sn sl ss).2.2.2) else none)
theorem eq_s_l01DrawField (sn : Nat) (sl : List Int) (ss : Int × Int) : execP Try.prog S_s_l01DrawField 44 6 (fun _ => 1000000) dec_P104_i 104 [.s sn (.byts sl), .v (.int .i64 ss.1), .v (.int .u64 ss.2)] [] = Fo_s_l01DrawField sn sl ss := by
  kernel_rfl
def s_l01DrawField_d (sn : Nat) (sl : List Int) (ss : Int × Int) : Int × Nat × List Int × Int × Int :=
  ((k44_0 sn sl ss).1, sn, sl, (k44_0 sn sl ss).2.2.2)
def s_l01DrawField : (Nat) → (List Int) → (Int × Int) → (Int × Nat × List Int × Int × Int) := shut s_l01DrawField_d
theorem s_l01DrawField_eq (sn : Nat) (sl : List Int) (ss : Int × Int) : s_l01DrawField sn sl ss = s_l01DrawField_d sn sl ss := by
  unfold s_l01DrawField
  rw [shut_eq]
theorem tot_s_l01DrawField (sn : Nat) (sl : List Int) (ss : Int × Int) (hp : (srcB sn sl ss) = true) : Fo_s_l01DrawField sn sl ss = some (s_l01DrawField sn sl ss) := by
  have hs := hp
  have hc := (srcB_ok hs).1
  rw [s_l01DrawField_eq]
  unfold Fo_s_l01DrawField s_l01DrawField_d
  (try simp only [wI_eq])
  repeat' (first | with_reducible rfl | refine chk_opt (by first | (with_reducible assumption) | ((repeat (with_reducible first | assumption | apply post_s_l01Pick)); done) | (with_reducible exact field_prB9 _ _ _ (by ((repeat (with_reducible first | assumption | apply post_s_l01Pick)); done))) | fail | exact pos_idx ‹_› | exact and_two (by ((repeat (with_reducible first | assumption | apply post_s_l01Pick)); done)) (by (first | (with_reducible assumption) | with_reducible exact field_prB9 _ _ _ (by ((repeat (with_reducible first | assumption | apply post_s_l01Pick)); done)) | fail | rfl)) | exact pos_cell ‹_› (by (first | exact flat2_len _ | exact flat3_len _)) | exact idx_ok (next_rng _ _ _ _ (by ((repeat (with_reducible first | assumption | apply post_s_l01Pick)); done)) (by decide)) | exact ble_ok (next_ble _ _ _ _ (by ((repeat (with_reducible first | assumption | apply post_s_l01Pick)); done)) (by decide) (by decide)) | exact ble_ok (next_ble0 _ _ _ _ (by ((repeat (with_reducible first | assumption | apply post_s_l01Pick)); done)) (by decide) (by decide)) | exact idx_ok (next_rng _ _ _ _ (by ((repeat (with_reducible first | assumption | apply post_s_l01Pick)); done)) (pos_one ‹_›)) | exact next_cell (by ((repeat (with_reducible first | assumption | apply post_s_l01Pick)); done)) ‹_› (by (first | exact flat2_len _ | exact flat3_len _))) ?_ | refine ite_opt (fun _ => ?_) (fun _ => ?_) | rfl)
theorem post_s_l01DrawField (sn : Nat) (sl : List Int) (ss : Int × Int) (hs : srcB sn sl ss = true) : srcB sn sl (s_l01DrawField sn sl ss).2.2.2 = true := by
  have hc := (srcB_ok hs).1
  rw [s_l01DrawField_eq]
  unfold s_l01DrawField_d
  repeat' (first | (with_reducible first | assumption | apply post_s_l01Pick) | refine ite_ind (P := fun r : Int × Nat × List Int × Int × Int => srcB sn sl r.2.2.2 = true) ?_ ?_ | dsimp only)
theorem field_mem9 (sn : Nat) (sl : List Int) (ss : Int × Int) (hs : srcB sn sl ss = true) : (s_l01DrawField sn sl ss).1 ∈ [3, 5, 5, 7, 7, 11, 13, 13, 17, 19, 23, 29, 31] := by
  rw [s_l01DrawField_eq]
  exact pick_mem sn sl ss _ _ hs rfl
theorem field_prB9 (sn : Nat) (sl : List Int) (ss : Int × Int) (hs : srcB sn sl ss = true) : prB (s_l01DrawField sn sl ss).1 = true := by
  have h := field_mem9 sn sl ss hs
  have : ∀ x ∈ [3, 5, 5, 7, 7, 11, 13, 13, 17, 19, 23, 29, (31 : Int)], prB x = true := by decide
  exact this _ h
def run_s_l01DrawField : PRun
  | 104, [.s sn (.byts sl), .v (.int .i64 s_1), .v (.int .u64 s_2)], [] => some (srcB sn sl (s_1, s_2), enc_P104_i (s_l01DrawField sn sl (s_1, s_2)))
  | _, _, _ => none
theorem sound_s_l01DrawField : SoundP Try.prog 44 run_s_l01DrawField := by
  refine soundP_of de_P104_i SO_s_l01DrawField (by kernel_rfl) Try.func44 Try.ntmps44 rfl (by kernel_rfl) ?_
  intro e bcs pvs rs bcs' hrun
  unfold run_s_l01DrawField at hrun
  split at hrun
  · simp only [Option.some.injEq, Prod.mk.injEq] at hrun
    obtain ⟨hp, hrun⟩ := hrun
    rename_i sn sl s_1 s_2
    exact ⟨_, s_l01DrawField sn sl (s_1, s_2), by first | exact hrun.symm | exact (Prod.ext hrun.1 hrun.2).symm, (eq_s_l01DrawField sn sl (s_1, s_2)).trans (tot_s_l01DrawField sn sl (s_1, s_2) hp)⟩
  · cases hrun

abbrev k43_0 (sn : Nat) (sl : List Int) (ss : Int × Int) (p : Int) : Int × Nat × List Int × Int × Int := (s_l01Pick sn sl ((s_l01Next sn sl ss 40).2.2.2) 8 [2, 1, 0, (-3), 9, 15, 37, 1099511627776])
def S_s_l01BadField : Sums := ⟨tblS [], tblM [(69, .box run_s_l01Next), (100, .box run_s_l01Pick)]⟩
theorem SO_s_l01BadField : SumsOK Try.prog S_s_l01BadField := ⟨tblS_ok True.intro, tblM_ok ⟨⟨Try.call69, sound_s_l01Next⟩, ⟨Try.call100, sound_s_l01Pick⟩, True.intro⟩⟩
def Fo_s_l01BadField (sn : Nat) (sl : List Int) (ss : Int × Int) (p : Int) : Option (Int × Nat × List Int × Int × Int) :=
  (if (srcB sn sl ss) = true then (if (((s_l01Next sn sl ss 40).1) == 0) = true then (if (srcB sn sl ((s_l01Next sn sl ss 40).2.2.2) && (lenB 8 1 ([2, 1, 0, (-3), 9, 15, 37, 1099511627776]) && Nat.blt 0 8)) = true then some ((k43_0 sn sl ss p).1, sn, sl, (k43_0 sn sl ss p).2.2.2) else none) else some (p, sn, sl, (s_l01Next sn sl ss 40).2.2.2)) else none)
theorem eq_s_l01BadField (sn : Nat) (sl : List Int) (ss : Int × Int) (p : Int) : execP Try.prog S_s_l01BadField 43 12 (fun _ => 1000000) dec_P104_i 104 [.s sn (.byts sl), .v (.int .i64 ss.1), .v (.int .u64 ss.2)] [.v (.int .i64 p)] = Fo_s_l01BadField sn sl ss p := by
  kernel_rfl
def s_l01BadField_d (sn : Nat) (sl : List Int) (ss : Int × Int) (p : Int) : Int × Nat × List Int × Int × Int :=
  (if (((s_l01Next sn sl ss 40).1) == 0) = true then ((k43_0 sn sl ss p).1, sn, sl, (k43_0 sn sl ss p).2.2.2) else (p, sn, sl, (s_l01Next sn sl ss 40).2.2.2))
def s_l01BadField : (Nat) → (List Int) → (Int × Int) → (Int) → (Int × Nat × List Int × Int × Int) := shut s_l01BadField_d
theorem s_l01BadField_eq (sn : Nat) (sl : List Int) (ss : Int × Int) (p : Int) : s_l01BadField sn sl ss p = s_l01BadField_d sn sl ss p := by
  unfold s_l01BadField
  rw [shut_eq]
theorem tot_s_l01BadField (sn : Nat) (sl : List Int) (ss : Int × Int) (p : Int) (hp : (srcB sn sl ss && prB p) = true) : Fo_s_l01BadField sn sl ss p = some (s_l01BadField sn sl ss p) := by
  have hs := and_l hp
  have hc := (srcB_ok hs).1
  have hq := and_r hp
  have h0 := prB_ne hq
  rw [s_l01BadField_eq]
  unfold Fo_s_l01BadField s_l01BadField_d
  (try simp only [wI_eq])
  repeat' (first | with_reducible rfl | refine chk_opt (by first | (with_reducible assumption) | ((repeat (with_reducible first | assumption | apply post_s_l01Next | apply post_s_l01Pick)); done) | (with_reducible exact field_prB9 _ _ _ (by ((repeat (with_reducible first | assumption | apply post_s_l01Next | apply post_s_l01Pick)); done))) | fail | exact pos_idx ‹_› | exact and_two (by ((repeat (with_reducible first | assumption | apply post_s_l01Next | apply post_s_l01Pick)); done)) (by (first | (with_reducible assumption) | with_reducible exact field_prB9 _ _ _ (by ((repeat (with_reducible first | assumption | apply post_s_l01Next | apply post_s_l01Pick)); done)) | fail | rfl)) | exact pos_cell ‹_› (by (first | exact flat2_len _ | exact flat3_len _)) | exact idx_ok (next_rng _ _ _ _ (by ((repeat (with_reducible first | assumption | apply post_s_l01Next | apply post_s_l01Pick)); done)) (by decide)) | exact ble_ok (next_ble _ _ _ _ (by ((repeat (with_reducible first | assumption | apply post_s_l01Next | apply post_s_l01Pick)); done)) (by decide) (by decide)) | exact ble_ok (next_ble0 _ _ _ _ (by ((repeat (with_reducible first | assumption | apply post_s_l01Next | apply post_s_l01Pick)); done)) (by decide) (by decide)) | exact idx_ok (next_rng _ _ _ _ (by ((repeat (with_reducible first | assumption | apply post_s_l01Next | apply post_s_l01Pick)); done)) (pos_one ‹_›)) | exact next_cell (by ((repeat (with_reducible first | assumption | apply post_s_l01Next | apply post_s_l01Pick)); done)) ‹_› (by (first | exact flat2_len _ | exact flat3_len _))) ?_ | refine ite_opt (fun _ => ?_) (fun _ => ?_) | rfl)
theorem post_s_l01BadField (sn : Nat) (sl : List Int) (ss : Int × Int) (p : Int) (hs : srcB sn sl ss = true) : srcB sn sl (s_l01BadField sn sl ss p).2.2.2 = true := by
  have hc := (srcB_ok hs).1
  rw [s_l01BadField_eq]
  unfold s_l01BadField_d
  repeat' (first | (with_reducible first | assumption | apply post_s_l01Next | apply post_s_l01Pick) | refine ite_ind (P := fun r : Int × Nat × List Int × Int × Int => srcB sn sl r.2.2.2 = true) ?_ ?_ | dsimp only)
def run_s_l01BadField : PRun
  | 104, [.s sn (.byts sl), .v (.int .i64 s_1), .v (.int .u64 s_2)], [.v (.int .i64 p)] => some (srcB sn sl (s_1, s_2) && prB p, enc_P104_i (s_l01BadField sn sl (s_1, s_2) p))
  | _, _, _ => none
theorem sound_s_l01BadField : SoundP Try.prog 43 run_s_l01BadField := by
  refine soundP_of de_P104_i SO_s_l01BadField (by kernel_rfl) Try.func43 Try.ntmps43 rfl (by kernel_rfl) ?_
  intro e bcs pvs rs bcs' hrun
  unfold run_s_l01BadField at hrun
  split at hrun
  · simp only [Option.some.injEq, Prod.mk.injEq] at hrun
    obtain ⟨hp, hrun⟩ := hrun
    rename_i sn sl s_1 s_2 p
    exact ⟨_, s_l01BadField sn sl (s_1, s_2) p, by first | exact hrun.symm | exact (Prod.ext hrun.1 hrun.2).symm, (eq_s_l01BadField sn sl (s_1, s_2) p).trans (tot_s_l01BadField sn sl (s_1, s_2) p hp)⟩
  · cases hrun

abbrev k104_0 (sn : Nat) (sl : List Int) (ss : Int × Int) (p : Int) : Int × Nat × List Int × Int × Int := (s_l01Next sn sl ((s_l01Next sn sl ss 4).2.2.2) 3)
abbrev k104_1 (sn : Nat) (sl : List Int) (ss : Int × Int) (p : Int) : Int × Nat × List Int × Int × Int := (s_l01Next sn sl ((k104_0 sn sl ss p).2.2.2) 3)
abbrev k104_2 (sn : Nat) (sl : List Int) (ss : Int × Int) (p : Int) : Int × Nat × List Int × Int × Int := (s_l01Next sn sl ((s_l01Next sn sl ss 4).2.2.2) p)
abbrev k104_3 (sn : Nat) (sl : List Int) (ss : Int × Int) (p : Int) : Int × Nat × List Int × Int × Int := (s_l01Next sn sl ((k104_2 sn sl ss p).2.2.2) p)
def S_s_l01DrawPoint : Sums := ⟨tblS [], tblM [(69, .box run_s_l01Next)]⟩
theorem SO_s_l01DrawPoint : SumsOK Try.prog S_s_l01DrawPoint := ⟨tblS_ok True.intro, tblM_ok ⟨⟨Try.call69, sound_s_l01Next⟩, True.intro⟩⟩
def Fo_s_l01DrawPoint (sn : Nat) (sl : List Int) (ss : Int × Int) (p : Int) : Option ((Int × Int) × Nat × List Int × Int × Int) :=
  (if (srcB sn sl ss) = true then (if (((s_l01Next sn sl ss 4).1) == 0) = true then (if (srcB sn sl ((s_l01Next sn sl ss 4).2.2.2)) = true then (if (srcB sn sl ((k104_0 sn sl ss p).2.2.2)) = true then some (((k104_0 sn sl ss p).1, (k104_1 sn sl ss p).1), sn, sl, (k104_1 sn sl ss p).2.2.2) else none) else none) else (if (srcB sn sl ((s_l01Next sn sl ss 4).2.2.2)) = true then (if (srcB sn sl ((k104_2 sn sl ss p).2.2.2)) = true then some (((k104_2 sn sl ss p).1, (k104_3 sn sl ss p).1), sn, sl, (k104_3 sn sl ss p).2.2.2) else none) else none)) else none)
theorem eq_s_l01DrawPoint (sn : Nat) (sl : List Int) (ss : Int × Int) (p : Int) : execP Try.prog S_s_l01DrawPoint 104 20 (fun _ => 1000000) dec_P104_a2 104 [.s sn (.byts sl), .v (.int .i64 ss.1), .v (.int .u64 ss.2)] [.v (.int .i64 p)] = Fo_s_l01DrawPoint sn sl ss p := by
  kernel_rfl
def s_l01DrawPoint_d (sn : Nat) (sl : List Int) (ss : Int × Int) (p : Int) : (Int × Int) × Nat × List Int × Int × Int :=
  (if (((s_l01Next sn sl ss 4).1) == 0) = true then (((k104_0 sn sl ss p).1, (k104_1 sn sl ss p).1), sn, sl, (k104_1 sn sl ss p).2.2.2) else (((k104_2 sn sl ss p).1, (k104_3 sn sl ss p).1), sn, sl, (k104_3 sn sl ss p).2.2.2))
def s_l01DrawPoint : (Nat) → (List Int) → (Int × Int) → (Int) → ((Int × Int) × Nat × List Int × Int × Int) := shut s_l01DrawPoint_d
theorem s_l01DrawPoint_eq (sn : Nat) (sl : List Int) (ss : Int × Int) (p : Int) : s_l01DrawPoint sn sl ss p = s_l01DrawPoint_d sn sl ss p := by
  unfold s_l01DrawPoint
  rw [shut_eq]
theorem tot_s_l01DrawPoint (sn : Nat) (sl : List Int) (ss : Int × Int) (p : Int) (hp : (srcB sn sl ss && prB p) = true) : Fo_s_l01DrawPoint sn sl ss p = some (s_l01DrawPoint sn sl ss p) := by
  have hs := and_l hp
  have hc := (srcB_ok hs).1
  have hq := and_r hp
  have h0 := prB_ne hq
  rw [s_l01DrawPoint_eq]
  unfold Fo_s_l01DrawPoint s_l01DrawPoint_d
  (try simp only [wI_eq])
  repeat' (first | with_reducible rfl | refine chk_opt (by first | (with_reducible assumption) | ((repeat (with_reducible first | assumption | apply post_s_l01Next)); done) | (with_reducible exact field_prB9 _ _ _ (by ((repeat (with_reducible first | assumption | apply post_s_l01Next)); done))) | fail | exact pos_idx ‹_› | exact and_two (by ((repeat (with_reducible first | assumption | apply post_s_l01Next)); done)) (by (first | (with_reducible assumption) | with_reducible exact field_prB9 _ _ _ (by ((repeat (with_reducible first | assumption | apply post_s_l01Next)); done)) | fail | rfl)) | exact pos_cell ‹_› (by (first | exact flat2_len _ | exact flat3_len _)) | exact idx_ok (next_rng _ _ _ _ (by ((repeat (with_reducible first | assumption | apply post_s_l01Next)); done)) (by decide)) | exact ble_ok (next_ble _ _ _ _ (by ((repeat (with_reducible first | assumption | apply post_s_l01Next)); done)) (by decide) (by decide)) | exact ble_ok (next_ble0 _ _ _ _ (by ((repeat (with_reducible first | assumption | apply post_s_l01Next)); done)) (by decide) (by decide)) | exact idx_ok (next_rng _ _ _ _ (by ((repeat (with_reducible first | assumption | apply post_s_l01Next)); done)) (pos_one ‹_›)) | exact next_cell (by ((repeat (with_reducible first | assumption | apply post_s_l01Next)); done)) ‹_› (by (first | exact flat2_len _ | exact flat3_len _))) ?_ | refine ite_opt (fun _ => ?_) (fun _ => ?_) | rfl)
theorem post_s_l01DrawPoint (sn : Nat) (sl : List Int) (ss : Int × Int) (p : Int) (hs : srcB sn sl ss = true) : srcB sn sl (s_l01DrawPoint sn sl ss p).2.2.2 = true := by
  have hc := (srcB_ok hs).1
  rw [s_l01DrawPoint_eq]
  unfold s_l01DrawPoint_d
  repeat' (first | (with_reducible first | assumption | apply post_s_l01Next) | refine ite_ind (P := fun r : (Int × Int) × Nat × List Int × Int × Int => srcB sn sl r.2.2.2 = true) ?_ ?_ | dsimp only)
def run_s_l01DrawPoint : PRun
  | 104, [.s sn (.byts sl), .v (.int .i64 s_1), .v (.int .u64 s_2)], [.v (.int .i64 p)] => some (srcB sn sl (s_1, s_2) && prB p, enc_P104_a2 (s_l01DrawPoint sn sl (s_1, s_2) p))
  | _, _, _ => none
theorem sound_s_l01DrawPoint : SoundP Try.prog 104 run_s_l01DrawPoint := by
  refine soundP_of de_P104_a2 SO_s_l01DrawPoint (by kernel_rfl) Try.func104 Try.ntmps104 rfl (by kernel_rfl) ?_
  intro e bcs pvs rs bcs' hrun
  unfold run_s_l01DrawPoint at hrun
  split at hrun
  · simp only [Option.some.injEq, Prod.mk.injEq] at hrun
    obtain ⟨hp, hrun⟩ := hrun
    rename_i sn sl s_1 s_2 p
    exact ⟨_, s_l01DrawPoint sn sl (s_1, s_2) p, by first | exact hrun.symm | exact (Prod.ext hrun.1 hrun.2).symm, (eq_s_l01DrawPoint sn sl (s_1, s_2) p).trans (tot_s_l01DrawPoint sn sl (s_1, s_2) p hp)⟩
  · cases hrun

abbrev k108_0 (sn : Nat) (sl : List Int) (ss : Int × Int) (p : Int) (a : Int × Int) : Int × Nat × List Int × Int × Int := (s_l01Next sn sl ((s_l01Next sn sl ss 40).2.2.2) 2)
abbrev k108_1 (sn : Nat) (sl : List Int) (ss : Int × Int) (p : Int) (a : Int × Int) : Int × Nat × List Int × Int × Int := (s_l01Pick sn sl ((k108_0 sn sl ss p a).2.2.2) 3 [(-1), p, 1099511627776])
def S_s_l01BadPoint : Sums := ⟨tblS [], tblM [(69, .box run_s_l01Next), (100, .box run_s_l01Pick)]⟩
theorem SO_s_l01BadPoint : SumsOK Try.prog S_s_l01BadPoint := ⟨tblS_ok True.intro, tblM_ok ⟨⟨Try.call69, sound_s_l01Next⟩, ⟨Try.call100, sound_s_l01Pick⟩, True.intro⟩⟩
def Fo_s_l01BadPoint (sn : Nat) (sl : List Int) (ss : Int × Int) (p : Int) (a : Int × Int) : Option ((Int × Int) × Nat × List Int × Int × Int) :=
  (if (srcB sn sl ss) = true then (if (((s_l01Next sn sl ss 40).1) == 0) = true then (if (srcB sn sl ((s_l01Next sn sl ss 40).2.2.2)) = true then (if (srcB sn sl ((k108_0 sn sl ss p a).2.2.2) && (lenB 3 1 ([(-1), p, 1099511627776]) && Nat.blt 0 3)) = true then (if (decide (0 ≤ (k108_0 sn sl ss p a).1) && decide ((k108_0 sn sl ss p a).1 < ((2 : Nat) : Int))) = true then (if (Nat.ble (0 + ((((k108_0 sn sl ss p a).1).toNat) * 1) + 1) 2) = true then some ((bif Nat.beq (0 + ((((k108_0 sn sl ss p a).1).toNat) * 1)) 0 then ((k108_1 sn sl ss p a).1) else a.1, bif Nat.beq (0 + ((((k108_0 sn sl ss p a).1).toNat) * 1)) 1 then ((k108_1 sn sl ss p a).1) else a.2), sn, sl, (k108_1 sn sl ss p a).2.2.2) else none) else none) else none) else none) else some (a, sn, sl, (s_l01Next sn sl ss 40).2.2.2)) else none)
theorem eq_s_l01BadPoint (sn : Nat) (sl : List Int) (ss : Int × Int) (p : Int) (a : Int × Int) : execP Try.prog S_s_l01BadPoint 108 18 (fun _ => 1000000) dec_P104_a2 104 [.s sn (.byts sl), .v (.int .i64 ss.1), .v (.int .u64 ss.2)] [.v (.int .i64 p), .v (.agg ⟨[.int .i64 a.1, .int .i64 a.2]⟩)] = Fo_s_l01BadPoint sn sl ss p a := by
  kernel_rfl
def s_l01BadPoint_d (sn : Nat) (sl : List Int) (ss : Int × Int) (p : Int) (a : Int × Int) : (Int × Int) × Nat × List Int × Int × Int :=
  (if (((s_l01Next sn sl ss 40).1) == 0) = true then ((bif Nat.beq (0 + ((((k108_0 sn sl ss p a).1).toNat) * 1)) 0 then ((k108_1 sn sl ss p a).1) else a.1, bif Nat.beq (0 + ((((k108_0 sn sl ss p a).1).toNat) * 1)) 1 then ((k108_1 sn sl ss p a).1) else a.2), sn, sl, (k108_1 sn sl ss p a).2.2.2) else (a, sn, sl, (s_l01Next sn sl ss 40).2.2.2))
def s_l01BadPoint : (Nat) → (List Int) → (Int × Int) → (Int) → (Int × Int) → ((Int × Int) × Nat × List Int × Int × Int) := shut s_l01BadPoint_d
theorem s_l01BadPoint_eq (sn : Nat) (sl : List Int) (ss : Int × Int) (p : Int) (a : Int × Int) : s_l01BadPoint sn sl ss p a = s_l01BadPoint_d sn sl ss p a := by
  unfold s_l01BadPoint
  rw [shut_eq]
theorem tot_s_l01BadPoint (sn : Nat) (sl : List Int) (ss : Int × Int) (p : Int) (a : Int × Int) (hp : (srcB sn sl ss && prB p) = true) : Fo_s_l01BadPoint sn sl ss p a = some (s_l01BadPoint sn sl ss p a) := by
  have hs := and_l hp
  have hc := (srcB_ok hs).1
  have hq := and_r hp
  have h0 := prB_ne hq
  rw [s_l01BadPoint_eq]
  unfold Fo_s_l01BadPoint s_l01BadPoint_d
  (try simp only [wI_eq])
  repeat' (first | with_reducible rfl | refine chk_opt (by first | (with_reducible assumption) | ((repeat (with_reducible first | assumption | apply post_s_l01Next | apply post_s_l01Pick)); done) | (with_reducible exact field_prB9 _ _ _ (by ((repeat (with_reducible first | assumption | apply post_s_l01Next | apply post_s_l01Pick)); done))) | fail | exact pos_idx ‹_› | exact and_two (by ((repeat (with_reducible first | assumption | apply post_s_l01Next | apply post_s_l01Pick)); done)) (by (first | (with_reducible assumption) | with_reducible exact field_prB9 _ _ _ (by ((repeat (with_reducible first | assumption | apply post_s_l01Next | apply post_s_l01Pick)); done)) | fail | rfl)) | exact pos_cell ‹_› (by (first | exact flat2_len _ | exact flat3_len _)) | exact idx_ok (next_rng _ _ _ _ (by ((repeat (with_reducible first | assumption | apply post_s_l01Next | apply post_s_l01Pick)); done)) (by decide)) | exact ble_ok (next_ble _ _ _ _ (by ((repeat (with_reducible first | assumption | apply post_s_l01Next | apply post_s_l01Pick)); done)) (by decide) (by decide)) | exact ble_ok (next_ble0 _ _ _ _ (by ((repeat (with_reducible first | assumption | apply post_s_l01Next | apply post_s_l01Pick)); done)) (by decide) (by decide)) | exact idx_ok (next_rng _ _ _ _ (by ((repeat (with_reducible first | assumption | apply post_s_l01Next | apply post_s_l01Pick)); done)) (pos_one ‹_›)) | exact next_cell (by ((repeat (with_reducible first | assumption | apply post_s_l01Next | apply post_s_l01Pick)); done)) ‹_› (by (first | exact flat2_len _ | exact flat3_len _))) ?_ | refine ite_opt (fun _ => ?_) (fun _ => ?_) | rfl)
theorem post_s_l01BadPoint (sn : Nat) (sl : List Int) (ss : Int × Int) (p : Int) (a : Int × Int) (hs : srcB sn sl ss = true) : srcB sn sl (s_l01BadPoint sn sl ss p a).2.2.2 = true := by
  have hc := (srcB_ok hs).1
  rw [s_l01BadPoint_eq]
  unfold s_l01BadPoint_d
  repeat' (first | (with_reducible first | assumption | apply post_s_l01Next | apply post_s_l01Pick) | refine ite_ind (P := fun r : (Int × Int) × Nat × List Int × Int × Int => srcB sn sl r.2.2.2 = true) ?_ ?_ | dsimp only)
def run_s_l01BadPoint : PRun
  | 104, [.s sn (.byts sl), .v (.int .i64 s_1), .v (.int .u64 s_2)], [.v (.int .i64 p), .v (.agg ⟨[.int .i64 a0, .int .i64 a1]⟩)] => some (srcB sn sl (s_1, s_2) && prB p, enc_P104_a2 (s_l01BadPoint sn sl (s_1, s_2) p (a0, a1)))
  | _, _, _ => none
theorem sound_s_l01BadPoint : SoundP Try.prog 108 run_s_l01BadPoint := by
  refine soundP_of de_P104_a2 SO_s_l01BadPoint (by kernel_rfl) Try.func108 Try.ntmps108 rfl (by kernel_rfl) ?_
  intro e bcs pvs rs bcs' hrun
  unfold run_s_l01BadPoint at hrun
  split at hrun
  · simp only [Option.some.injEq, Prod.mk.injEq] at hrun
    obtain ⟨hp, hrun⟩ := hrun
    rename_i sn sl s_1 s_2 p a0 a1
    exact ⟨_, s_l01BadPoint sn sl (s_1, s_2) p (a0, a1), by first | exact hrun.symm | exact (Prod.ext hrun.1 hrun.2).symm, (eq_s_l01BadPoint sn sl (s_1, s_2) p (a0, a1)).trans (tot_s_l01BadPoint sn sl (s_1, s_2) p (a0, a1) hp)⟩
  · cases hrun

abbrev k105_0 (sn : Nat) (sl : List Int) (ss : Int × Int) (p : Int) : Int × Nat × List Int × Int × Int := (s_l01Next sn sl ss (wI (p + 1)))
abbrev k105_1 (sn : Nat) (sl : List Int) (ss : Int × Int) (p : Int) : Int × Nat × List Int × Int × Int := (s_l01Next sn sl ((k105_0 sn sl ss p).2.2.2) p)
abbrev k105_2 (sn : Nat) (sl : List Int) (ss : Int × Int) (p : Int) : Int × Nat × List Int × Int × Int := (s_l01Next sn sl ((k105_1 sn sl ss p).2.2.2) p)
def S_s_l01DrawLine : Sums := ⟨tblS [], tblM [(69, .box run_s_l01Next)]⟩
theorem SO_s_l01DrawLine : SumsOK Try.prog S_s_l01DrawLine := ⟨tblS_ok True.intro, tblM_ok ⟨⟨Try.call69, sound_s_l01Next⟩, True.intro⟩⟩
def Fo_s_l01DrawLine (sn : Nat) (sl : List Int) (ss : Int × Int) (p : Int) : Option ((Int × Int × Int) × Nat × List Int × Int × Int) :=
  (if (srcB sn sl ss) = true then (if (((k105_0 sn sl ss p).1) == 0) = true then (if (srcB sn sl ((k105_0 sn sl ss p).2.2.2)) = true then some ((0, 1, (k105_1 sn sl ss p).1), sn, sl, (k105_1 sn sl ss p).2.2.2) else none) else (if (srcB sn sl ((k105_0 sn sl ss p).2.2.2)) = true then (if (srcB sn sl ((k105_1 sn sl ss p).2.2.2)) = true then some ((1, (k105_1 sn sl ss p).1, (k105_2 sn sl ss p).1), sn, sl, (k105_2 sn sl ss p).2.2.2) else none) else none)) else none)
theorem eq_s_l01DrawLine (sn : Nat) (sl : List Int) (ss : Int × Int) (p : Int) : execP Try.prog S_s_l01DrawLine 105 21 (fun _ => 1000000) dec_P104_a3 104 [.s sn (.byts sl), .v (.int .i64 ss.1), .v (.int .u64 ss.2)] [.v (.int .i64 p)] = Fo_s_l01DrawLine sn sl ss p := by
  kernel_rfl
def s_l01DrawLine_d (sn : Nat) (sl : List Int) (ss : Int × Int) (p : Int) : (Int × Int × Int) × Nat × List Int × Int × Int :=
  (if (((k105_0 sn sl ss p).1) == 0) = true then ((0, 1, (k105_1 sn sl ss p).1), sn, sl, (k105_1 sn sl ss p).2.2.2) else ((1, (k105_1 sn sl ss p).1, (k105_2 sn sl ss p).1), sn, sl, (k105_2 sn sl ss p).2.2.2))
def s_l01DrawLine : (Nat) → (List Int) → (Int × Int) → (Int) → ((Int × Int × Int) × Nat × List Int × Int × Int) := shut s_l01DrawLine_d
theorem s_l01DrawLine_eq (sn : Nat) (sl : List Int) (ss : Int × Int) (p : Int) : s_l01DrawLine sn sl ss p = s_l01DrawLine_d sn sl ss p := by
  unfold s_l01DrawLine
  rw [shut_eq]
theorem tot_s_l01DrawLine (sn : Nat) (sl : List Int) (ss : Int × Int) (p : Int) (hp : (srcB sn sl ss && prB p) = true) : Fo_s_l01DrawLine sn sl ss p = some (s_l01DrawLine sn sl ss p) := by
  have hs := and_l hp
  have hc := (srcB_ok hs).1
  have hq := and_r hp
  have h0 := prB_ne hq
  rw [s_l01DrawLine_eq]
  unfold Fo_s_l01DrawLine s_l01DrawLine_d
  (try simp only [wI_eq])
  repeat' (first | with_reducible rfl | refine chk_opt (by first | (with_reducible assumption) | ((repeat (with_reducible first | assumption | apply post_s_l01Next)); done) | (with_reducible exact field_prB9 _ _ _ (by ((repeat (with_reducible first | assumption | apply post_s_l01Next)); done))) | fail | exact pos_idx ‹_› | exact and_two (by ((repeat (with_reducible first | assumption | apply post_s_l01Next)); done)) (by (first | (with_reducible assumption) | with_reducible exact field_prB9 _ _ _ (by ((repeat (with_reducible first | assumption | apply post_s_l01Next)); done)) | fail | rfl)) | exact pos_cell ‹_› (by (first | exact flat2_len _ | exact flat3_len _)) | exact idx_ok (next_rng _ _ _ _ (by ((repeat (with_reducible first | assumption | apply post_s_l01Next)); done)) (by decide)) | exact ble_ok (next_ble _ _ _ _ (by ((repeat (with_reducible first | assumption | apply post_s_l01Next)); done)) (by decide) (by decide)) | exact ble_ok (next_ble0 _ _ _ _ (by ((repeat (with_reducible first | assumption | apply post_s_l01Next)); done)) (by decide) (by decide)) | exact idx_ok (next_rng _ _ _ _ (by ((repeat (with_reducible first | assumption | apply post_s_l01Next)); done)) (pos_one ‹_›)) | exact next_cell (by ((repeat (with_reducible first | assumption | apply post_s_l01Next)); done)) ‹_› (by (first | exact flat2_len _ | exact flat3_len _))) ?_ | refine ite_opt (fun _ => ?_) (fun _ => ?_) | rfl)
theorem post_s_l01DrawLine (sn : Nat) (sl : List Int) (ss : Int × Int) (p : Int) (hs : srcB sn sl ss = true) : srcB sn sl (s_l01DrawLine sn sl ss p).2.2.2 = true := by
  have hc := (srcB_ok hs).1
  rw [s_l01DrawLine_eq]
  unfold s_l01DrawLine_d
  repeat' (first | (with_reducible first | assumption | apply post_s_l01Next) | refine ite_ind (P := fun r : (Int × Int × Int) × Nat × List Int × Int × Int => srcB sn sl r.2.2.2 = true) ?_ ?_ | dsimp only)
def run_s_l01DrawLine : PRun
  | 104, [.s sn (.byts sl), .v (.int .i64 s_1), .v (.int .u64 s_2)], [.v (.int .i64 p)] => some (srcB sn sl (s_1, s_2) && prB p, enc_P104_a3 (s_l01DrawLine sn sl (s_1, s_2) p))
  | _, _, _ => none
theorem sound_s_l01DrawLine : SoundP Try.prog 105 run_s_l01DrawLine := by
  refine soundP_of de_P104_a3 SO_s_l01DrawLine (by kernel_rfl) Try.func105 Try.ntmps105 rfl (by kernel_rfl) ?_
  intro e bcs pvs rs bcs' hrun
  unfold run_s_l01DrawLine at hrun
  split at hrun
  · simp only [Option.some.injEq, Prod.mk.injEq] at hrun
    obtain ⟨hp, hrun⟩ := hrun
    rename_i sn sl s_1 s_2 p
    exact ⟨_, s_l01DrawLine sn sl (s_1, s_2) p, by first | exact hrun.symm | exact (Prod.ext hrun.1 hrun.2).symm, (eq_s_l01DrawLine sn sl (s_1, s_2) p).trans (tot_s_l01DrawLine sn sl (s_1, s_2) p hp)⟩
  · cases hrun

abbrev k109_0 (sn : Nat) (sl : List Int) (ss : Int × Int) (p : Int) (l : Int × Int × Int) : Int × Nat × List Int × Int × Int := (s_l01Next sn sl ((s_l01Next sn sl ss 40).2.2.2) 3)
abbrev k109_1 (sn : Nat) (sl : List Int) (ss : Int × Int) (p : Int) (l : Int × Int × Int) : Int × Nat × List Int × Int × Int := (s_l01Pick sn sl ((k109_0 sn sl ss p l).2.2.2) 3 [(-1), p, 1099511627776])
abbrev k109_2 (sn : Nat) (sl : List Int) (ss : Int × Int) (p : Int) (l : Int × Int × Int) : Int × Nat × List Int × Int × Int := (s_l01Pick sn sl ((s_l01Next sn sl ss 40).2.2.2) 2 [0, 2])
def S_s_l01BadLine : Sums := ⟨tblS [], tblM [(69, .box run_s_l01Next), (100, .box run_s_l01Pick)]⟩
theorem SO_s_l01BadLine : SumsOK Try.prog S_s_l01BadLine := ⟨tblS_ok True.intro, tblM_ok ⟨⟨Try.call69, sound_s_l01Next⟩, ⟨Try.call100, sound_s_l01Pick⟩, True.intro⟩⟩
def Fo_s_l01BadLine (sn : Nat) (sl : List Int) (ss : Int × Int) (p : Int) (l : Int × Int × Int) : Option ((Int × Int × Int) × Nat × List Int × Int × Int) :=
  (if (srcB sn sl ss) = true then (if (((s_l01Next sn sl ss 40).1) == 0) = true then (if (srcB sn sl ((s_l01Next sn sl ss 40).2.2.2)) = true then (if (srcB sn sl ((k109_0 sn sl ss p l).2.2.2) && (lenB 3 1 ([(-1), p, 1099511627776]) && Nat.blt 0 3)) = true then (if (decide (0 ≤ (k109_0 sn sl ss p l).1) && decide ((k109_0 sn sl ss p l).1 < ((3 : Nat) : Int))) = true then (if (Nat.ble (0 + ((((k109_0 sn sl ss p l).1).toNat) * 1) + 1) 3) = true then some ((bif Nat.beq (0 + ((((k109_0 sn sl ss p l).1).toNat) * 1)) 0 then ((k109_1 sn sl ss p l).1) else l.1, bif Nat.beq (0 + ((((k109_0 sn sl ss p l).1).toNat) * 1)) 1 then ((k109_1 sn sl ss p l).1) else l.2.1, bif Nat.beq (0 + ((((k109_0 sn sl ss p l).1).toNat) * 1)) 2 then ((k109_1 sn sl ss p l).1) else l.2.2), sn, sl, (k109_1 sn sl ss p l).2.2.2) else none) else none) else none) else none) else (if (((s_l01Next sn sl ss 40).1) == 1) = true then (if (srcB sn sl ((s_l01Next sn sl ss 40).2.2.2) && (lenB 2 1 ([0, 2]) && Nat.blt 0 2)) = true then some ((0, (k109_2 sn sl ss p l).1, 1), sn, sl, (k109_2 sn sl ss p l).2.2.2) else none) else (if (((s_l01Next sn sl ss 40).1) == 2) = true then some ((2, 1, 0), sn, sl, (s_l01Next sn sl ss 40).2.2.2) else some (l, sn, sl, (s_l01Next sn sl ss 40).2.2.2)))) else none)
theorem eq_s_l01BadLine (sn : Nat) (sl : List Int) (ss : Int × Int) (p : Int) (l : Int × Int × Int) : execP Try.prog S_s_l01BadLine 109 28 (fun _ => 1000000) dec_P104_a3 104 [.s sn (.byts sl), .v (.int .i64 ss.1), .v (.int .u64 ss.2)] [.v (.int .i64 p), .v (.agg ⟨[.int .i64 l.1, .int .i64 l.2.1, .int .i64 l.2.2]⟩)] = Fo_s_l01BadLine sn sl ss p l := by
  kernel_rfl
def s_l01BadLine_d (sn : Nat) (sl : List Int) (ss : Int × Int) (p : Int) (l : Int × Int × Int) : (Int × Int × Int) × Nat × List Int × Int × Int :=
  (if (((s_l01Next sn sl ss 40).1) == 0) = true then ((bif Nat.beq (0 + ((((k109_0 sn sl ss p l).1).toNat) * 1)) 0 then ((k109_1 sn sl ss p l).1) else l.1, bif Nat.beq (0 + ((((k109_0 sn sl ss p l).1).toNat) * 1)) 1 then ((k109_1 sn sl ss p l).1) else l.2.1, bif Nat.beq (0 + ((((k109_0 sn sl ss p l).1).toNat) * 1)) 2 then ((k109_1 sn sl ss p l).1) else l.2.2), sn, sl, (k109_1 sn sl ss p l).2.2.2) else (if (((s_l01Next sn sl ss 40).1) == 1) = true then ((0, (k109_2 sn sl ss p l).1, 1), sn, sl, (k109_2 sn sl ss p l).2.2.2) else (if (((s_l01Next sn sl ss 40).1) == 2) = true then ((2, 1, 0), sn, sl, (s_l01Next sn sl ss 40).2.2.2) else (l, sn, sl, (s_l01Next sn sl ss 40).2.2.2))))
def s_l01BadLine : (Nat) → (List Int) → (Int × Int) → (Int) → (Int × Int × Int) → ((Int × Int × Int) × Nat × List Int × Int × Int) := shut s_l01BadLine_d
theorem s_l01BadLine_eq (sn : Nat) (sl : List Int) (ss : Int × Int) (p : Int) (l : Int × Int × Int) : s_l01BadLine sn sl ss p l = s_l01BadLine_d sn sl ss p l := by
  unfold s_l01BadLine
  rw [shut_eq]
theorem tot_s_l01BadLine (sn : Nat) (sl : List Int) (ss : Int × Int) (p : Int) (l : Int × Int × Int) (hp : (srcB sn sl ss && prB p) = true) : Fo_s_l01BadLine sn sl ss p l = some (s_l01BadLine sn sl ss p l) := by
  have hs := and_l hp
  have hc := (srcB_ok hs).1
  have hq := and_r hp
  have h0 := prB_ne hq
  rw [s_l01BadLine_eq]
  unfold Fo_s_l01BadLine s_l01BadLine_d
  (try simp only [wI_eq])
  repeat' (first | with_reducible rfl | refine chk_opt (by first | (with_reducible assumption) | ((repeat (with_reducible first | assumption | apply post_s_l01Next | apply post_s_l01Pick)); done) | (with_reducible exact field_prB9 _ _ _ (by ((repeat (with_reducible first | assumption | apply post_s_l01Next | apply post_s_l01Pick)); done))) | fail | exact pos_idx ‹_› | exact and_two (by ((repeat (with_reducible first | assumption | apply post_s_l01Next | apply post_s_l01Pick)); done)) (by (first | (with_reducible assumption) | with_reducible exact field_prB9 _ _ _ (by ((repeat (with_reducible first | assumption | apply post_s_l01Next | apply post_s_l01Pick)); done)) | fail | rfl)) | exact pos_cell ‹_› (by (first | exact flat2_len _ | exact flat3_len _)) | exact idx_ok (next_rng _ _ _ _ (by ((repeat (with_reducible first | assumption | apply post_s_l01Next | apply post_s_l01Pick)); done)) (by decide)) | exact ble_ok (next_ble _ _ _ _ (by ((repeat (with_reducible first | assumption | apply post_s_l01Next | apply post_s_l01Pick)); done)) (by decide) (by decide)) | exact ble_ok (next_ble0 _ _ _ _ (by ((repeat (with_reducible first | assumption | apply post_s_l01Next | apply post_s_l01Pick)); done)) (by decide) (by decide)) | exact idx_ok (next_rng _ _ _ _ (by ((repeat (with_reducible first | assumption | apply post_s_l01Next | apply post_s_l01Pick)); done)) (pos_one ‹_›)) | exact next_cell (by ((repeat (with_reducible first | assumption | apply post_s_l01Next | apply post_s_l01Pick)); done)) ‹_› (by (first | exact flat2_len _ | exact flat3_len _))) ?_ | refine ite_opt (fun _ => ?_) (fun _ => ?_) | rfl)
theorem post_s_l01BadLine (sn : Nat) (sl : List Int) (ss : Int × Int) (p : Int) (l : Int × Int × Int) (hs : srcB sn sl ss = true) : srcB sn sl (s_l01BadLine sn sl ss p l).2.2.2 = true := by
  have hc := (srcB_ok hs).1
  rw [s_l01BadLine_eq]
  unfold s_l01BadLine_d
  repeat' (first | (with_reducible first | assumption | apply post_s_l01Next | apply post_s_l01Pick) | refine ite_ind (P := fun r : (Int × Int × Int) × Nat × List Int × Int × Int => srcB sn sl r.2.2.2 = true) ?_ ?_ | dsimp only)
def run_s_l01BadLine : PRun
  | 104, [.s sn (.byts sl), .v (.int .i64 s_1), .v (.int .u64 s_2)], [.v (.int .i64 p), .v (.agg ⟨[.int .i64 l0, .int .i64 l1, .int .i64 l2]⟩)] => some (srcB sn sl (s_1, s_2) && prB p, enc_P104_a3 (s_l01BadLine sn sl (s_1, s_2) p (l0, l1, l2)))
  | _, _, _ => none
theorem sound_s_l01BadLine : SoundP Try.prog 109 run_s_l01BadLine := by
  refine soundP_of de_P104_a3 SO_s_l01BadLine (by kernel_rfl) Try.func109 Try.ntmps109 rfl (by kernel_rfl) ?_
  intro e bcs pvs rs bcs' hrun
  unfold run_s_l01BadLine at hrun
  split at hrun
  · simp only [Option.some.injEq, Prod.mk.injEq] at hrun
    obtain ⟨hp, hrun⟩ := hrun
    rename_i sn sl s_1 s_2 p l0 l1 l2
    exact ⟨_, s_l01BadLine sn sl (s_1, s_2) p (l0, l1, l2), by first | exact hrun.symm | exact (Prod.ext hrun.1 hrun.2).symm, (eq_s_l01BadLine sn sl (s_1, s_2) p (l0, l1, l2)).trans (tot_s_l01BadLine sn sl (s_1, s_2) p (l0, l1, l2) hp)⟩
  · cases hrun

abbrev k106_0 (sn : Nat) (sl : List Int) (ss : Int × Int) : Int × Nat × List Int × Int × Int := (s_l01Pick sn sl ((s_l01Next sn sl ss 40).2.2.2) 3 [(-1), 3, 1099511627776])
abbrev k106_1 (sn : Nat) (sl : List Int) (ss : Int × Int) : Int × Nat × List Int × Int × Int := (s_l01Next sn sl ((s_l01Next sn sl ss 40).2.2.2) 3)
def S_s_l02DrawColour : Sums := ⟨tblS [], tblM [(69, .box run_s_l01Next), (100, .box run_s_l01Pick)]⟩
theorem SO_s_l02DrawColour : SumsOK Try.prog S_s_l02DrawColour := ⟨tblS_ok True.intro, tblM_ok ⟨⟨Try.call69, sound_s_l01Next⟩, ⟨Try.call100, sound_s_l01Pick⟩, True.intro⟩⟩
def Fo_s_l02DrawColour (sn : Nat) (sl : List Int) (ss : Int × Int) : Option (Int × Nat × List Int × Int × Int) :=
  (if (srcB sn sl ss) = true then (if (((s_l01Next sn sl ss 40).1) == 0) = true then (if (srcB sn sl ((s_l01Next sn sl ss 40).2.2.2) && (lenB 3 1 ([(-1), 3, 1099511627776]) && Nat.blt 0 3)) = true then some ((k106_0 sn sl ss).1, sn, sl, (k106_0 sn sl ss).2.2.2) else none) else (if (srcB sn sl ((s_l01Next sn sl ss 40).2.2.2)) = true then some ((k106_1 sn sl ss).1, sn, sl, (k106_1 sn sl ss).2.2.2) else none)) else none)
theorem eq_s_l02DrawColour (sn : Nat) (sl : List Int) (ss : Int × Int) : execP Try.prog S_s_l02DrawColour 106 11 (fun _ => 1000000) dec_P104_i 104 [.s sn (.byts sl), .v (.int .i64 ss.1), .v (.int .u64 ss.2)] [] = Fo_s_l02DrawColour sn sl ss := by
  kernel_rfl
def s_l02DrawColour_d (sn : Nat) (sl : List Int) (ss : Int × Int) : Int × Nat × List Int × Int × Int :=
  (if (((s_l01Next sn sl ss 40).1) == 0) = true then ((k106_0 sn sl ss).1, sn, sl, (k106_0 sn sl ss).2.2.2) else ((k106_1 sn sl ss).1, sn, sl, (k106_1 sn sl ss).2.2.2))
def s_l02DrawColour : (Nat) → (List Int) → (Int × Int) → (Int × Nat × List Int × Int × Int) := shut s_l02DrawColour_d
theorem s_l02DrawColour_eq (sn : Nat) (sl : List Int) (ss : Int × Int) : s_l02DrawColour sn sl ss = s_l02DrawColour_d sn sl ss := by
  unfold s_l02DrawColour
  rw [shut_eq]
theorem tot_s_l02DrawColour (sn : Nat) (sl : List Int) (ss : Int × Int) (hp : (srcB sn sl ss) = true) : Fo_s_l02DrawColour sn sl ss = some (s_l02DrawColour sn sl ss) := by
  have hs := hp
  have hc := (srcB_ok hs).1
  rw [s_l02DrawColour_eq]
  unfold Fo_s_l02DrawColour s_l02DrawColour_d
  (try simp only [wI_eq])
  repeat' (first | with_reducible rfl | refine chk_opt (by first | (with_reducible assumption) | ((repeat (with_reducible first | assumption | apply post_s_l01Next | apply post_s_l01Pick)); done) | (with_reducible exact field_prB9 _ _ _ (by ((repeat (with_reducible first | assumption | apply post_s_l01Next | apply post_s_l01Pick)); done))) | fail | exact pos_idx ‹_› | exact and_two (by ((repeat (with_reducible first | assumption | apply post_s_l01Next | apply post_s_l01Pick)); done)) (by (first | (with_reducible assumption) | with_reducible exact field_prB9 _ _ _ (by ((repeat (with_reducible first | assumption | apply post_s_l01Next | apply post_s_l01Pick)); done)) | fail | rfl)) | exact pos_cell ‹_› (by (first | exact flat2_len _ | exact flat3_len _)) | exact idx_ok (next_rng _ _ _ _ (by ((repeat (with_reducible first | assumption | apply post_s_l01Next | apply post_s_l01Pick)); done)) (by decide)) | exact ble_ok (next_ble _ _ _ _ (by ((repeat (with_reducible first | assumption | apply post_s_l01Next | apply post_s_l01Pick)); done)) (by decide) (by decide)) | exact ble_ok (next_ble0 _ _ _ _ (by ((repeat (with_reducible first | assumption | apply post_s_l01Next | apply post_s_l01Pick)); done)) (by decide) (by decide)) | exact idx_ok (next_rng _ _ _ _ (by ((repeat (with_reducible first | assumption | apply post_s_l01Next | apply post_s_l01Pick)); done)) (pos_one ‹_›)) | exact next_cell (by ((repeat (with_reducible first | assumption | apply post_s_l01Next | apply post_s_l01Pick)); done)) ‹_› (by (first | exact flat2_len _ | exact flat3_len _))) ?_ | refine ite_opt (fun _ => ?_) (fun _ => ?_) | rfl)
theorem post_s_l02DrawColour (sn : Nat) (sl : List Int) (ss : Int × Int) (hs : srcB sn sl ss = true) : srcB sn sl (s_l02DrawColour sn sl ss).2.2.2 = true := by
  have hc := (srcB_ok hs).1
  rw [s_l02DrawColour_eq]
  unfold s_l02DrawColour_d
  repeat' (first | (with_reducible first | assumption | apply post_s_l01Next | apply post_s_l01Pick) | refine ite_ind (P := fun r : Int × Nat × List Int × Int × Int => srcB sn sl r.2.2.2 = true) ?_ ?_ | dsimp only)
def run_s_l02DrawColour : PRun
  | 104, [.s sn (.byts sl), .v (.int .i64 s_1), .v (.int .u64 s_2)], [] => some (srcB sn sl (s_1, s_2), enc_P104_i (s_l02DrawColour sn sl (s_1, s_2)))
  | _, _, _ => none
theorem sound_s_l02DrawColour : SoundP Try.prog 106 run_s_l02DrawColour := by
  refine soundP_of de_P104_i SO_s_l02DrawColour (by kernel_rfl) Try.func106 Try.ntmps106 rfl (by kernel_rfl) ?_
  intro e bcs pvs rs bcs' hrun
  unfold run_s_l02DrawColour at hrun
  split at hrun
  · simp only [Option.some.injEq, Prod.mk.injEq] at hrun
    obtain ⟨hp, hrun⟩ := hrun
    rename_i sn sl s_1 s_2
    exact ⟨_, s_l02DrawColour sn sl (s_1, s_2), by first | exact hrun.symm | exact (Prod.ext hrun.1 hrun.2).symm, (eq_s_l02DrawColour sn sl (s_1, s_2)).trans (tot_s_l02DrawColour sn sl (s_1, s_2) hp)⟩
  · cases hrun

def S_s_NullLines : Sums := ⟨tblS [(129, run_s_l02Code), (134, run_s_l01Normal), (60, run_s_l02Perpendicular)], tblM []⟩
theorem SO_s_NullLines : SumsOK Try.prog S_s_NullLines := ⟨tblS_ok ⟨⟨Try.call129, sound_s_l02Code⟩, ⟨Try.call134, sound_s_l01Normal⟩, ⟨Try.call60, sound_s_l02Perpendicular⟩, True.intro⟩, tblM_ok True.intro⟩
def T_s_NullLines_0 (p : Int) (colour : Int) (a : Int × Int) (l20 : List Int) (m20 : Nat) (i : Int) : Tab := ⟨[.val (.int .i64 p), .val (.int .i64 colour), .val (.agg ⟨[.int .i64 a.1, .int .i64 a.2]⟩), .junk, .junk, .ptr 20 0, .val (.slice none 0 0), .val (.int .i64 0), .val (.int .i64 (s_l02Code p colour 1 [a.1, a.2])), .row 80, .val (.int .i64 i), .junk, .val (.int .i64 p), .val (.int .i64 colour), .val (.agg ⟨[.int .i64 a.1, .int .i64 a.2]⟩), .row 60, .val (.int .i64 (s_l02Code p colour 1 [a.1, a.2])), .val (.int .i64 (s_l02Code p colour 1 [a.1, a.2])), .val (.bool ((s_l02Code p colour 1 [a.1, a.2]) != 0)), .junk, .junk, .junk, .junk, .junk, .junk, .junk, .junk, .junk, .junk, .junk, .junk, .junk, .junk, .junk, .junk, .junk, .junk, .junk, .junk, .junk, .junk, .junk, .junk, .junk, .junk, .junk, .junk, .junk, .junk, .junk, .junk, .junk, .junk, .junk], [(20, .box 30 [.val (.int .i64 a.1), .val (.int .i64 a.2)]), (60, .row 30 2 1 (.ints [a.1, a.2])), (80, .row 32 3 m20 (.ints l20))]⟩
def X_s_NullLines_0 (P : Program) (fu : Nat) (p : Int) (colour : Int) (a : Int × Int) (f : Nat) (l20 : List Int) (m20 : Nat) (i : Int) : Option ((Nat × List Int) × Int) := loopK (exec P S_s_NullLines 54 (fun _ => fu + 100) (Code.sub [1, 1, 1, 0, 1, 0, 0] (bodyF P 107))) f (T_s_NullLines_0 p colour a l20 m20 i) (kBlock 0 (kSeq (fun s => exec P S_s_NullLines 54 (fun _ => fu + 100) (Code.sub [1, 1, 1, 1] (bodyF P 107)) s (finT P 107 dec_l32_3_i)) (finT P 107 dec_l32_3_i)))
def B_s_NullLines_0 (p : Int) (colour : Int) (a : Int × Int) (rec0 : (List Int) → Nat → Int → Option ((Nat × List Int) × Int)) (l20 : List Int) (m20 : Nat) (i : Int) : Option ((Nat × List Int) × Int) :=
  (if (decide (i < p)) = true then (if (prB p) = true then (if (decide (i ≥ 0)) = true then (if (prB p) = true then (if (prB p) = true then (if (s_l02Perpendicular p colour (s_l01Normal p 1 i (wI (0 - (wI (a.1 + (wI (i * a.2))))))) (s_l01Normal p 1 i (wI (0 - (wI (a.1 + (wI (i * a.2)))))))) = true then (if (Nat.ble 1 1 && Nat.ble (m20 + 1) 1000000 && Nat.beq 3 (3)) = true then rec0 (l20 ++ [(s_l01Normal p 1 i (wI (0 - (wI (a.1 + (wI (i * a.2))))))).1, (s_l01Normal p 1 i (wI (0 - (wI (a.1 + (wI (i * a.2))))))).2.1, (s_l01Normal p 1 i (wI (0 - (wI (a.1 + (wI (i * a.2))))))).2.2]) (m20 + 1) (wI (i + 1)) else none) else rec0 l20 m20 (wI (i + 1))) else none) else none) else (if (prB p) = true then (if (s_l02Perpendicular p colour (s_l01Normal p 0 1 (wI (0 - a.2))) (s_l01Normal p 0 1 (wI (0 - a.2)))) = true then (if (Nat.ble 1 1 && Nat.ble (m20 + 1) 1000000 && Nat.beq 3 (3)) = true then rec0 (l20 ++ [(s_l01Normal p 0 1 (wI (0 - a.2))).1, (s_l01Normal p 0 1 (wI (0 - a.2))).2.1, (s_l01Normal p 0 1 (wI (0 - a.2))).2.2]) (m20 + 1) (wI (i + 1)) else none) else rec0 l20 m20 (wI (i + 1))) else none)) else none) else some ((m20, l20), 0))
def L_s_NullLines_0 (fu : Nat) (p : Int) (colour : Int) (a : Int × Int) : Nat → (List Int) → Nat → Int → Option ((Nat × List Int) × Int)
  | 0, _, _, _ => none
  | f + 1, l20, m20, i => B_s_NullLines_0 p colour a (L_s_NullLines_0 fu p colour a f) l20 m20 i
theorem loop_s_NullLines_0 (fu : Nat) (p : Int) (colour : Int) (a : Int × Int) : ∀ (f : Nat) (l20 : List Int) (m20 : Nat) (i : Int), X_s_NullLines_0 Try.prog fu p colour a f l20 m20 i = L_s_NullLines_0 fu p colour a f l20 m20 i := by
  intro f
  induction f with
  | zero => intros; rfl
  | succ f ih =>
    intro l20 m20 i
    have h1 : X_s_NullLines_0 Try.prog fu p colour a (f + 1) l20 m20 i = B_s_NullLines_0 p colour a (X_s_NullLines_0 Try.prog fu p colour a f) l20 m20 i := by kernel_rfl
    have h2 : X_s_NullLines_0 Try.prog fu p colour a f = L_s_NullLines_0 fu p colour a f := by funext l20 m20 i; exact ih l20 m20 i
    rw [h1, h2]
    rfl
def G_s_NullLines (p : Int) (colour : Int) (a : Int × Int) (lo0 : (List Int) → Nat → Int → Option ((Nat × List Int) × Int)) : Option ((Nat × List Int) × Int) :=
  (if ((s_l02Code p colour 1 [a.1, a.2]) != 0) = true then some ((0, []), (s_l02Code p colour 1 [a.1, a.2])) else lo0 [] 0 (-1))
def Fo_s_NullLines (fu : Nat) (p : Int) (colour : Int) (a : Int × Int) : Option ((Nat × List Int) × Int) := G_s_NullLines p colour a (L_s_NullLines_0 fu p colour a (fu + 100))
theorem eqg_s_NullLines (fu : Nat) (p : Int) (colour : Int) (a : Int × Int) : execT Try.prog S_s_NullLines 107 54 (fun _ => fu + 100) dec_l32_3_i [.v (.int .i64 p), .v (.int .i64 colour), .v (.agg ⟨[.int .i64 a.1, .int .i64 a.2]⟩)] = G_s_NullLines p colour a (L_s_NullLines_0 fu p colour a (fu + 100)) := by
  have h1 : execT Try.prog S_s_NullLines 107 54 (fun _ => fu + 100) dec_l32_3_i [.v (.int .i64 p), .v (.int .i64 colour), .v (.agg ⟨[.int .i64 a.1, .int .i64 a.2]⟩)] = G_s_NullLines p colour a (X_s_NullLines_0 Try.prog fu p colour a (fu + 100)) := by kernel_rfl
  have c0 : X_s_NullLines_0 Try.prog fu p colour a (fu + 100) = L_s_NullLines_0 fu p colour a (fu + 100) := by funext l20 m20 i; exact loop_s_NullLines_0 fu p colour a (fu + 100) l20 m20 i
  rw [h1, c0]
theorem eq_s_NullLines (fu : Nat) (p : Int) (colour : Int) (a : Int × Int) : execT Try.prog S_s_NullLines 107 54 (fun _ => fu + 100) dec_l32_3_i [.v (.int .i64 p), .v (.int .i64 colour), .v (.agg ⟨[.int .i64 a.1, .int .i64 a.2]⟩)] = Fo_s_NullLines fu p colour a := eqg_s_NullLines fu p colour a
def nullsL (p colour : Int) (a : P2) : List P3 := (((s_l01Normal p 0 1 (wI (0 - a.2))) :: (List.range p.toNat).map fun k : Nat => s_l01Normal p 1 (k : Int) (wI (0 - (wI (a.1 + (wI ((k : Int) * a.2)))))))).filter fun zz => s_l02Perpendicular p colour zz zz
def s_NullLines (p colour : Int) (a : P2) : (Nat × List Int) × Int := if ((s_l02Code p colour 1 [a.1, a.2]) != 0) = true then ((0, []), (s_l02Code p colour 1 [a.1, a.2])) else (((nullsL p colour a).length, flat3 (nullsL p colour a)), 0)
theorem nulls_len (p colour : Int) (a : P2) : (s_NullLines p colour a).1.2.length = 3 * (s_NullLines p colour a).1.1 := by
  unfold s_NullLines
  split
  · rfl
  · exact flat3_len _
theorem nulls_go {p : Int} (hp : prB p = true) (colour : Int) (a : P2) {F m : Nat} {l : List Int} (hF : p.toNat < F) (hm : m ≤ 1) : L_s_NullLines_0 1000000 p colour a F l m 0 = some ((m + (((List.range p.toNat).map fun k : Nat => s_l01Normal p 1 (k : Int) (wI (0 - (wI (a.1 + (wI ((k : Int) * a.2))))))).filter fun zz => s_l02Perpendicular p colour zz zz).length, l ++ flat3 (((List.range p.toNat).map fun k : Nat => s_l01Normal p 1 (k : Int) (wI (0 - (wI (a.1 + (wI ((k : Int) * a.2))))))).filter fun zz => s_l02Perpendicular p colour zz zz)), 0) := by
  obtain ⟨h1, h0, hpn⟩ := prB_nat hp
  have hg : ((List.range p.toNat).flatMap fun k : Nat => if s_l02Perpendicular p colour (s_l01Normal p 1 (k : Int) (wI (0 - (wI (a.1 + (wI ((k : Int) * a.2))))))) (s_l01Normal p 1 (k : Int) (wI (0 - (wI (a.1 + (wI ((k : Int) * a.2))))))) = true then [s_l01Normal p 1 (k : Int) (wI (0 - (wI (a.1 + (wI ((k : Int) * a.2))))))] else []) = (((List.range p.toNat).map fun k : Nat => s_l01Normal p 1 (k : Int) (wI (0 - (wI (a.1 + (wI ((k : Int) * a.2))))))).filter fun zz => s_l02Perpendicular p colour zz zz) := by
    rw [← filter_flat, List.flatMap_map]
  rw [← hg]
  refine gather (flat := flat3) flat3_app rfl (L := fun f l m i => L_s_NullLines_0 1000000 p colour a f l m i) (n := p.toNat) (b := 1) (M := 1) (fun k : Nat => if s_l02Perpendicular p colour (s_l01Normal p 1 (k : Int) (wI (0 - (wI (a.1 + (wI ((k : Int) * a.2))))))) (s_l01Normal p 1 (k : Int) (wI (0 - (wI (a.1 + (wI ((k : Int) * a.2))))))) = true then [s_l01Normal p 1 (k : Int) (wI (0 - (wI (a.1 + (wI ((k : Int) * a.2))))))] else []) (F := F) (by intro k hk; split <;> simp)
    (fun f k l m hk hm => by
      show B_s_NullLines_0 p colour a (L_s_NullLines_0 1000000 p colour a f) l m (k : Int) = _
      unfold B_s_NullLines_0
      have e2 : decide ((k : Int) ≥ 0) = true := by simp
      have e6 : (Nat.ble 1 1 && Nat.ble (m + 1) 1000000 && Nat.beq 3 3) = true := by simp; omega
      simp only [cndp hk, hp, e2, e6, if_true, wrap_add1 hk (by omega)]
      generalize s_l01Normal p 1 (k : Int) (wI (0 - (wI (a.1 + (wI ((k : Int) * a.2)))))) = Z
      cases s_l02Perpendicular p colour Z Z
      · simp only [Bool.false_eq_true, if_false]
        rw [show flat3 [] = [] from rfl, List.append_nil]
        rfl
      · simp only [if_true]
        rfl)
    (fun f hm => by
      show B_s_NullLines_0 p colour a (L_s_NullLines_0 1000000 p colour a f) _ _ ((p.toNat : Nat) : Int) = _
      unfold B_s_NullLines_0
      rw [if_neg (by simp; omega)]) hF hm
theorem tot_s_NullLines (p : Int) (colour : Int) (a : Int × Int) : Fo_s_NullLines 1000000 p colour a = some (s_NullLines p colour a) := by
  unfold Fo_s_NullLines G_s_NullLines s_NullLines
  refine ite_opt (fun _ => rfl) (fun hc => ?_)
  have hp : prB p = true := l02Code_prB hc
  obtain ⟨h1, h0, hpn⟩ := prB_nat hp
  show B_s_NullLines_0 p colour a (L_s_NullLines_0 1000000 p colour a _) [] 0 (-1) = _
  unfold B_s_NullLines_0
  have e1 : decide ((-1 : Int) < p) = true := by simp; omega
  have e2 : decide ((-1 : Int) ≥ 0) = false := by decide
  have e3 : (Nat.ble 1 1 && Nat.ble (0 + 1) 1000000 && Nat.beq 3 3) = true := rfl
  have e4 : wI (-1 + 1) = 0 := by rw [wI_eq]; unfold wrap64; omega
  simp only [e1, hp, e2, e3, e4, if_true, Bool.false_eq_true, if_false]
  unfold nullsL
  rw [List.filter_cons]
  cases hq : s_l02Perpendicular p colour (s_l01Normal p 0 1 (wI (0 - a.2))) (s_l01Normal p 0 1 (wI (0 - a.2)))
  · simp only [Bool.false_eq_true, if_false]
    rw [nulls_go hp colour a (by omega) (by omega)]
    simp
  · simp only [if_true]
    rw [nulls_go hp colour a (by omega) (by omega), List.length_cons, Nat.add_comm]
    rfl
def run_s_NullLines : List PV → Option (Bool × List TR)
  | [.v (.int .i64 p), .v (.int .i64 colour), .v (.agg ⟨[.int .i64 a0, .int .i64 a1]⟩)] => some (true, enc_l32_3_i (s_NullLines p colour (a0, a1)))
  | _ => none
theorem sound_s_NullLines : Sound Try.prog 107 run_s_NullLines := by
  refine sound_of de_l32_3_i SO_s_NullLines (by kernel_rfl) Try.func107 Try.ntmps107 rfl (by kernel_rfl) ?_
  intro W pvs avs rs hargs hrun
  unfold run_s_NullLines at hrun
  split at hrun
  · simp only [Option.some.injEq, Prod.mk.injEq] at hrun
    obtain ⟨hp, rfl⟩ := hrun
    rename_i p colour a0 a1
    exact ⟨_, _, _, hargs, rfl, (eq_s_NullLines _ p colour (a0, a1)).trans (tot_s_NullLines p colour (a0, a1))⟩
  · cases hrun


end

end Go.Proofs.Ytpopgdmnajngjaa
