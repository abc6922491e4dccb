import Derived.Test.YtnijajjdldijpaaFa
import Derived.Test.YtnijajjdldijpaaProg
set_option linter.unusedSimpArgs false
set_option linter.unusedVariables false
namespace Go.Proofs.Ytnijajjdldijpaa
open Go.RowKit
noncomputable section
def S_l_big : Sums := ⟨tblS [], tblM []⟩
theorem SO_l_big : SumsOK Try.prog S_l_big := ⟨tblS_ok True.intro, tblM_ok True.intro⟩
def Fo_l_big (coden : Nat) (codel : List Int) : Option (Bool) :=
  some (decide (((coden : Nat) : Int) > 4096))
theorem eq_l_big (coden : Nat) (codel : List Int) : execT Try.prog S_l_big 5 6 (fun _ => 1000000) dec_b [.s coden (.byts codel)] = Fo_l_big coden codel := by
  kernel_rfl
def l_big (coden : Nat) (codel : List Int) : Bool :=
  decide (((coden : Nat) : Int) > 4096)
theorem tot_l_big (coden : Nat) (codel : List Int) : Fo_l_big coden codel = some (l_big coden codel) := by
  unfold Fo_l_big l_big
  (try simp only [wI_eq])
  repeat' (first | with_reducible rfl | refine ite_opt (fun _ => ?_) (fun _ => ?_) | rfl)
def run_l_big : List PV → Option (Bool × List TR)
  | [.s coden (.byts codel)] => some (true, enc_b (l_big coden codel))
  | _ => none
theorem sound_l_big : Sound Try.prog 5 run_l_big := by
  refine sound_of de_b SO_l_big (by kernel_rfl) Try.func5 Try.ntmps5 rfl (by kernel_rfl) ?_
  intro W pvs avs rs hargs hrun
  unfold run_l_big at hrun
  split at hrun
  · simp only [Option.some.injEq, Prod.mk.injEq] at hrun
    obtain ⟨hp, rfl⟩ := hrun
    rename_i coden codel
    exact ⟨_, _, _, hargs, rfl, (eq_l_big coden codel).trans (tot_l_big coden codel)⟩
  · cases hrun

def S_l_sum : Sums := ⟨tblS [], tblM []⟩
theorem SO_l_sum : SumsOK Try.prog S_l_sum := ⟨tblS_ok True.intro, tblM_ok True.intro⟩
def T_l_sum_0 (listn : Nat) (listl : List Int) (j_n : Int) (i : Int) : Tab := ⟨[.row 0, .junk, .val (.int .i64 0), .val (.int .i64 j_n), .val (.int .i64 i), .junk, .junk, .junk, .junk, .junk, .junk, .junk, .junk, .junk, .junk, .junk, .junk, .junk], [(0, .ros listn (.ints listl))]⟩
def X_l_sum_0 (P : Program) (fu : Nat) (listn : Nat) (listl : List Int) (f : Nat) (j_n : Int) (i : Int) : Option (Int) := loopK (exec P S_l_sum 18 (fun _ => fu + 100) (Code.sub [1, 1, 0, 1, 0, 0] (bodyF P 34))) f (T_l_sum_0 listn listl j_n i) (kBlock 0 (kSeq (fun s => exec P S_l_sum 18 (fun _ => fu + 100) (Code.sub [1, 1, 1] (bodyF P 34)) s (finT P 34 dec_i)) (finT P 34 dec_i)))
def B_l_sum_0 (listn : Nat) (listl : List Int) (rec0 : Int → Int → Option (Int)) (j_n : Int) (i : Int) : Option (Int) :=
  (if (decide (i < ((listn : Nat) : Int))) = true then (if (decide (0 ≤ i) && decide (i < ((listn : Nat) : Int))) = true then (if (Nat.ble (i.toNat * 1 + 1) listl.length) = true then rec0 (wI (j_n + (listl.getD (i.toNat * 1) 0))) (wI (i + 1)) else none) else none) else some j_n)
def L_l_sum_0 (fu : Nat) (listn : Nat) (listl : List Int) : Nat → Int → Int → Option (Int)
  | 0, _, _ => none
  | f + 1, j_n, i => B_l_sum_0 listn listl (L_l_sum_0 fu listn listl f) j_n i
theorem loop_l_sum_0 (fu : Nat) (listn : Nat) (listl : List Int) : ∀ (f : Nat) (j_n : Int) (i : Int), X_l_sum_0 Try.prog fu listn listl f j_n i = L_l_sum_0 fu listn listl f j_n i := by
  intro f
  induction f with
  | zero => intros; rfl
  | succ f ih =>
    intro j_n i
    have h1 : X_l_sum_0 Try.prog fu listn listl (f + 1) j_n i = B_l_sum_0 listn listl (X_l_sum_0 Try.prog fu listn listl f) j_n i := by kernel_rfl
    have h2 : X_l_sum_0 Try.prog fu listn listl f = L_l_sum_0 fu listn listl f := by funext j_n i; exact ih j_n i
    rw [h1, h2]
    rfl
def G_l_sum (listn : Nat) (listl : List Int) (lo0 : Int → Int → Option (Int)) : Option (Int) :=
  lo0 0 0
def Fo_l_sum (fu : Nat) (listn : Nat) (listl : List Int) : Option (Int) := G_l_sum listn listl (L_l_sum_0 fu listn listl (fu + 100))
theorem eqg_l_sum (fu : Nat) (listn : Nat) (listl : List Int) : execT Try.prog S_l_sum 34 18 (fun _ => fu + 100) dec_i [.s listn (.ints listl)] = G_l_sum listn listl (L_l_sum_0 fu listn listl (fu + 100)) := by
  have h1 : execT Try.prog S_l_sum 34 18 (fun _ => fu + 100) dec_i [.s listn (.ints listl)] = G_l_sum listn listl (X_l_sum_0 Try.prog fu listn listl (fu + 100)) := by kernel_rfl
  have c0 : X_l_sum_0 Try.prog fu listn listl (fu + 100) = L_l_sum_0 fu listn listl (fu + 100) := by funext j_n i; exact loop_l_sum_0 fu listn listl (fu + 100) j_n i
  rw [h1, c0]
theorem eq_l_sum (fu : Nat) (listn : Nat) (listl : List Int) : execT Try.prog S_l_sum 34 18 (fun _ => fu + 100) dec_i [.s listn (.ints listl)] = Fo_l_sum fu listn listl := eqg_l_sum fu listn listl
def l_sum (listn : Nat) (listl : List Int) : Int := listl.foldl (fun s x => wI (s + x)) 0
theorem tot_l_sum (listn : Nat) (listl : List Int) (hp : (lenB listn 1 listl) = true) : Fo_l_sum listn listn listl = some (l_sum listn listl) := by
  obtain ⟨hl, hn⟩ := lenB_ok hp
  rw [Nat.one_mul] at hl
  unfold Fo_l_sum G_l_sum l_sum
  have h := upto (L := fun f (s : Int) i => L_l_sum_0 listn listn listl f s i) (n := listn) (fun _ _ => True) (fun s k => wI (s + listl.getD (k * 1) 0)) (K := fun s => some s)
    (fun f k s hk _ => by
      show B_l_sum_0 listn listl (L_l_sum_0 listn listn listl f) s (k : Int) = _
      unfold B_l_sum_0
      rw [if_pos (cnd hk), if_pos (cnd2 hk), Int.toNat_natCast, if_pos (row1_ok hl hk), wrap_add1 hk (by omega)])
    (fun _ _ _ _ => True.intro)
    (fun f s _ => by
      show B_l_sum_0 listn listl _ s ((listn : Nat) : Int) = _
      unfold B_l_sum_0
      rw [if_neg (by simp)]) (F := listn + 100) (s := 0) (by omega) True.intro
  refine h.trans ?_
  congr 1
  have e : listl = (List.range listn).map fun k => listl.getD (k * 1) 0 := by
    subst hl
    apply List.ext_getElem (by simp)
    intro i h1 h2
    simp [List.getD_eq_getElem?_getD, h1]
  conv => rhs; rw [e, List.foldl_map]
def run_l_sum : List PV → Option (Bool × List TR)
  | [.s listn (.ints listl)] => some (lenB listn 1 listl, enc_i (l_sum listn listl))
  | _ => none
theorem sound_l_sum : Sound Try.prog 34 run_l_sum := by
  refine sound_of de_i SO_l_sum (by kernel_rfl) Try.func34 Try.ntmps34 rfl (by kernel_rfl) ?_
  intro W pvs avs rs hargs hrun
  unfold run_l_sum at hrun
  split at hrun
  · simp only [Option.some.injEq, Prod.mk.injEq] at hrun
    obtain ⟨hp, rfl⟩ := hrun
    rename_i listn listl
    exact ⟨_, _, _, hargs, rfl, (eq_l_sum _ listn listl).trans (tot_l_sum listn listl hp)⟩
  · cases hrun

def S_l_likeInts : Sums := ⟨tblS [], tblM []⟩
theorem SO_l_likeInts : SumsOK Try.prog S_l_likeInts := ⟨tblS_ok True.intro, tblM_ok True.intro⟩
def T_l_likeInts_0 (an : Nat) (al : List Int) (bn : Nat) (bl : List Int) (i : Int) : Tab := ⟨[.row 0, .row 4, .junk, .junk, .val (.bool false), .val (.int .i64 i), .row 0, .val (.int .i64 ((an : Nat) : Int)), .row 4, .val (.int .i64 ((bn : Nat) : Int)), .val (.bool (((an : Nat) : Int) != ((bn : Nat) : Int))), .junk, .junk, .junk, .junk, .junk, .junk, .junk, .junk, .junk, .junk, .junk, .junk, .junk, .junk, .junk], [(0, .ros an (.ints al)), (4, .ros bn (.ints bl))]⟩
def X_l_likeInts_0 (P : Program) (fu : Nat) (an : Nat) (al : List Int) (bn : Nat) (bl : List Int) (f : Nat) (i : Int) : Option (Bool) := loopK (exec P S_l_likeInts 26 (fun _ => fu + 100) (Code.sub [1, 1, 0, 1, 0, 0] (bodyF P 32))) f (T_l_likeInts_0 an al bn bl i) (kBlock 0 (kSeq (fun s => exec P S_l_likeInts 26 (fun _ => fu + 100) (Code.sub [1, 1, 1] (bodyF P 32)) s (finT P 32 dec_b)) (finT P 32 dec_b)))
def B_l_likeInts_0 (an : Nat) (al : List Int) (bn : Nat) (bl : List Int) (rec0 : Int → Option (Bool)) (i : Int) : Option (Bool) :=
  (if (decide (i < ((an : Nat) : Int))) = true then (if (decide (0 ≤ i) && decide (i < ((an : Nat) : Int))) = true then (if (Nat.ble (i.toNat * 1 + 1) al.length) = true then (if (decide (0 ≤ i) && decide (i < ((bn : Nat) : Int))) = true then (if (Nat.ble (i.toNat * 1 + 1) bl.length) = true then (if ((al.getD (i.toNat * 1) 0) != (bl.getD (i.toNat * 1) 0)) = true then some false else rec0 (wI (i + 1))) else none) else none) else none) else none) else some true)
def L_l_likeInts_0 (fu : Nat) (an : Nat) (al : List Int) (bn : Nat) (bl : List Int) : Nat → Int → Option (Bool)
  | 0, _ => none
  | f + 1, i => B_l_likeInts_0 an al bn bl (L_l_likeInts_0 fu an al bn bl f) i
theorem loop_l_likeInts_0 (fu : Nat) (an : Nat) (al : List Int) (bn : Nat) (bl : List Int) : ∀ (f : Nat) (i : Int), X_l_likeInts_0 Try.prog fu an al bn bl f i = L_l_likeInts_0 fu an al bn bl f i := by
  intro f
  induction f with
  | zero => intros; rfl
  | succ f ih =>
    intro i
    have h1 : X_l_likeInts_0 Try.prog fu an al bn bl (f + 1) i = B_l_likeInts_0 an al bn bl (X_l_likeInts_0 Try.prog fu an al bn bl f) i := by kernel_rfl
    have h2 : X_l_likeInts_0 Try.prog fu an al bn bl f = L_l_likeInts_0 fu an al bn bl f := by funext i; exact ih i
    rw [h1, h2]
    rfl
def G_l_likeInts (an : Nat) (al : List Int) (bn : Nat) (bl : List Int) (lo0 : Int → Option (Bool)) : Option (Bool) :=
  (if (((an : Nat) : Int) != ((bn : Nat) : Int)) = true then some false else lo0 0)
def Fo_l_likeInts (fu : Nat) (an : Nat) (al : List Int) (bn : Nat) (bl : List Int) : Option (Bool) := G_l_likeInts an al bn bl (L_l_likeInts_0 fu an al bn bl (fu + 100))
theorem eqg_l_likeInts (fu : Nat) (an : Nat) (al : List Int) (bn : Nat) (bl : List Int) : execT Try.prog S_l_likeInts 32 26 (fun _ => fu + 100) dec_b [.s an (.ints al), .s bn (.ints bl)] = G_l_likeInts an al bn bl (L_l_likeInts_0 fu an al bn bl (fu + 100)) := by
  have h1 : execT Try.prog S_l_likeInts 32 26 (fun _ => fu + 100) dec_b [.s an (.ints al), .s bn (.ints bl)] = G_l_likeInts an al bn bl (X_l_likeInts_0 Try.prog fu an al bn bl (fu + 100)) := by kernel_rfl
  have c0 : X_l_likeInts_0 Try.prog fu an al bn bl (fu + 100) = L_l_likeInts_0 fu an al bn bl (fu + 100) := by funext i; exact loop_l_likeInts_0 fu an al bn bl (fu + 100) i
  rw [h1, c0]
theorem eq_l_likeInts (fu : Nat) (an : Nat) (al : List Int) (bn : Nat) (bl : List Int) : execT Try.prog S_l_likeInts 32 26 (fun _ => fu + 100) dec_b [.s an (.ints al), .s bn (.ints bl)] = Fo_l_likeInts fu an al bn bl := eqg_l_likeInts fu an al bn bl
def l_likeInts (an : Nat) (al : List Int) (bn : Nat) (bl : List Int) : Bool := al == bl
theorem go_l_likeInts (fu an : Nat) (al : List Int) (bl : List Int) (hn : an ≤ 100000000000) (hl : al.length = 1 * an) (hm : bl.length = 1 * an) : ∀ (m j F : Nat), j + m = an → m < F → (∀ t : Nat, t < 1 * j → al.getD t 0 = bl.getD t 0) → L_l_likeInts_0 fu an al an bl F (j : Int) = some (al == bl)
  | m, j, 0, _, h, _ => absurd h (Nat.not_lt_zero m)
  | 0, j, F + 1, hj, _, hp => by
    obtain rfl : j = an := by omega
    show B_l_likeInts_0 j al j bl _ (j : Int) = _
    unfold B_l_likeInts_0
    have e : al = bl := list_of_getD (by omega) fun t ht => hp t (by omega)
    rw [if_neg (by simp), e]
    simp
  | m + 1, j, F + 1, hj, hF, hp => by
    show B_l_likeInts_0 an al an bl (L_l_likeInts_0 fu an al an bl F) (j : Int) = _
    unfold B_l_likeInts_0
    have e1 : decide ((j : Int) < ((an : Nat) : Int)) = true := by simp; omega
    have e2 : (decide (0 ≤ (j : Int)) && decide ((j : Int) < ((an : Nat) : Int))) = true := by simp; omega
    have e3 : (j : Int).toNat = j := Int.toNat_natCast j
    have a0 : wrap64 ((j : Int) + 1) = ((j + 1 : Nat) : Int) := by rw [wrapS (by omega)]; omega
    simp only [e3, wI_eq, a0]
    rw [if_pos e1, if_pos e2, if_pos (leb (by rw [hl]; omega)), if_pos e2, if_pos (leb (by rw [hm]; omega))]
    by_cases c : al.getD (j * 1) 0 = bl.getD (j * 1) 0
    rotate_left
    · rw [if_pos (by simpa using c)]
      congr 1
      symm
      rw [beq_eq_false_iff_ne]
      rintro rfl
      exact c rfl
    rw [if_neg (by simpa using c)]
    refine go_l_likeInts fu an al bl hn hl hm m (j + 1) F (by omega) (by omega) fun t ht => ?_
    by_cases ht' : t < 1 * j
    · exact hp t ht'
    · obtain rfl : t = j * 1 := by omega
      exact c
theorem tot_l_likeInts (an : Nat) (al : List Int) (bn : Nat) (bl : List Int) (hp : (lenB an 1 al && lenB bn 1 bl) = true) : Fo_l_likeInts an an al bn bl = some (l_likeInts an al bn bl) := by
  simp only [Bool.and_eq_true] at hp
  obtain ⟨hl, hn⟩ := lenB_ok hp.1
  obtain ⟨hm, _⟩ := lenB_ok hp.2
  unfold Fo_l_likeInts G_l_likeInts l_likeInts
  by_cases e : an = bn
  · subst e
    rw [if_neg (by simp)]
    exact go_l_likeInts an an al bl hn hl hm an 0 (an + 100) (by omega) (by omega) (fun t ht => by omega)
  · rw [if_pos (by simp; omega)]
    congr 1
    symm
    rw [beq_eq_false_iff_ne]
    rintro rfl
    omega
def run_l_likeInts : List PV → Option (Bool × List TR)
  | [.s an (.ints al), .s bn (.ints bl)] => some (lenB an 1 al && lenB bn 1 bl, enc_b (l_likeInts an al bn bl))
  | _ => none
theorem sound_l_likeInts : Sound Try.prog 32 run_l_likeInts := by
  refine sound_of de_b SO_l_likeInts (by kernel_rfl) Try.func32 Try.ntmps32 rfl (by kernel_rfl) ?_
  intro W pvs avs rs hargs hrun
  unfold run_l_likeInts at hrun
  split at hrun
  · simp only [Option.some.injEq, Prod.mk.injEq] at hrun
    obtain ⟨hp, rfl⟩ := hrun
    rename_i an al bn bl
    exact ⟨_, _, _, hargs, rfl, (eq_l_likeInts _ an al bn bl).trans (tot_l_likeInts an al bn bl hp)⟩
  · cases hrun

def S_l_places5 : Sums := ⟨tblS [], tblM []⟩
theorem SO_l_places5 : SumsOK Try.prog S_l_places5 := ⟨tblS_ok True.intro, tblM_ok True.intro⟩
def T_l_places5_0 (an : Nat) (al : List Int) (bn : Nat) (bl : List Int) (i : Int) : Tab := ⟨[.row 0, .row 4, .junk, .junk, .val (.bool false), .val (.int .i64 i), .row 0, .val (.int .i64 ((an : Nat) : Int)), .row 4, .val (.int .i64 ((bn : Nat) : Int)), .val (.bool (((an : Nat) : Int) != ((bn : Nat) : Int))), .junk, .junk, .junk, .junk, .junk, .junk, .junk, .junk, .junk, .junk, .junk, .junk, .junk, .junk, .junk], [(0, .ros an (.ints al)), (4, .ros bn (.ints bl))]⟩
def X_l_places5_0 (P : Program) (fu : Nat) (an : Nat) (al : List Int) (bn : Nat) (bl : List Int) (f : Nat) (i : Int) : Option (Bool) := loopK (exec P S_l_places5 26 (fun _ => fu + 100) (Code.sub [1, 1, 0, 1, 0, 0] (bodyF P 18))) f (T_l_places5_0 an al bn bl i) (kBlock 0 (kSeq (fun s => exec P S_l_places5 26 (fun _ => fu + 100) (Code.sub [1, 1, 1] (bodyF P 18)) s (finT P 18 dec_b)) (finT P 18 dec_b)))
def B_l_places5_0 (an : Nat) (al : List Int) (bn : Nat) (bl : List Int) (rec0 : Int → Option (Bool)) (i : Int) : Option (Bool) :=
  (if (decide (i < ((an : Nat) : Int))) = true then (if (decide (0 ≤ i) && decide (i < ((an : Nat) : Int))) = true then (if (Nat.ble (i.toNat * 3 + 3) al.length) = true then (if (decide (0 ≤ i) && decide (i < ((bn : Nat) : Int))) = true then (if (Nat.ble (i.toNat * 3 + 3) bl.length) = true then (if (!((al.getD (i.toNat * 3 + 0) 0, al.getD (i.toNat * 3 + 1) 0, al.getD (i.toNat * 3 + 2) 0) == (bl.getD (i.toNat * 3 + 0) 0, bl.getD (i.toNat * 3 + 1) 0, bl.getD (i.toNat * 3 + 2) 0))) = true then some false else rec0 (wI (i + 1))) else none) else none) else none) else none) else some true)
def L_l_places5_0 (fu : Nat) (an : Nat) (al : List Int) (bn : Nat) (bl : List Int) : Nat → Int → Option (Bool)
  | 0, _ => none
  | f + 1, i => B_l_places5_0 an al bn bl (L_l_places5_0 fu an al bn bl f) i
theorem loop_l_places5_0 (fu : Nat) (an : Nat) (al : List Int) (bn : Nat) (bl : List Int) : ∀ (f : Nat) (i : Int), X_l_places5_0 Try.prog fu an al bn bl f i = L_l_places5_0 fu an al bn bl f i := by
  intro f
  induction f with
  | zero => intros; rfl
  | succ f ih =>
    intro i
    have h1 : X_l_places5_0 Try.prog fu an al bn bl (f + 1) i = B_l_places5_0 an al bn bl (X_l_places5_0 Try.prog fu an al bn bl f) i := by kernel_rfl
    have h2 : X_l_places5_0 Try.prog fu an al bn bl f = L_l_places5_0 fu an al bn bl f := by funext i; exact ih i
    rw [h1, h2]
    rfl
def G_l_places5 (an : Nat) (al : List Int) (bn : Nat) (bl : List Int) (lo0 : Int → Option (Bool)) : Option (Bool) :=
  (if (((an : Nat) : Int) != ((bn : Nat) : Int)) = true then some false else lo0 0)
def Fo_l_places5 (fu : Nat) (an : Nat) (al : List Int) (bn : Nat) (bl : List Int) : Option (Bool) := G_l_places5 an al bn bl (L_l_places5_0 fu an al bn bl (fu + 100))
theorem eqg_l_places5 (fu : Nat) (an : Nat) (al : List Int) (bn : Nat) (bl : List Int) : execT Try.prog S_l_places5 18 26 (fun _ => fu + 100) dec_b [.s an (.ints al), .s bn (.ints bl)] = G_l_places5 an al bn bl (L_l_places5_0 fu an al bn bl (fu + 100)) := by
  have h1 : execT Try.prog S_l_places5 18 26 (fun _ => fu + 100) dec_b [.s an (.ints al), .s bn (.ints bl)] = G_l_places5 an al bn bl (X_l_places5_0 Try.prog fu an al bn bl (fu + 100)) := by kernel_rfl
  have c0 : X_l_places5_0 Try.prog fu an al bn bl (fu + 100) = L_l_places5_0 fu an al bn bl (fu + 100) := by funext i; exact loop_l_places5_0 fu an al bn bl (fu + 100) i
  rw [h1, c0]
theorem eq_l_places5 (fu : Nat) (an : Nat) (al : List Int) (bn : Nat) (bl : List Int) : execT Try.prog S_l_places5 18 26 (fun _ => fu + 100) dec_b [.s an (.ints al), .s bn (.ints bl)] = Fo_l_places5 fu an al bn bl := eqg_l_places5 fu an al bn bl
def l_places5 (an : Nat) (al : List Int) (bn : Nat) (bl : List Int) : Bool := al == bl
theorem go_l_places5 (fu an : Nat) (al : List Int) (bl : List Int) (hn : an ≤ 100000000000) (hl : al.length = 3 * an) (hm : bl.length = 3 * an) : ∀ (m j F : Nat), j + m = an → m < F → (∀ t : Nat, t < 3 * j → al.getD t 0 = bl.getD t 0) → L_l_places5_0 fu an al an bl F (j : Int) = some (al == bl)
  | m, j, 0, _, h, _ => absurd h (Nat.not_lt_zero m)
  | 0, j, F + 1, hj, _, hp => by
    obtain rfl : j = an := by omega
    show B_l_places5_0 j al j bl _ (j : Int) = _
    unfold B_l_places5_0
    have e : al = bl := list_of_getD (by omega) fun t ht => hp t (by omega)
    rw [if_neg (by simp), e]
    simp
  | m + 1, j, F + 1, hj, hF, hp => by
    show B_l_places5_0 an al an bl (L_l_places5_0 fu an al an bl F) (j : Int) = _
    unfold B_l_places5_0
    have e1 : decide ((j : Int) < ((an : Nat) : Int)) = true := by simp; omega
    have e2 : (decide (0 ≤ (j : Int)) && decide ((j : Int) < ((an : Nat) : Int))) = true := by simp; omega
    have e3 : (j : Int).toNat = j := Int.toNat_natCast j
    have a0 : wrap64 ((j : Int) + 1) = ((j + 1 : Nat) : Int) := by rw [wrapS (by omega)]; omega
    simp only [e3, wI_eq, a0]
    rw [if_pos e1, if_pos e2, if_pos (leb (by rw [hl]; omega)), if_pos e2, if_pos (leb (by rw [hm]; omega))]
    by_cases c : (al.getD (j * 3 + 0) 0, al.getD (j * 3 + 1) 0, al.getD (j * 3 + 2) 0) = (bl.getD (j * 3 + 0) 0, bl.getD (j * 3 + 1) 0, bl.getD (j * 3 + 2) 0)
    rotate_left
    · rw [if_pos (by rw [beq_eq_false_iff_ne.2 c]; rfl)]
      congr 1
      symm
      rw [beq_eq_false_iff_ne]
      rintro rfl
      exact c rfl
    rw [if_neg (by rw [beq_iff_eq.2 c]; decide)]
    refine go_l_places5 fu an al bl hn hl hm m (j + 1) F (by omega) (by omega) fun t ht => ?_
    by_cases ht' : t < 3 * j
    · exact hp t ht'
    · simp only [Prod.mk.injEq] at c
      obtain rfl | rfl | rfl : t = j * 3 + 0 ∨ t = j * 3 + 1 ∨ t = j * 3 + 2 := by omega
      · exact c.1
      · exact c.2.1
      · exact c.2.2
theorem tot_l_places5 (an : Nat) (al : List Int) (bn : Nat) (bl : List Int) (hp : (lenB an 3 al && lenB bn 3 bl) = true) : Fo_l_places5 an an al bn bl = some (l_places5 an al bn bl) := by
  simp only [Bool.and_eq_true] at hp
  obtain ⟨hl, hn⟩ := lenB_ok hp.1
  obtain ⟨hm, _⟩ := lenB_ok hp.2
  unfold Fo_l_places5 G_l_places5 l_places5
  by_cases e : an = bn
  · subst e
    rw [if_neg (by simp)]
    exact go_l_places5 an an al bl hn hl hm an 0 (an + 100) (by omega) (by omega) (fun t ht => by omega)
  · rw [if_pos (by simp; omega)]
    congr 1
    symm
    rw [beq_eq_false_iff_ne]
    rintro rfl
    omega
def run_l_places5 : List PV → Option (Bool × List TR)
  | [.s an (.ints al), .s bn (.ints bl)] => some (lenB an 3 al && lenB bn 3 bl, enc_b (l_places5 an al bn bl))
  | _ => none
theorem sound_l_places5 : Sound Try.prog 18 run_l_places5 := by
  refine sound_of de_b SO_l_places5 (by kernel_rfl) Try.func18 Try.ntmps18 rfl (by kernel_rfl) ?_
  intro W pvs avs rs hargs hrun
  unfold run_l_places5 at hrun
  split at hrun
  · simp only [Option.some.injEq, Prod.mk.injEq] at hrun
    obtain ⟨hp, rfl⟩ := hrun
    rename_i an al bn bl
    exact ⟨_, _, _, hargs, rfl, (eq_l_places5 _ an al bn bl).trans (tot_l_places5 an al bn bl hp)⟩
  · cases hrun


end

end Go.Proofs.Ytnijajjdldijpaa
