import Derived.Test.YtjdpbaefonekmaaFa
import Derived.Test.YtjdpbaefonekmaaProg
set_option linter.unusedSimpArgs false
set_option linter.unusedVariables false
namespace Go.Proofs.Ytjdpbaefonekmaa
open Go.RowKit
noncomputable section
def S_l_big : Sums := ⟨tblS [], tblM []⟩
theorem SO_l_big : SumsOK Try.prog S_l_big := ⟨tblS_ok True.intro, tblM_ok True.intro⟩
def Fo_l_big (coden : Nat) (codel : List Int) : Option (Bool) :=
  some (decide (((coden : Nat) : Int) > 4096))
theorem eq_l_big (coden : Nat) (codel : List Int) : execT Try.prog S_l_big 4 6 (fun _ => 1000000) dec_b [.s coden (.byts codel)] = Fo_l_big coden codel := by
  kernel_rfl
def l_big (coden : Nat) (codel : List Int) : Bool :=
  decide (((coden : Nat) : Int) > 4096)
theorem tot_l_big (coden : Nat) (codel : List Int) : Fo_l_big coden codel = some (l_big coden codel) := by
  unfold Fo_l_big l_big
  (try simp only [wI_eq])
  repeat' (first | with_reducible rfl | refine ite_opt (fun _ => ?_) (fun _ => ?_) | rfl)
def run_l_big : List PV → Option (Bool × List TR)
  | [.s coden (.byts codel)] => some (true, enc_b (l_big coden codel))
  | _ => none
theorem sound_l_big : Sound Try.prog 4 run_l_big := by
  refine sound_of de_b SO_l_big (by kernel_rfl) Try.func4 Try.ntmps4 rfl (by kernel_rfl) ?_
  intro W pvs avs rs hargs hrun
  unfold run_l_big at hrun
  split at hrun
  · simp only [Option.some.injEq, Prod.mk.injEq] at hrun
    obtain ⟨hp, rfl⟩ := hrun
    rename_i coden codel
    exact ⟨_, _, _, hargs, rfl, (eq_l_big coden codel).trans (tot_l_big coden codel)⟩
  · cases hrun

def S_l_sum : Sums := ⟨tblS [], tblM []⟩
theorem SO_l_sum : SumsOK Try.prog S_l_sum := ⟨tblS_ok True.intro, tblM_ok True.intro⟩
def T_l_sum_0 (listn : Nat) (listl : List Int) (j_n : Int) (i : Int) : Tab := ⟨[.row 0, .junk, .val (.int .i64 0), .val (.int .i64 j_n), .val (.int .i64 i), .junk, .junk, .junk, .junk, .junk, .junk, .junk, .junk, .junk, .junk, .junk, .junk, .junk], [(0, .ros listn (.ints listl))]⟩
def X_l_sum_0 (P : Program) (fu : Nat) (listn : Nat) (listl : List Int) (f : Nat) (j_n : Int) (i : Int) : Option (Int) := loopK (exec P S_l_sum 18 (fun _ => fu + 100) (Code.sub [1, 1, 0, 1, 0, 0] (bodyF P 17))) f (T_l_sum_0 listn listl j_n i) (kBlock 0 (kSeq (fun zs9 => exec P S_l_sum 18 (fun _ => fu + 100) (Code.sub [1, 1, 1] (bodyF P 17)) zs9 (finT P 17 dec_i)) (finT P 17 dec_i)))
def B_l_sum_0 (listn : Nat) (listl : List Int) (rec0 : Int → Int → Option (Int)) (j_n : Int) (i : Int) : Option (Int) :=
  (if (decide (i < ((listn : Nat) : Int))) = true then (if (decide (0 ≤ i) && decide (i < ((listn : Nat) : Int))) = true then (if (Nat.ble (i.toNat * 1 + 1) listl.length) = true then rec0 (wI (j_n + (listl.getD (i.toNat * 1) 0))) (wI (i + 1)) else none) else none) else some j_n)
def L_l_sum_0 (fu : Nat) (listn : Nat) (listl : List Int) : Nat → Int → Int → Option (Int)
  | 0, _, _ => none
  | f + 1, j_n, i => B_l_sum_0 listn listl (L_l_sum_0 fu listn listl f) j_n i
theorem loop_l_sum_0 (fu : Nat) (listn : Nat) (listl : List Int) : ∀ (f : Nat) (j_n : Int) (i : Int), X_l_sum_0 Try.prog fu listn listl f j_n i = L_l_sum_0 fu listn listl f j_n i := by
  intro f
  induction f with
  | zero => intros; rfl
  | succ f ih =>
    intro j_n i
    have h1 : X_l_sum_0 Try.prog fu listn listl (f + 1) j_n i = B_l_sum_0 listn listl (X_l_sum_0 Try.prog fu listn listl f) j_n i := by kernel_rfl
    have h2 : X_l_sum_0 Try.prog fu listn listl f = L_l_sum_0 fu listn listl f := by funext j_n i; exact ih j_n i
    rw [h1, h2]
    rfl
def G_l_sum (listn : Nat) (listl : List Int) (lo0 : Int → Int → Option (Int)) : Option (Int) :=
  lo0 0 0
def Fo_l_sum (fu : Nat) (listn : Nat) (listl : List Int) : Option (Int) := G_l_sum listn listl (L_l_sum_0 fu listn listl (fu + 100))
theorem eqg_l_sum (fu : Nat) (listn : Nat) (listl : List Int) : execT Try.prog S_l_sum 17 18 (fun _ => fu + 100) dec_i [.s listn (.ints listl)] = G_l_sum listn listl (L_l_sum_0 fu listn listl (fu + 100)) := by
  have h1 : execT Try.prog S_l_sum 17 18 (fun _ => fu + 100) dec_i [.s listn (.ints listl)] = G_l_sum listn listl (X_l_sum_0 Try.prog fu listn listl (fu + 100)) := by kernel_rfl
  have c0 : X_l_sum_0 Try.prog fu listn listl (fu + 100) = L_l_sum_0 fu listn listl (fu + 100) := by funext j_n i; exact loop_l_sum_0 fu listn listl (fu + 100) j_n i
  rw [h1, c0]
theorem eq_l_sum (fu : Nat) (listn : Nat) (listl : List Int) : execT Try.prog S_l_sum 17 18 (fun _ => fu + 100) dec_i [.s listn (.ints listl)] = Fo_l_sum fu listn listl := eqg_l_sum fu listn listl
def l_sum (listn : Nat) (listl : List Int) : Int := listl.foldl (fun s x => wI (s + x)) 0
theorem tot_l_sum (listn : Nat) (listl : List Int) (hp : (lenB listn 1 listl) = true) : Fo_l_sum listn listn listl = some (l_sum listn listl) := by
  obtain ⟨hl, hn⟩ := lenB_ok hp
  rw [Nat.one_mul] at hl
  unfold Fo_l_sum G_l_sum l_sum
  have h := upto (L := fun f (s : Int) i => L_l_sum_0 listn listn listl f s i) (n := listn) (fun _ _ => True) (fun s k => wI (s + listl.getD (k * 1) 0)) (K := fun s => some s)
    (fun f k s hk _ => by
      show B_l_sum_0 listn listl (L_l_sum_0 listn listn listl f) s (k : Int) = _
      unfold B_l_sum_0
      rw [if_pos (cnd hk), if_pos (cnd2 hk), Int.toNat_natCast, if_pos (row1_ok hl hk), wrap_add1 hk (by omega)])
    (fun _ _ _ _ => True.intro)
    (fun f s _ => by
      show B_l_sum_0 listn listl _ s ((listn : Nat) : Int) = _
      unfold B_l_sum_0
      rw [if_neg (by simp)]) (F := listn + 100) (s := 0) (by omega) True.intro
  refine h.trans ?_
  congr 1
  have e : listl = (List.range listn).map fun k => listl.getD (k * 1) 0 := by
    subst hl
    apply List.ext_getElem (by simp)
    intro i h1 h2
    simp [List.getD_eq_getElem?_getD, h1]
  conv => rhs; rw [e, List.foldl_map]
def run_l_sum : List PV → Option (Bool × List TR)
  | [.s listn (.ints listl)] => some (lenB listn 1 listl, enc_i (l_sum listn listl))
  | _ => none
theorem sound_l_sum : Sound Try.prog 17 run_l_sum := by
  refine sound_of de_i SO_l_sum (by kernel_rfl) Try.func17 Try.ntmps17 rfl (by kernel_rfl) ?_
  intro W pvs avs rs hargs hrun
  unfold run_l_sum at hrun
  split at hrun
  · simp only [Option.some.injEq, Prod.mk.injEq] at hrun
    obtain ⟨hp, rfl⟩ := hrun
    rename_i listn listl
    exact ⟨_, _, _, hargs, rfl, (eq_l_sum _ listn listl).trans (tot_l_sum listn listl hp)⟩
  · cases hrun

def S_l_likeInts : Sums := ⟨tblS [], tblM []⟩
theorem SO_l_likeInts : SumsOK Try.prog S_l_likeInts := ⟨tblS_ok True.intro, tblM_ok True.intro⟩
def T_l_likeInts_0 (an : Nat) (al : List Int) (bn : Nat) (bl : List Int) (i : Int) : Tab := ⟨[.row 0, .row 4, .junk, .junk, .val (.bool false), .val (.int .i64 i), .row 0, .val (.int .i64 ((an : Nat) : Int)), .row 4, .val (.int .i64 ((bn : Nat) : Int)), .val (.bool (((an : Nat) : Int) != ((bn : Nat) : Int))), .junk, .junk, .junk, .junk, .junk, .junk, .junk, .junk, .junk, .junk, .junk, .junk, .junk, .junk, .junk], [(0, .ros an (.ints al)), (4, .ros bn (.ints bl))]⟩
def X_l_likeInts_0 (P : Program) (fu : Nat) (an : Nat) (al : List Int) (bn : Nat) (bl : List Int) (f : Nat) (i : Int) : Option (Bool) := loopK (exec P S_l_likeInts 26 (fun _ => fu + 100) (Code.sub [1, 1, 0, 1, 0, 0] (bodyF P 16))) f (T_l_likeInts_0 an al bn bl i) (kBlock 0 (kSeq (fun zs9 => exec P S_l_likeInts 26 (fun _ => fu + 100) (Code.sub [1, 1, 1] (bodyF P 16)) zs9 (finT P 16 dec_b)) (finT P 16 dec_b)))
def B_l_likeInts_0 (an : Nat) (al : List Int) (bn : Nat) (bl : List Int) (rec0 : Int → Option (Bool)) (i : Int) : Option (Bool) :=
  (if (decide (i < ((an : Nat) : Int))) = true then (if (decide (0 ≤ i) && decide (i < ((an : Nat) : Int))) = true then (if (Nat.ble (i.toNat * 1 + 1) al.length) = true then (if (decide (0 ≤ i) && decide (i < ((bn : Nat) : Int))) = true then (if (Nat.ble (i.toNat * 1 + 1) bl.length) = true then (if ((al.getD (i.toNat * 1) 0) != (bl.getD (i.toNat * 1) 0)) = true then some false else rec0 (wI (i + 1))) else none) else none) else none) else none) else some true)
def L_l_likeInts_0 (fu : Nat) (an : Nat) (al : List Int) (bn : Nat) (bl : List Int) : Nat → Int → Option (Bool)
  | 0, _ => none
  | f + 1, i => B_l_likeInts_0 an al bn bl (L_l_likeInts_0 fu an al bn bl f) i
theorem loop_l_likeInts_0 (fu : Nat) (an : Nat) (al : List Int) (bn : Nat) (bl : List Int) : ∀ (f : Nat) (i : Int), X_l_likeInts_0 Try.prog fu an al bn bl f i = L_l_likeInts_0 fu an al bn bl f i := by
  intro f
  induction f with
  | zero => intros; rfl
  | succ f ih =>
    intro i
    have h1 : X_l_likeInts_0 Try.prog fu an al bn bl (f + 1) i = B_l_likeInts_0 an al bn bl (X_l_likeInts_0 Try.prog fu an al bn bl f) i := by kernel_rfl
    have h2 : X_l_likeInts_0 Try.prog fu an al bn bl f = L_l_likeInts_0 fu an al bn bl f := by funext i; exact ih i
    rw [h1, h2]
    rfl
def G_l_likeInts (an : Nat) (al : List Int) (bn : Nat) (bl : List Int) (lo0 : Int → Option (Bool)) : Option (Bool) :=
  (if (((an : Nat) : Int) != ((bn : Nat) : Int)) = true then some false else lo0 0)
def Fo_l_likeInts (fu : Nat) (an : Nat) (al : List Int) (bn : Nat) (bl : List Int) : Option (Bool) := G_l_likeInts an al bn bl (L_l_likeInts_0 fu an al bn bl (fu + 100))
theorem eqg_l_likeInts (fu : Nat) (an : Nat) (al : List Int) (bn : Nat) (bl : List Int) : execT Try.prog S_l_likeInts 16 26 (fun _ => fu + 100) dec_b [.s an (.ints al), .s bn (.ints bl)] = G_l_likeInts an al bn bl (L_l_likeInts_0 fu an al bn bl (fu + 100)) := by
  have h1 : execT Try.prog S_l_likeInts 16 26 (fun _ => fu + 100) dec_b [.s an (.ints al), .s bn (.ints bl)] = G_l_likeInts an al bn bl (X_l_likeInts_0 Try.prog fu an al bn bl (fu + 100)) := by kernel_rfl
  have c0 : X_l_likeInts_0 Try.prog fu an al bn bl (fu + 100) = L_l_likeInts_0 fu an al bn bl (fu + 100) := by funext i; exact loop_l_likeInts_0 fu an al bn bl (fu + 100) i
  rw [h1, c0]
theorem eq_l_likeInts (fu : Nat) (an : Nat) (al : List Int) (bn : Nat) (bl : List Int) : execT Try.prog S_l_likeInts 16 26 (fun _ => fu + 100) dec_b [.s an (.ints al), .s bn (.ints bl)] = Fo_l_likeInts fu an al bn bl := eqg_l_likeInts fu an al bn bl
def l_likeInts (an : Nat) (al : List Int) (bn : Nat) (bl : List Int) : Bool := al == bl
theorem go_l_likeInts (fu an : Nat) (al : List Int) (bl : List Int) (hn : an ≤ 100000000000) (hl : al.length = 1 * an) (hm : bl.length = 1 * an) : ∀ (m j F : Nat), j + m = an → m < F → (∀ t : Nat, t < 1 * j → al.getD t 0 = bl.getD t 0) → L_l_likeInts_0 fu an al an bl F (j : Int) = some (al == bl)
  | m, j, 0, _, h, _ => absurd h (Nat.not_lt_zero m)
  | 0, j, F + 1, hj, _, hp => by
    obtain rfl : j = an := by omega
    show B_l_likeInts_0 j al j bl _ (j : Int) = _
    unfold B_l_likeInts_0
    have e : al = bl := list_of_getD (by omega) fun t ht => hp t (by omega)
    rw [if_neg (by simp), e]
    simp
  | m + 1, j, F + 1, hj, hF, hp => by
    show B_l_likeInts_0 an al an bl (L_l_likeInts_0 fu an al an bl F) (j : Int) = _
    unfold B_l_likeInts_0
    have e1 : decide ((j : Int) < ((an : Nat) : Int)) = true := by simp; omega
    have e2 : (decide (0 ≤ (j : Int)) && decide ((j : Int) < ((an : Nat) : Int))) = true := by simp; omega
    have e3 : (j : Int).toNat = j := Int.toNat_natCast j
    have a0 : wrap64 ((j : Int) + 1) = ((j + 1 : Nat) : Int) := by rw [wrapS (by omega)]; omega
    simp only [e3, wI_eq, a0]
    rw [if_pos e1, if_pos e2, if_pos (leb (by rw [hl]; omega)), if_pos e2, if_pos (leb (by rw [hm]; omega))]
    by_cases c : al.getD (j * 1) 0 = bl.getD (j * 1) 0
    rotate_left
    · rw [if_pos (by simpa using c)]
      congr 1
      symm
      rw [beq_eq_false_iff_ne]
      rintro rfl
      exact c rfl
    rw [if_neg (by simpa using c)]
    refine go_l_likeInts fu an al bl hn hl hm m (j + 1) F (by omega) (by omega) fun t ht => ?_
    by_cases ht' : t < 1 * j
    · exact hp t ht'
    · obtain rfl : t = j * 1 := by omega
      exact c
theorem tot_l_likeInts (an : Nat) (al : List Int) (bn : Nat) (bl : List Int) (hp : (lenB an 1 al && lenB bn 1 bl) = true) : Fo_l_likeInts an an al bn bl = some (l_likeInts an al bn bl) := by
  simp only [Bool.and_eq_true] at hp
  obtain ⟨hl, hn⟩ := lenB_ok hp.1
  obtain ⟨hm, _⟩ := lenB_ok hp.2
  unfold Fo_l_likeInts G_l_likeInts l_likeInts
  by_cases e : an = bn
  · subst e
    rw [if_neg (by simp)]
    exact go_l_likeInts an an al bl hn hl hm an 0 (an + 100) (by omega) (by omega) (fun t ht => by omega)
  · rw [if_pos (by simp; omega)]
    congr 1
    symm
    rw [beq_eq_false_iff_ne]
    rintro rfl
    omega
def run_l_likeInts : List PV → Option (Bool × List TR)
  | [.s an (.ints al), .s bn (.ints bl)] => some (lenB an 1 al && lenB bn 1 bl, enc_b (l_likeInts an al bn bl))
  | _ => none
theorem sound_l_likeInts : Sound Try.prog 16 run_l_likeInts := by
  refine sound_of de_b SO_l_likeInts (by kernel_rfl) Try.func16 Try.ntmps16 rfl (by kernel_rfl) ?_
  intro W pvs avs rs hargs hrun
  unfold run_l_likeInts at hrun
  split at hrun
  · simp only [Option.some.injEq, Prod.mk.injEq] at hrun
    obtain ⟨hp, rfl⟩ := hrun
    rename_i an al bn bl
    exact ⟨_, _, _, hargs, rfl, (eq_l_likeInts _ an al bn bl).trans (tot_l_likeInts an al bn bl hp)⟩
  · cases hrun

def S_l_hasInt : Sums := ⟨tblS [], tblM []⟩
theorem SO_l_hasInt : SumsOK Try.prog S_l_hasInt := ⟨tblS_ok True.intro, tblM_ok True.intro⟩
def T_l_hasInt_0 (listn : Nat) (listl : List Int) (x : Int) (i : Int) : Tab := ⟨[.row 0, .val (.int .i64 x), .junk, .junk, .val (.bool false), .val (.int .i64 i), .junk, .junk, .junk, .junk, .junk, .junk, .junk, .junk, .junk, .junk, .junk, .junk], [(0, .ros listn (.ints listl))]⟩
def X_l_hasInt_0 (P : Program) (fu : Nat) (listn : Nat) (listl : List Int) (x : Int) (f : Nat) (i : Int) : Option (Bool) := loopK (exec P S_l_hasInt 18 (fun _ => fu + 100) (Code.sub [1, 0, 1, 0, 0] (bodyF P 12))) f (T_l_hasInt_0 listn listl x i) (kBlock 0 (kSeq (fun zs9 => exec P S_l_hasInt 18 (fun _ => fu + 100) (Code.sub [1, 1] (bodyF P 12)) zs9 (finT P 12 dec_b)) (finT P 12 dec_b)))
def B_l_hasInt_0 (listn : Nat) (listl : List Int) (x : Int) (rec0 : Int → Option (Bool)) (i : Int) : Option (Bool) :=
  (if (decide (i < ((listn : Nat) : Int))) = true then (if (decide (0 ≤ i) && decide (i < ((listn : Nat) : Int))) = true then (if (Nat.ble (i.toNat * 1 + 1) listl.length) = true then (if ((listl.getD (i.toNat * 1) 0) == x) = true then some true else rec0 (wI (i + 1))) else none) else none) else some false)
def L_l_hasInt_0 (fu : Nat) (listn : Nat) (listl : List Int) (x : Int) : Nat → Int → Option (Bool)
  | 0, _ => none
  | f + 1, i => B_l_hasInt_0 listn listl x (L_l_hasInt_0 fu listn listl x f) i
theorem loop_l_hasInt_0 (fu : Nat) (listn : Nat) (listl : List Int) (x : Int) : ∀ (f : Nat) (i : Int), X_l_hasInt_0 Try.prog fu listn listl x f i = L_l_hasInt_0 fu listn listl x f i := by
  intro f
  induction f with
  | zero => intros; rfl
  | succ f ih =>
    intro i
    have h1 : X_l_hasInt_0 Try.prog fu listn listl x (f + 1) i = B_l_hasInt_0 listn listl x (X_l_hasInt_0 Try.prog fu listn listl x f) i := by kernel_rfl
    have h2 : X_l_hasInt_0 Try.prog fu listn listl x f = L_l_hasInt_0 fu listn listl x f := by funext i; exact ih i
    rw [h1, h2]
    rfl
def G_l_hasInt (listn : Nat) (listl : List Int) (x : Int) (lo0 : Int → Option (Bool)) : Option (Bool) :=
  lo0 0
def Fo_l_hasInt (fu : Nat) (listn : Nat) (listl : List Int) (x : Int) : Option (Bool) := G_l_hasInt listn listl x (L_l_hasInt_0 fu listn listl x (fu + 100))
theorem eqg_l_hasInt (fu : Nat) (listn : Nat) (listl : List Int) (x : Int) : execT Try.prog S_l_hasInt 12 18 (fun _ => fu + 100) dec_b [.s listn (.ints listl), .v (.int .i64 x)] = G_l_hasInt listn listl x (L_l_hasInt_0 fu listn listl x (fu + 100)) := by
  have h1 : execT Try.prog S_l_hasInt 12 18 (fun _ => fu + 100) dec_b [.s listn (.ints listl), .v (.int .i64 x)] = G_l_hasInt listn listl x (X_l_hasInt_0 Try.prog fu listn listl x (fu + 100)) := by kernel_rfl
  have c0 : X_l_hasInt_0 Try.prog fu listn listl x (fu + 100) = L_l_hasInt_0 fu listn listl x (fu + 100) := by funext i; exact loop_l_hasInt_0 fu listn listl x (fu + 100) i
  rw [h1, c0]
theorem eq_l_hasInt (fu : Nat) (listn : Nat) (listl : List Int) (x : Int) : execT Try.prog S_l_hasInt 12 18 (fun _ => fu + 100) dec_b [.s listn (.ints listl), .v (.int .i64 x)] = Fo_l_hasInt fu listn listl x := eqg_l_hasInt fu listn listl x
def l_hasInt (listn : Nat) (listl : List Int) (x : Int) : Bool := listl.any (fun z => z == x)
theorem tot_l_hasInt (listn : Nat) (listl : List Int) (x : Int) (hp : (lenB listn 1 listl) = true) : Fo_l_hasInt listn listn listl x = some (l_hasInt listn listl x) := by
  obtain ⟨hl, hn⟩ := lenB_ok hp
  rw [Nat.one_mul] at hl
  unfold Fo_l_hasInt G_l_hasInt l_hasInt
  have h := scan (L := fun f i => L_l_hasInt_0 listn listn listl x f i) (n := listn) (q := fun k => !(listl.getD (k * 1) 0 == x)) (bad := true) (good := false) (F := listn + 100) (by omega)
    (fun f k hk => by
      show B_l_hasInt_0 listn listl x (L_l_hasInt_0 listn listn listl x f) (k : Int) = _
      unfold B_l_hasInt_0
      rw [if_pos (cnd hk), if_pos (cnd2 hk), Int.toNat_natCast, if_pos (row1_ok hl hk), wrap_add1 hk (by omega), Bool.not_not]
      try rfl)
    (fun f => by
      show B_l_hasInt_0 listn listl x _ ((listn : Nat) : Int) = _
      unfold B_l_hasInt_0
      rw [if_neg (by simp)])
  rw [← all_rows1 listn listl hl (fun z => !(z == x))] at h
  refine h.trans ?_
  rw [List.any_eq_not_all_not]
  cases (listl.all fun z => !(z == x)) <;> rfl
def run_l_hasInt : List PV → Option (Bool × List TR)
  | [.s listn (.ints listl), .v (.int .i64 x)] => some (lenB listn 1 listl, enc_b (l_hasInt listn listl x))
  | _ => none
theorem sound_l_hasInt : Sound Try.prog 12 run_l_hasInt := by
  refine sound_of de_b SO_l_hasInt (by kernel_rfl) Try.func12 Try.ntmps12 rfl (by kernel_rfl) ?_
  intro W pvs avs rs hargs hrun
  unfold run_l_hasInt at hrun
  split at hrun
  · simp only [Option.some.injEq, Prod.mk.injEq] at hrun
    obtain ⟨hp, rfl⟩ := hrun
    rename_i listn listl x
    exact ⟨_, _, _, hargs, rfl, (eq_l_hasInt _ listn listl x).trans (tot_l_hasInt listn listl x hp)⟩
  · cases hrun

def S_s_l01From : Sums := ⟨tblS [], tblM []⟩
theorem SO_s_l01From : SumsOK Try.prog S_s_l01From := ⟨tblS_ok True.intro, tblM_ok True.intro⟩
def T_s_l01From_0 (coden : Nat) (codel : List Int) (v44_2 : Int) (i : Int) : Tab := ⟨[.row 1, .junk, .val (.pointer none), .ptr 44 0, .val (.int .i64 i), .row 1, .row 1, .val (.int .i64 ((coden : Nat) : Int)), .val (.int .u64 (IntKind.u64.wrap (((coden : Nat) : Int)))), .val (.int .u64 (IntKind.u64.wrap (13701 + (IntKind.u64.wrap (((coden : Nat) : Int)))))), .junk, .ptr 44 0, .junk, .junk, .junk, .junk, .junk, .junk, .junk, .junk, .junk, .junk, .junk, .junk, .junk, .junk, .junk, .junk, .junk, .junk, .junk, .junk, .junk, .junk, .junk, .junk, .junk, .junk], [(0, .ros 0 (.ints [])), (1, .ros coden (.byts codel)), (44, .box 61 [.row 1, .val (.int .i64 0), .val (.int .u64 v44_2)])]⟩
def X_s_l01From_0 (P : Program) (fu : Nat) (coden : Nat) (codel : List Int) (f : Nat) (v44_2 : Int) (i : Int) : Option (Int × Int) := loopK (exec P S_s_l01From 38 (fun _ => fu + 100) (Code.sub [1, 1, 0, 1, 0, 0] (bodyF P 41))) f (T_s_l01From_0 coden codel v44_2 i) (kBlock 0 (kSeq (fun zs9 => exec P S_s_l01From 38 (fun _ => fu + 100) (Code.sub [1, 1, 1] (bodyF P 41)) zs9 (finB P 41 dec_B61)) (finB P 41 dec_B61)))
def B_s_l01From_0 (coden : Nat) (codel : List Int) (rec0 : Int → Int → Option (Int × Int)) (v44_2 : Int) (i : Int) : Option (Int × Int) :=
  (if (decide (i < ((coden : Nat) : Int))) = true then (if (decide (i < 4096)) = true then (if (decide (0 ≤ i) && decide (i < ((coden : Nat) : Int))) = true then (if (Nat.ble (i.toNat * 1 + 1) codel.length) = true then rec0 (IntKind.u64.wrap ((IntKind.u64.wrap ((IntKind.u64.wrap (v44_2 * 1099511628211)) + (IntKind.u64.wrap (codel.getD (i.toNat * 1) 0)))) + 199)) (wI (i + 1)) else none) else none) else some (0, v44_2)) else some (0, v44_2))
def L_s_l01From_0 (fu : Nat) (coden : Nat) (codel : List Int) : Nat → Int → Int → Option (Int × Int)
  | 0, _, _ => none
  | f + 1, v44_2, i => B_s_l01From_0 coden codel (L_s_l01From_0 fu coden codel f) v44_2 i
theorem loop_s_l01From_0 (fu : Nat) (coden : Nat) (codel : List Int) : ∀ (f : Nat) (v44_2 : Int) (i : Int), X_s_l01From_0 Try.prog fu coden codel f v44_2 i = L_s_l01From_0 fu coden codel f v44_2 i := by
  intro f
  induction f with
  | zero => intros; rfl
  | succ f ih =>
    intro v44_2 i
    have h1 : X_s_l01From_0 Try.prog fu coden codel (f + 1) v44_2 i = B_s_l01From_0 coden codel (X_s_l01From_0 Try.prog fu coden codel f) v44_2 i := by kernel_rfl
    have h2 : X_s_l01From_0 Try.prog fu coden codel f = L_s_l01From_0 fu coden codel f := by funext v44_2 i; exact ih v44_2 i
    rw [h1, h2]
    rfl
def G_s_l01From (coden : Nat) (codel : List Int) (lo0 : Int → Int → Option (Int × Int)) : Option (Int × Int) :=
  lo0 (IntKind.u64.wrap (13701 + (IntKind.u64.wrap (((coden : Nat) : Int))))) 0
def Fo_s_l01From (fu : Nat) (coden : Nat) (codel : List Int) : Option (Int × Int) := G_s_l01From coden codel (L_s_l01From_0 fu coden codel (fu + 100))
theorem eqg_s_l01From (fu : Nat) (coden : Nat) (codel : List Int) : execB Try.prog S_s_l01From 41 38 (fun _ => fu + 100) dec_B61 coden (.byts codel) = G_s_l01From coden codel (L_s_l01From_0 fu coden codel (fu + 100)) := by
  have h1 : execB Try.prog S_s_l01From 41 38 (fun _ => fu + 100) dec_B61 coden (.byts codel) = G_s_l01From coden codel (X_s_l01From_0 Try.prog fu coden codel (fu + 100)) := by kernel_rfl
  have c0 : X_s_l01From_0 Try.prog fu coden codel (fu + 100) = L_s_l01From_0 fu coden codel (fu + 100) := by funext v44_2 i; exact loop_s_l01From_0 fu coden codel (fu + 100) v44_2 i
  rw [h1, c0]
theorem eq_s_l01From (fu : Nat) (coden : Nat) (codel : List Int) : execB Try.prog S_s_l01From 41 38 (fun _ => fu + 100) dec_B61 coden (.byts codel) = Fo_s_l01From fu coden codel := eqg_s_l01From fu coden codel
theorem from_go (fu n : Nat) (l : List Int) (hc : codeB n l = true) : ∀ (f : Nat) (v i : Int), 0 ≤ i → i ≤ 4096 → 4096 - i < f → ∃ h, L_s_l01From_0 fu n l f v i = some (0, h)
  | 0, v, i, _, h1, h2 => by omega
  | f + 1, v, i, h0, h1, h2 => by
    rw [show L_s_l01From_0 fu n l (f + 1) v i = B_s_l01From_0 n l (L_s_l01From_0 fu n l f) v i from rfl]
    unfold B_s_l01From_0
    by_cases hn : i < (n : Int)
    · by_cases hk : i < 4096
      · rw [if_pos (decide_eq_true hn), if_pos (decide_eq_true hk), if_pos (idx_ok ⟨h0, hn⟩), if_pos (ble_ok (by obtain ⟨e, _⟩ := codeB_ok hc; omega)), wI_eq, show wrap64 (i + 1) = i + 1 by unfold wrap64; omega]
        exact from_go fu n l hc f _ _ (by omega) (by omega) (by omega)
      · rw [if_pos (decide_eq_true hn), if_neg (by simp [hk])]
        exact ⟨_, rfl⟩
    · rw [if_neg (by simp [hn])]
      exact ⟨_, rfl⟩
theorem from_some {n : Nat} {l : List Int} (hc : codeB n l = true) : ∃ h, Fo_s_l01From 1000000 n l = some (0, h) := by
  unfold Fo_s_l01From G_s_l01From
  exact from_go _ n l hc _ _ _ (by decide) (by decide) (by decide)
def s_l01From (coden : Nat) (codel : List Int) : Int × Int := (Fo_s_l01From 1000000 coden codel).getD (0, 0)
theorem tot_s_l01From (coden : Nat) (codel : List Int) (hp : (codeB coden codel) = true) : Fo_s_l01From 1000000 coden codel = some (s_l01From coden codel) := by
  obtain ⟨h, e⟩ := from_some hp
  unfold s_l01From
  rw [e]
  rfl
def run_s_l01From : BRun
  | [.s coden (.byts codel)] => some (codeB coden codel, enc_B61 (s_l01From coden codel))
  | _ => none
theorem sound_s_l01From : SoundB Try.prog 41 run_s_l01From := by
  refine soundB_of de_B61 SO_s_l01From (by kernel_rfl) Try.func41 Try.ntmps41 rfl (by kernel_rfl) ?_
  intro m c e vals hrun
  unfold run_s_l01From at hrun
  split at hrun
  · rename_i heq
    simp only [List.cons.injEq, PV.s.injEq, and_true] at heq
    obtain ⟨rfl, rfl⟩ := heq
    simp only [Option.some.injEq, Prod.mk.injEq] at hrun
    obtain ⟨hp, hrun⟩ := hrun
    exact ⟨_, s_l01From _ _, by first | exact hrun.symm | exact (Prod.ext hrun.1 hrun.2).symm, (eq_s_l01From _ _ _).trans (tot_s_l01From _ _ hp)⟩
  · cases hrun

theorem s_l01From_src {n : Nat} {l : List Int} (hc : codeB n l = true) : srcB n l (s_l01From n l) = true := by
  obtain ⟨h, e⟩ := from_some hc
  refine srcB_mk hc ?_
  unfold s_l01From
  rw [e]
  exact Int.le_refl 0
def S_s_l01Next : Sums := ⟨tblS [], tblM []⟩
theorem SO_s_l01Next : SumsOK Try.prog S_s_l01Next := ⟨tblS_ok True.intro, tblM_ok True.intro⟩
def Fo_s_l01Next (sn : Nat) (sl : List Int) (ss : Int × Int) (n_ : Int) : Option (Int × Nat × List Int × Int × Int) :=
  (if (decide (n_ < 1)) = true then some (0, sn, sl, ss) else (if (decide (ss.1 < ((sn : Nat) : Int))) = true then (if (decide (0 ≤ ss.1) && decide (ss.1 < ((sn : Nat) : Int))) = true then (if (Nat.ble (ss.1.toNat * 1 + 1) sl.length) = true then (if (!(n_ == 0)) = true then some ((wI ((wI (andI .u64 (shrI (IntKind.u64.wrap ((IntKind.u64.wrap (ss.2 * 6364136223846793005)) + 1442695040888963407)) 33) 16777215)) + (wI (sl.getD (ss.1.toNat * 1) 0)))).tmod n_, sn, sl, wI (ss.1 + 1), IntKind.u64.wrap ((IntKind.u64.wrap (ss.2 * 6364136223846793005)) + 1442695040888963407)) else none) else none) else none) else (if (!(n_ == 0)) = true then some ((wI (andI .u64 (shrI (IntKind.u64.wrap ((IntKind.u64.wrap (ss.2 * 6364136223846793005)) + 1442695040888963407)) 33) 16777215)).tmod n_, sn, sl, ss.1, IntKind.u64.wrap ((IntKind.u64.wrap (ss.2 * 6364136223846793005)) + 1442695040888963407)) else none)))
theorem eq_s_l01Next (sn : Nat) (sl : List Int) (ss : Int × Int) (n_ : Int) : execP Try.prog S_s_l01Next 55 58 (fun _ => 1000000) dec_P61_i 61 [.s sn (.byts sl), .v (.int .i64 ss.1), .v (.int .u64 ss.2)] [.v (.int .i64 n_)] = Fo_s_l01Next sn sl ss n_ := by
  kernel_rfl
def s_l01Next_d (sn : Nat) (sl : List Int) (ss : Int × Int) (n_ : Int) : Int × Nat × List Int × Int × Int :=
  (if (decide (n_ < 1)) = true then (0, sn, sl, ss) else (if (decide (ss.1 < ((sn : Nat) : Int))) = true then ((wrap64 ((wrap64 (andI .u64 (shrI (IntKind.u64.wrap ((IntKind.u64.wrap (ss.2 * 6364136223846793005)) + 1442695040888963407)) 33) 16777215)) + (wrap64 (sl.getD (ss.1.toNat * 1) 0)))).tmod n_, sn, sl, wrap64 (ss.1 + 1), IntKind.u64.wrap ((IntKind.u64.wrap (ss.2 * 6364136223846793005)) + 1442695040888963407)) else ((wrap64 (andI .u64 (shrI (IntKind.u64.wrap ((IntKind.u64.wrap (ss.2 * 6364136223846793005)) + 1442695040888963407)) 33) 16777215)).tmod n_, sn, sl, ss.1, IntKind.u64.wrap ((IntKind.u64.wrap (ss.2 * 6364136223846793005)) + 1442695040888963407))))
def s_l01Next : (Nat) → (List Int) → (Int × Int) → (Int) → (Int × Nat × List Int × Int × Int) := shut s_l01Next_d
theorem s_l01Next_eq (sn : Nat) (sl : List Int) (ss : Int × Int) (n_ : Int) : s_l01Next sn sl ss n_ = s_l01Next_d sn sl ss n_ := by
  unfold s_l01Next
  rw [shut_eq]
theorem tot_s_l01Next (sn : Nat) (sl : List Int) (ss : Int × Int) (n_ : Int) (hp : (srcB sn sl ss) = true) : Fo_s_l01Next sn sl ss n_ = some (s_l01Next sn sl ss n_) := by
  have hs := hp
  have hc := (srcB_ok hs).1
  obtain ⟨hl, hb, _⟩ := codeB_ok hc
  have ha := (srcB_ok hs).2
  rw [s_l01Next_eq]
  unfold Fo_s_l01Next s_l01Next_d
  (try simp only [wI_eq])
  refine ite_opt (fun _ => rfl) (fun hn => ?_)
  have hn : (!(n_ == 0)) = true := by
    have : ¬ n_ < 1 := by simpa using hn
    have : n_ ≠ 0 := by omega
    simpa using this
  refine ite_opt (fun hk => ?_) (fun _ => chk_opt hn rfl)
  have hk := of_decide_eq_true hk
  exact chk_opt (idx_ok ⟨ha, hk⟩) (chk_opt (ble_ok (by omega)) (chk_opt hn rfl))
theorem post_s_l01Next (sn : Nat) (sl : List Int) (ss : Int × Int) (n_ : Int) (hs : srcB sn sl ss = true) : srcB sn sl (s_l01Next sn sl ss n_).2.2.2 = true := by
  have hc := (srcB_ok hs).1
  have ha := (srcB_ok hs).2
  obtain ⟨hl, hb, _⟩ := codeB_ok hc
  rw [s_l01Next_eq]
  unfold s_l01Next_d
  refine ite_ind (P := fun r : Int × Nat × List Int × Int × Int => srcB sn sl r.2.2.2 = true) hs ?_
  by_cases hk : ss.1 < (sn : Int)
  · rw [if_pos (decide_eq_true hk)]
    refine srcB_mk hc ?_
    show 0 ≤ wrap64 (ss.1 + 1)
    unfold wrap64
    omega
  · rw [if_neg (by simp [hk])]
    exact srcB_mk hc ha
theorem next_rng (sn : Nat) (sl : List Int) (ss : Int × Int) (n : Int) (hs : srcB sn sl ss = true) (hn : 1 ≤ n) : 0 ≤ (s_l01Next sn sl ss n).1 ∧ (s_l01Next sn sl ss n).1 < n := by
  have hc := (srcB_ok hs).1
  have ha := (srcB_ok hs).2
  obtain ⟨hl, _, hb⟩ := codeB_ok hc
  rw [s_l01Next_eq]
  unfold s_l01Next_d
  rw [if_neg (by simp; omega)]
  generalize (IntKind.u64.wrap ((IntKind.u64.wrap (ss.2 * 6364136223846793005)) + 1442695040888963407)) = w
  have hr := andI_rng (shrI w 33)
  generalize andI .u64 (shrI w 33) 16777215 = z at hr ⊢
  have key : ∀ x : Int, 0 ≤ x → 0 ≤ x.tmod n ∧ x.tmod n < n := fun x hx => by
    rw [Int.tmod_eq_emod_of_nonneg hx]
    exact ⟨Int.emod_nonneg _ (by omega), Int.emod_lt_of_pos _ (by omega)⟩
  refine ite_ind (P := fun r : Int × Nat × List Int × Int × Int => 0 ≤ r.1 ∧ r.1 < n) ?_ ?_
  · refine key _ ?_
    have h2 : 0 ≤ sl.getD (ss.1.toNat * 1) 0 ∧ sl.getD (ss.1.toNat * 1) 0 < 256 := by
      by_cases hk : ss.1.toNat * 1 < sl.length
      · exact hb _ (getD_mem hk)
      · rw [List.getD_eq_getElem?_getD, List.getElem?_eq_none (by omega)]
        decide
    generalize sl.getD (ss.1.toNat * 1) 0 = y at h2 ⊢
    unfold wrap64
    omega
  · refine key _ ?_
    unfold wrap64
    omega
theorem next_ble (sn : Nat) (sl : List Int) (ss : Int × Int) (n : Int) {w c m : Nat} (hs : srcB sn sl ss = true) (hn : 1 ≤ n) (hm : (n.toNat - 1) * w + c ≤ m) : (s_l01Next sn sl ss n).1.toNat * w + c ≤ m := by
  obtain ⟨h0, h1⟩ := next_rng sn sl ss n hs hn
  have : (s_l01Next sn sl ss n).1.toNat ≤ n.toNat - 1 := by omega
  have := Nat.mul_le_mul_right w this
  omega
theorem next_ble0 (sn : Nat) (sl : List Int) (ss : Int × Int) (n : Int) {w c m b : Nat} (hs : srcB sn sl ss = true) (hn : 1 ≤ n) (hm : b + (n.toNat - 1) * w + c ≤ m) : b + (s_l01Next sn sl ss n).1.toNat * w + c ≤ m := by
  have := next_ble sn sl ss n (w := w) (c := b + c) (m := m) hs hn (by omega)
  omega
theorem pos_one {n : Nat} (h : decide (((n : Nat) : Int) > 0) = true) : (1 : Int) ≤ ((n : Nat) : Int) := by
  have := of_decide_eq_true h
  omega
theorem pos_idx {n : Nat} (h : decide (((n : Nat) : Int) > 0) = true) : (decide ((0 : Int) ≤ 0) && decide ((0 : Int) < ((n : Nat) : Int))) = true := by
  have := of_decide_eq_true h
  simp
  omega
theorem pos_cell {n w : Nat} {l : List Int} (h : decide (((n : Nat) : Int) > 0) = true) (hl : l.length = w * n) : Nat.ble w l.length = true := by
  have := of_decide_eq_true h
  refine ble_ok ?_
  rw [hl]
  exact Nat.le_mul_of_pos_right w (by omega)
theorem next_cell {sn : Nat} {sl : List Int} {ss : Int × Int} {n w : Nat} {l : List Int} (hs : srcB sn sl ss = true) (h : decide (((n : Nat) : Int) > 0) = true) (hl : l.length = w * n) : Nat.ble ((s_l01Next sn sl ss ((n : Nat) : Int)).1.toNat * w + w) l.length = true := by
  have h1 := pos_one h
  refine ble_ok (next_ble sn sl ss _ hs h1 ?_)
  rw [hl, Int.toNat_natCast]
  obtain ⟨m, rfl⟩ : ∃ m, n = m + 1 := ⟨n - 1, by omega⟩
  rw [Nat.add_sub_cancel, Nat.mul_add, Nat.mul_one, Nat.mul_comm w m]
  exact Nat.le_refl _
theorem len_next {n w : Nat} {l : List Int} (hl : l.length = w * n) (h : (1 : Int) ≤ ((n : Nat) : Int)) : ((((n : Nat) : Int).toNat) - 1) * w + w ≤ l.length := by
  rw [hl, Int.toNat_natCast]
  obtain ⟨m, rfl⟩ : ∃ m, n = m + 1 := ⟨n - 1, by omega⟩
  rw [Nat.add_sub_cancel, Nat.mul_add, Nat.mul_one, Nat.mul_comm w m]
  exact Nat.le_refl _
def run_s_l01Next : PRun
  | 61, [.s sn (.byts sl), .v (.int .i64 s_1), .v (.int .u64 s_2)], [.v (.int .i64 n_)] => some (srcB sn sl (s_1, s_2), enc_P61_i (s_l01Next sn sl (s_1, s_2) n_))
  | _, _, _ => none
theorem sound_s_l01Next : SoundP Try.prog 55 run_s_l01Next := by
  refine soundP_of de_P61_i SO_s_l01Next (by kernel_rfl) Try.func55 Try.ntmps55 rfl (by kernel_rfl) ?_
  intro e bcs pvs rs bcs' hrun
  unfold run_s_l01Next at hrun
  split at hrun
  · simp only [Option.some.injEq, Prod.mk.injEq] at hrun
    obtain ⟨hp, hrun⟩ := hrun
    rename_i sn sl s_1 s_2 n_
    exact ⟨_, s_l01Next sn sl (s_1, s_2) n_, by first | exact hrun.symm | exact (Prod.ext hrun.1 hrun.2).symm, (eq_s_l01Next sn sl (s_1, s_2) n_).trans (tot_s_l01Next sn sl (s_1, s_2) n_ hp)⟩
  · cases hrun

abbrev k56_0 (sn : Nat) (sl : List Int) (ss : Int × Int) (listn : Nat) (listl : List Int) : Int × Nat × List Int × Int × Int := (s_l01Next sn sl ss ((listn : Nat) : Int))
def S_s_l01Pick : Sums := ⟨tblS [], tblM [(55, .box run_s_l01Next)]⟩
theorem SO_s_l01Pick : SumsOK Try.prog S_s_l01Pick := ⟨tblS_ok True.intro, tblM_ok ⟨⟨Try.call55, sound_s_l01Next⟩, True.intro⟩⟩
def Fo_s_l01Pick (sn : Nat) (sl : List Int) (ss : Int × Int) (listn : Nat) (listl : List Int) : Option (Int × Nat × List Int × Int × Int) :=
  (if (srcB sn sl ss) = true then (if (decide (0 ≤ (k56_0 sn sl ss listn listl).1) && decide ((k56_0 sn sl ss listn listl).1 < ((listn : Nat) : Int))) = true then (if (Nat.ble ((((k56_0 sn sl ss listn listl).1).toNat) * 1 + 1) listl.length) = true then some (listl.getD ((((k56_0 sn sl ss listn listl).1).toNat) * 1) 0, sn, sl, (k56_0 sn sl ss listn listl).2.2.2) else none) else none) else none)
theorem eq_s_l01Pick (sn : Nat) (sl : List Int) (ss : Int × Int) (listn : Nat) (listl : List Int) : execP Try.prog S_s_l01Pick 56 12 (fun _ => 1000000) dec_P61_i 61 [.s sn (.byts sl), .v (.int .i64 ss.1), .v (.int .u64 ss.2)] [.s listn (.ints listl)] = Fo_s_l01Pick sn sl ss listn listl := by
  kernel_rfl
def s_l01Pick_d (sn : Nat) (sl : List Int) (ss : Int × Int) (listn : Nat) (listl : List Int) : Int × Nat × List Int × Int × Int :=
  (listl.getD ((((k56_0 sn sl ss listn listl).1).toNat) * 1) 0, sn, sl, (k56_0 sn sl ss listn listl).2.2.2)
def s_l01Pick : (Nat) → (List Int) → (Int × Int) → (Nat) → (List Int) → (Int × Nat × List Int × Int × Int) := shut s_l01Pick_d
theorem s_l01Pick_eq (sn : Nat) (sl : List Int) (ss : Int × Int) (listn : Nat) (listl : List Int) : s_l01Pick sn sl ss listn listl = s_l01Pick_d sn sl ss listn listl := by
  unfold s_l01Pick
  rw [shut_eq]
theorem tot_s_l01Pick (sn : Nat) (sl : List Int) (ss : Int × Int) (listn : Nat) (listl : List Int) (hp : (srcB sn sl ss && (lenB listn 1 listl && Nat.blt 0 listn)) = true) : Fo_s_l01Pick sn sl ss listn listl = some (s_l01Pick sn sl ss listn listl) := by
  have hs := and_l hp
  have hc := (srcB_ok hs).1
  have hk := and_r hp
  obtain ⟨hl, _⟩ := lenB_ok (and_l hk)
  have h0 : 0 < listn := blt_pos (and_r hk)
  have hr := next_rng sn sl ss (listn : Int) hs (by omega)
  rw [s_l01Pick_eq]
  unfold Fo_s_l01Pick s_l01Pick_d
  dsimp only [k56_0]
  exact chk_opt hs (chk_opt (idx_ok hr) (chk_opt (ble_ok (by omega)) rfl))
theorem post_s_l01Pick (sn : Nat) (sl : List Int) (ss : Int × Int) (listn : Nat) (listl : List Int) (hs : srcB sn sl ss = true) : srcB sn sl (s_l01Pick sn sl ss listn listl).2.2.2 = true := by
  have hc := (srcB_ok hs).1
  rw [s_l01Pick_eq]
  unfold s_l01Pick_d
  repeat' (first | (with_reducible first | assumption | apply post_s_l01Next) | refine ite_ind (P := fun r : Int × Nat × List Int × Int × Int => srcB sn sl r.2.2.2 = true) ?_ ?_ | dsimp only)
theorem pick_mem (sn : Nat) (sl : List Int) (ss : Int × Int) (listn : Nat) (listl : List Int) (hs : srcB sn sl ss = true) (hk : (lenB listn 1 listl && Nat.blt 0 listn) = true) : (s_l01Pick sn sl ss listn listl).1 ∈ listl := by
  obtain ⟨hl, _⟩ := lenB_ok (and_l hk)
  have h0 : 0 < listn := blt_pos (and_r hk)
  have hr := next_rng sn sl ss (listn : Int) hs (by omega)
  rw [s_l01Pick_eq]
  unfold s_l01Pick_d
  dsimp only [k56_0]
  exact getD_mem (by omega)
theorem pick_prB (sn : Nat) (sl : List Int) (ss : Int × Int) (x : Int) (hs : srcB sn sl ss = true) : prB (s_l01Pick sn sl ss 3 [3, 5, minI (maxI x 1) 31]).1 = true := by
  have h := pick_mem sn sl ss 3 [3, 5, minI (maxI x 1) 31] hs rfl
  generalize (s_l01Pick sn sl ss 3 [3, 5, minI (maxI x 1) 31]).1 = y at h
  have hm : 1 ≤ minI (maxI x 1) 31 ∧ minI (maxI x 1) 31 ≤ 31 := by
    unfold minI maxI
    repeat' split
    all_goals omega
  refine Pr_prB ?_
  unfold Pr
  simp at h
  omega
def run_s_l01Pick : PRun
  | 61, [.s sn (.byts sl), .v (.int .i64 s_1), .v (.int .u64 s_2)], [.s listn (.ints listl)] => some (srcB sn sl (s_1, s_2) && (lenB listn 1 listl && Nat.blt 0 listn), enc_P61_i (s_l01Pick sn sl (s_1, s_2) listn listl))
  | _, _, _ => none
theorem sound_s_l01Pick : SoundP Try.prog 56 run_s_l01Pick := by
  refine soundP_of de_P61_i SO_s_l01Pick (by kernel_rfl) Try.func56 Try.ntmps56 rfl (by kernel_rfl) ?_
  intro e bcs pvs rs bcs' hrun
  unfold run_s_l01Pick at hrun
  split at hrun
  · simp only [Option.some.injEq, Prod.mk.injEq] at hrun
    obtain ⟨hp, hrun⟩ := hrun
    rename_i sn sl s_1 s_2 listn listl
    exact ⟨_, s_l01Pick sn sl (s_1, s_2) listn listl, by first | exact hrun.symm | exact (Prod.ext hrun.1 hrun.2).symm, (eq_s_l01Pick sn sl (s_1, s_2) listn listl).trans (tot_s_l01Pick sn sl (s_1, s_2) listn listl hp)⟩
  · cases hrun

abbrev k43_0 (sn : Nat) (sl : List Int) (ss : Int × Int) : Int × Nat × List Int × Int × Int := (s_l01Pick sn sl ss 13 [3, 5, 5, 7, 7, 11, 13, 13, 17, 19, 23, 29, 31])
def S_s_l01DrawField : Sums := ⟨tblS [], tblM [(56, .box run_s_l01Pick)]⟩
theorem SO_s_l01DrawField : SumsOK Try.prog S_s_l01DrawField := ⟨tblS_ok True.intro, tblM_ok ⟨⟨Try.call56, sound_s_l01Pick⟩, True.intro⟩⟩
def Fo_s_l01DrawField (sn : Nat) (sl : List Int) (ss : Int × Int) : Option (Int × Nat × List Int × Int × Int) :=
  (if (srcB sn sl ss && (lenB 13 1 ([3, 5, 5, 7, 7, 11, 13, 13, 17, 19, 23, 29, 31]) && Nat.blt 0 13)) = true then some ((k43_0 sn sl ss).1, sn, sl, (k43_0 sn sl ss).2.2.2) else none)
theorem eq_s_l01DrawField (sn : Nat) (sl : List Int) (ss : Int × Int) : execP Try.prog S_s_l01DrawField 43 6 (fun _ => 1000000) dec_P61_i 61 [.s sn (.byts sl), .v (.int .i64 ss.1), .v (.int .u64 ss.2)] [] = Fo_s_l01DrawField sn sl ss := by
  kernel_rfl
def s_l01DrawField_d (sn : Nat) (sl : List Int) (ss : Int × Int) : Int × Nat × List Int × Int × Int :=
  ((k43_0 sn sl ss).1, sn, sl, (k43_0 sn sl ss).2.2.2)
def s_l01DrawField : (Nat) → (List Int) → (Int × Int) → (Int × Nat × List Int × Int × Int) := shut s_l01DrawField_d
theorem s_l01DrawField_eq (sn : Nat) (sl : List Int) (ss : Int × Int) : s_l01DrawField sn sl ss = s_l01DrawField_d sn sl ss := by
  unfold s_l01DrawField
  rw [shut_eq]
theorem tot_s_l01DrawField (sn : Nat) (sl : List Int) (ss : Int × Int) (hp : (srcB sn sl ss) = true) : Fo_s_l01DrawField sn sl ss = some (s_l01DrawField sn sl ss) := by
  have hs := hp
  have hc := (srcB_ok hs).1
  rw [s_l01DrawField_eq]
  unfold Fo_s_l01DrawField s_l01DrawField_d
  (try simp only [wI_eq])
  repeat' (first | with_reducible rfl | refine chk_opt (by first | (with_reducible assumption) | ((repeat (with_reducible first | assumption | apply post_s_l01Pick)); done) | (with_reducible exact field_prB9 _ _ _ (by ((repeat (with_reducible first | assumption | apply post_s_l01Pick)); done))) | fail | exact pos_idx ‹_› | exact and_two (by ((repeat (with_reducible first | assumption | apply post_s_l01Pick)); done)) (by (first | (with_reducible assumption) | with_reducible exact field_prB9 _ _ _ (by ((repeat (with_reducible first | assumption | apply post_s_l01Pick)); done)) | fail | rfl)) | exact pos_cell ‹_› (by (first | exact flat2_len _ | exact flat3_len _)) | exact idx_ok (next_rng _ _ _ _ (by ((repeat (with_reducible first | assumption | apply post_s_l01Pick)); done)) (by decide)) | exact ble_ok (next_ble _ _ _ _ (by ((repeat (with_reducible first | assumption | apply post_s_l01Pick)); done)) (by decide) (by decide)) | exact ble_ok (next_ble0 _ _ _ _ (by ((repeat (with_reducible first | assumption | apply post_s_l01Pick)); done)) (by decide) (by decide)) | exact idx_ok (next_rng _ _ _ _ (by ((repeat (with_reducible first | assumption | apply post_s_l01Pick)); done)) (pos_one ‹_›)) | exact next_cell (by ((repeat (with_reducible first | assumption | apply post_s_l01Pick)); done)) ‹_› (by (first | exact flat2_len _ | exact flat3_len _))) ?_ | refine ite_opt (fun _ => ?_) (fun _ => ?_) | rfl)
theorem post_s_l01DrawField (sn : Nat) (sl : List Int) (ss : Int × Int) (hs : srcB sn sl ss = true) : srcB sn sl (s_l01DrawField sn sl ss).2.2.2 = true := by
  have hc := (srcB_ok hs).1
  rw [s_l01DrawField_eq]
  unfold s_l01DrawField_d
  repeat' (first | (with_reducible first | assumption | apply post_s_l01Pick) | refine ite_ind (P := fun r : Int × Nat × List Int × Int × Int => srcB sn sl r.2.2.2 = true) ?_ ?_ | dsimp only)
theorem field_mem9 (sn : Nat) (sl : List Int) (ss : Int × Int) (hs : srcB sn sl ss = true) : (s_l01DrawField sn sl ss).1 ∈ [3, 5, 5, 7, 7, 11, 13, 13, 17, 19, 23, 29, 31] := by
  rw [s_l01DrawField_eq]
  exact pick_mem sn sl ss _ _ hs rfl
theorem field_prB9 (sn : Nat) (sl : List Int) (ss : Int × Int) (hs : srcB sn sl ss = true) : prB (s_l01DrawField sn sl ss).1 = true := by
  have h := field_mem9 sn sl ss hs
  have : ∀ x ∈ [3, 5, 5, 7, 7, 11, 13, 13, 17, 19, 23, 29, (31 : Int)], prB x = true := by decide
  exact this _ h
def run_s_l01DrawField : PRun
  | 61, [.s sn (.byts sl), .v (.int .i64 s_1), .v (.int .u64 s_2)], [] => some (srcB sn sl (s_1, s_2), enc_P61_i (s_l01DrawField sn sl (s_1, s_2)))
  | _, _, _ => none
theorem sound_s_l01DrawField : SoundP Try.prog 43 run_s_l01DrawField := by
  refine soundP_of de_P61_i SO_s_l01DrawField (by kernel_rfl) Try.func43 Try.ntmps43 rfl (by kernel_rfl) ?_
  intro e bcs pvs rs bcs' hrun
  unfold run_s_l01DrawField at hrun
  split at hrun
  · simp only [Option.some.injEq, Prod.mk.injEq] at hrun
    obtain ⟨hp, hrun⟩ := hrun
    rename_i sn sl s_1 s_2
    exact ⟨_, s_l01DrawField sn sl (s_1, s_2), by first | exact hrun.symm | exact (Prod.ext hrun.1 hrun.2).symm, (eq_s_l01DrawField sn sl (s_1, s_2)).trans (tot_s_l01DrawField sn sl (s_1, s_2) hp)⟩
  · cases hrun

theorem field_is8 (sn : Nat) (sl : List Int) (ss : Int × Int) (hs : srcB sn sl ss = true) : i_IsField (s_l01DrawField sn sl ss).1 = true := by
  have h := field_mem9 sn sl ss hs
  have : ∀ x ∈ [3, 5, 5, 7, 7, 11, 13, 13, 17, 19, 23, 29, (31 : Int)], i_IsField x = true := by decide +kernel
  exact this _ h
abbrev k50_0 (sn : Nat) (sl : List Int) (ss : Int × Int) (most : Int) : Int × Nat × List Int × Int × Int := (s_l01Pick sn sl ((s_l01Next sn sl ss 14).2.2.2) 4 [(-1), wI (most + 1), 1099511627776, (-4611686018427387904)])
abbrev k50_1 (sn : Nat) (sl : List Int) (ss : Int × Int) (most : Int) : Int × Nat × List Int × Int × Int := (s_l01Next sn sl ((s_l01Next sn sl ss 14).2.2.2) (wI (most + 1)))
def S_s_l01Near : Sums := ⟨tblS [], tblM [(55, .box run_s_l01Next), (56, .box run_s_l01Pick)]⟩
theorem SO_s_l01Near : SumsOK Try.prog S_s_l01Near := ⟨tblS_ok True.intro, tblM_ok ⟨⟨Try.call55, sound_s_l01Next⟩, ⟨Try.call56, sound_s_l01Pick⟩, True.intro⟩⟩
def Fo_s_l01Near (sn : Nat) (sl : List Int) (ss : Int × Int) (most : Int) : Option (Int × Nat × List Int × Int × Int) :=
  (if (srcB sn sl ss) = true then (if (((s_l01Next sn sl ss 14).1) == 0) = true then (if (srcB sn sl ((s_l01Next sn sl ss 14).2.2.2) && (lenB 4 1 ([(-1), wI (most + 1), 1099511627776, (-4611686018427387904)]) && Nat.blt 0 4)) = true then some ((k50_0 sn sl ss most).1, sn, sl, (k50_0 sn sl ss most).2.2.2) else none) else (if (srcB sn sl ((s_l01Next sn sl ss 14).2.2.2)) = true then some ((k50_1 sn sl ss most).1, sn, sl, (k50_1 sn sl ss most).2.2.2) else none)) else none)
theorem eq_s_l01Near (sn : Nat) (sl : List Int) (ss : Int × Int) (most : Int) : execP Try.prog S_s_l01Near 50 17 (fun _ => 1000000) dec_P61_i 61 [.s sn (.byts sl), .v (.int .i64 ss.1), .v (.int .u64 ss.2)] [.v (.int .i64 most)] = Fo_s_l01Near sn sl ss most := by
  kernel_rfl
def s_l01Near_d (sn : Nat) (sl : List Int) (ss : Int × Int) (most : Int) : Int × Nat × List Int × Int × Int :=
  (if (((s_l01Next sn sl ss 14).1) == 0) = true then ((k50_0 sn sl ss most).1, sn, sl, (k50_0 sn sl ss most).2.2.2) else ((k50_1 sn sl ss most).1, sn, sl, (k50_1 sn sl ss most).2.2.2))
def s_l01Near : (Nat) → (List Int) → (Int × Int) → (Int) → (Int × Nat × List Int × Int × Int) := shut s_l01Near_d
theorem s_l01Near_eq (sn : Nat) (sl : List Int) (ss : Int × Int) (most : Int) : s_l01Near sn sl ss most = s_l01Near_d sn sl ss most := by
  unfold s_l01Near
  rw [shut_eq]
theorem tot_s_l01Near (sn : Nat) (sl : List Int) (ss : Int × Int) (most : Int) (hp : (srcB sn sl ss) = true) : Fo_s_l01Near sn sl ss most = some (s_l01Near sn sl ss most) := by
  have hs := hp
  have hc := (srcB_ok hs).1
  rw [s_l01Near_eq]
  unfold Fo_s_l01Near s_l01Near_d
  (try simp only [wI_eq])
  repeat' (first | with_reducible rfl | refine chk_opt (by first | (with_reducible assumption) | ((repeat (with_reducible first | assumption | apply post_s_l01Next | apply post_s_l01Pick)); done) | (with_reducible exact field_prB9 _ _ _ (by ((repeat (with_reducible first | assumption | apply post_s_l01Next | apply post_s_l01Pick)); done))) | fail | exact pos_idx ‹_› | exact and_two (by ((repeat (with_reducible first | assumption | apply post_s_l01Next | apply post_s_l01Pick)); done)) (by (first | (with_reducible assumption) | with_reducible exact field_prB9 _ _ _ (by ((repeat (with_reducible first | assumption | apply post_s_l01Next | apply post_s_l01Pick)); done)) | fail | rfl)) | exact pos_cell ‹_› (by (first | exact flat2_len _ | exact flat3_len _)) | exact idx_ok (next_rng _ _ _ _ (by ((repeat (with_reducible first | assumption | apply post_s_l01Next | apply post_s_l01Pick)); done)) (by decide)) | exact ble_ok (next_ble _ _ _ _ (by ((repeat (with_reducible first | assumption | apply post_s_l01Next | apply post_s_l01Pick)); done)) (by decide) (by decide)) | exact ble_ok (next_ble0 _ _ _ _ (by ((repeat (with_reducible first | assumption | apply post_s_l01Next | apply post_s_l01Pick)); done)) (by decide) (by decide)) | exact idx_ok (next_rng _ _ _ _ (by ((repeat (with_reducible first | assumption | apply post_s_l01Next | apply post_s_l01Pick)); done)) (pos_one ‹_›)) | exact next_cell (by ((repeat (with_reducible first | assumption | apply post_s_l01Next | apply post_s_l01Pick)); done)) ‹_› (by (first | exact flat2_len _ | exact flat3_len _))) ?_ | refine ite_opt (fun _ => ?_) (fun _ => ?_) | rfl)
theorem post_s_l01Near (sn : Nat) (sl : List Int) (ss : Int × Int) (most : Int) (hs : srcB sn sl ss = true) : srcB sn sl (s_l01Near sn sl ss most).2.2.2 = true := by
  have hc := (srcB_ok hs).1
  rw [s_l01Near_eq]
  unfold s_l01Near_d
  repeat' (first | (with_reducible first | assumption | apply post_s_l01Next | apply post_s_l01Pick) | refine ite_ind (P := fun r : Int × Nat × List Int × Int × Int => srcB sn sl r.2.2.2 = true) ?_ ?_ | dsimp only)
def run_s_l01Near : PRun
  | 61, [.s sn (.byts sl), .v (.int .i64 s_1), .v (.int .u64 s_2)], [.v (.int .i64 most)] => some (srcB sn sl (s_1, s_2), enc_P61_i (s_l01Near sn sl (s_1, s_2) most))
  | _, _, _ => none
theorem sound_s_l01Near : SoundP Try.prog 50 run_s_l01Near := by
  refine soundP_of de_P61_i SO_s_l01Near (by kernel_rfl) Try.func50 Try.ntmps50 rfl (by kernel_rfl) ?_
  intro e bcs pvs rs bcs' hrun
  unfold run_s_l01Near at hrun
  split at hrun
  · simp only [Option.some.injEq, Prod.mk.injEq] at hrun
    obtain ⟨hp, hrun⟩ := hrun
    rename_i sn sl s_1 s_2 most
    exact ⟨_, s_l01Near sn sl (s_1, s_2) most, by first | exact hrun.symm | exact (Prod.ext hrun.1 hrun.2).symm, (eq_s_l01Near sn sl (s_1, s_2) most).trans (tot_s_l01Near sn sl (s_1, s_2) most hp)⟩
  · cases hrun

abbrev k42_0 (sn : Nat) (sl : List Int) (ss : Int × Int) (p : Int) : Int × Nat × List Int × Int × Int := (s_l01Pick sn sl ((s_l01Next sn sl ss 40).2.2.2) 8 [2, 1, 0, (-3), 9, 15, 37, 1099511627776])
def S_s_l01BadField : Sums := ⟨tblS [], tblM [(55, .box run_s_l01Next), (56, .box run_s_l01Pick)]⟩
theorem SO_s_l01BadField : SumsOK Try.prog S_s_l01BadField := ⟨tblS_ok True.intro, tblM_ok ⟨⟨Try.call55, sound_s_l01Next⟩, ⟨Try.call56, sound_s_l01Pick⟩, True.intro⟩⟩
def Fo_s_l01BadField (sn : Nat) (sl : List Int) (ss : Int × Int) (p : Int) : Option (Int × Nat × List Int × Int × Int) :=
  (if (srcB sn sl ss) = true then (if (((s_l01Next sn sl ss 40).1) == 0) = true then (if (srcB sn sl ((s_l01Next sn sl ss 40).2.2.2) && (lenB 8 1 ([2, 1, 0, (-3), 9, 15, 37, 1099511627776]) && Nat.blt 0 8)) = true then some ((k42_0 sn sl ss p).1, sn, sl, (k42_0 sn sl ss p).2.2.2) else none) else some (p, sn, sl, (s_l01Next sn sl ss 40).2.2.2)) else none)
theorem eq_s_l01BadField (sn : Nat) (sl : List Int) (ss : Int × Int) (p : Int) : execP Try.prog S_s_l01BadField 42 12 (fun _ => 1000000) dec_P61_i 61 [.s sn (.byts sl), .v (.int .i64 ss.1), .v (.int .u64 ss.2)] [.v (.int .i64 p)] = Fo_s_l01BadField sn sl ss p := by
  kernel_rfl
def s_l01BadField_d (sn : Nat) (sl : List Int) (ss : Int × Int) (p : Int) : Int × Nat × List Int × Int × Int :=
  (if (((s_l01Next sn sl ss 40).1) == 0) = true then ((k42_0 sn sl ss p).1, sn, sl, (k42_0 sn sl ss p).2.2.2) else (p, sn, sl, (s_l01Next sn sl ss 40).2.2.2))
def s_l01BadField : (Nat) → (List Int) → (Int × Int) → (Int) → (Int × Nat × List Int × Int × Int) := shut s_l01BadField_d
theorem s_l01BadField_eq (sn : Nat) (sl : List Int) (ss : Int × Int) (p : Int) : s_l01BadField sn sl ss p = s_l01BadField_d sn sl ss p := by
  unfold s_l01BadField
  rw [shut_eq]
theorem tot_s_l01BadField (sn : Nat) (sl : List Int) (ss : Int × Int) (p : Int) (hp : (srcB sn sl ss && prB p) = true) : Fo_s_l01BadField sn sl ss p = some (s_l01BadField sn sl ss p) := by
  have hs := and_l hp
  have hc := (srcB_ok hs).1
  have hq := and_r hp
  have h0 := prB_ne hq
  rw [s_l01BadField_eq]
  unfold Fo_s_l01BadField s_l01BadField_d
  (try simp only [wI_eq])
  repeat' (first | with_reducible rfl | refine chk_opt (by first | (with_reducible assumption) | ((repeat (with_reducible first | assumption | apply post_s_l01Next | apply post_s_l01Pick)); done) | (with_reducible exact field_prB9 _ _ _ (by ((repeat (with_reducible first | assumption | apply post_s_l01Next | apply post_s_l01Pick)); done))) | fail | exact pos_idx ‹_› | exact and_two (by ((repeat (with_reducible first | assumption | apply post_s_l01Next | apply post_s_l01Pick)); done)) (by (first | (with_reducible assumption) | with_reducible exact field_prB9 _ _ _ (by ((repeat (with_reducible first | assumption | apply post_s_l01Next | apply post_s_l01Pick)); done)) | fail | rfl)) | exact pos_cell ‹_› (by (first | exact flat2_len _ | exact flat3_len _)) | exact idx_ok (next_rng _ _ _ _ (by ((repeat (with_reducible first | assumption | apply post_s_l01Next | apply post_s_l01Pick)); done)) (by decide)) | exact ble_ok (next_ble _ _ _ _ (by ((repeat (with_reducible first | assumption | apply post_s_l01Next | apply post_s_l01Pick)); done)) (by decide) (by decide)) | exact ble_ok (next_ble0 _ _ _ _ (by ((repeat (with_reducible first | assumption | apply post_s_l01Next | apply post_s_l01Pick)); done)) (by decide) (by decide)) | exact idx_ok (next_rng _ _ _ _ (by ((repeat (with_reducible first | assumption | apply post_s_l01Next | apply post_s_l01Pick)); done)) (pos_one ‹_›)) | exact next_cell (by ((repeat (with_reducible first | assumption | apply post_s_l01Next | apply post_s_l01Pick)); done)) ‹_› (by (first | exact flat2_len _ | exact flat3_len _))) ?_ | refine ite_opt (fun _ => ?_) (fun _ => ?_) | rfl)
theorem post_s_l01BadField (sn : Nat) (sl : List Int) (ss : Int × Int) (p : Int) (hs : srcB sn sl ss = true) : srcB sn sl (s_l01BadField sn sl ss p).2.2.2 = true := by
  have hc := (srcB_ok hs).1
  rw [s_l01BadField_eq]
  unfold s_l01BadField_d
  repeat' (first | (with_reducible first | assumption | apply post_s_l01Next | apply post_s_l01Pick) | refine ite_ind (P := fun r : Int × Nat × List Int × Int × Int => srcB sn sl r.2.2.2 = true) ?_ ?_ | dsimp only)
def run_s_l01BadField : PRun
  | 61, [.s sn (.byts sl), .v (.int .i64 s_1), .v (.int .u64 s_2)], [.v (.int .i64 p)] => some (srcB sn sl (s_1, s_2) && prB p, enc_P61_i (s_l01BadField sn sl (s_1, s_2) p))
  | _, _, _ => none
theorem sound_s_l01BadField : SoundP Try.prog 42 run_s_l01BadField := by
  refine soundP_of de_P61_i SO_s_l01BadField (by kernel_rfl) Try.func42 Try.ntmps42 rfl (by kernel_rfl) ?_
  intro e bcs pvs rs bcs' hrun
  unfold run_s_l01BadField at hrun
  split at hrun
  · simp only [Option.some.injEq, Prod.mk.injEq] at hrun
    obtain ⟨hp, hrun⟩ := hrun
    rename_i sn sl s_1 s_2 p
    exact ⟨_, s_l01BadField sn sl (s_1, s_2) p, by first | exact hrun.symm | exact (Prod.ext hrun.1 hrun.2).symm, (eq_s_l01BadField sn sl (s_1, s_2) p).trans (tot_s_l01BadField sn sl (s_1, s_2) p hp)⟩
  · cases hrun

abbrev k26_0 (coden : Nat) (codel : List Int) : Int × Nat × List Int × Int × Int := (s_l01DrawField coden codel (s_l01From coden codel))
abbrev k26_1 (coden : Nat) (codel : List Int) : Int × Nat × List Int × Int × Int := (s_l01Near coden codel ((k26_0 coden codel).2.2.2) (wI (((k26_0 coden codel).1) - 1)))
abbrev k26_2 (coden : Nat) (codel : List Int) : Int × Nat × List Int × Int × Int := (s_l01BadField coden codel ((k26_1 coden codel).2.2.2) ((k26_0 coden codel).1))
def S_s_l01One : Sums := ⟨tblS [], tblM [(41, .src run_s_l01From), (43, .box run_s_l01DrawField), (50, .box run_s_l01Near), (42, .box run_s_l01BadField)]⟩
theorem SO_s_l01One : SumsOK Try.prog S_s_l01One := ⟨tblS_ok True.intro, tblM_ok ⟨⟨Try.call41, sound_s_l01From⟩, ⟨Try.call43, sound_s_l01DrawField⟩, ⟨Try.call50, sound_s_l01Near⟩, ⟨Try.call42, sound_s_l01BadField⟩, True.intro⟩⟩
def Fo_s_l01One (coden : Nat) (codel : List Int) : Option (Int × Int) :=
  (if (codeB coden codel) = true then (if (srcB coden codel (s_l01From coden codel)) = true then (if (srcB coden codel ((k26_0 coden codel).2.2.2)) = true then (if (srcB coden codel ((k26_1 coden codel).2.2.2) && prB ((k26_0 coden codel).1)) = true then some ((k26_2 coden codel).1, (k26_1 coden codel).1) else none) else none) else none) else none)
theorem eq_s_l01One (coden : Nat) (codel : List Int) : execT Try.prog S_s_l01One 26 19 (fun _ => 1000000) dec_i_i [.s coden (.byts codel)] = Fo_s_l01One coden codel := by
  kernel_rfl
def s_l01One_d (coden : Nat) (codel : List Int) : Int × Int :=
  ((k26_2 coden codel).1, (k26_1 coden codel).1)
def s_l01One : (Nat) → (List Int) → (Int × Int) := shut s_l01One_d
theorem s_l01One_eq (coden : Nat) (codel : List Int) : s_l01One coden codel = s_l01One_d coden codel := by
  unfold s_l01One
  rw [shut_eq]
theorem tot_s_l01One (coden : Nat) (codel : List Int) (hp : (codeB coden codel) = true) : Fo_s_l01One coden codel = some (s_l01One coden codel) := by
  have hc := hp
  rw [s_l01One_eq]
  unfold Fo_s_l01One s_l01One_d
  (try simp only [wI_eq])
  repeat' (first | with_reducible rfl | refine chk_opt (by first | (with_reducible assumption) | ((repeat (with_reducible first | assumption | exact s_l01From_src hc | apply post_s_l01DrawField | apply post_s_l01Near | apply post_s_l01BadField)); done) | (with_reducible exact field_prB9 _ _ _ (by ((repeat (with_reducible first | assumption | exact s_l01From_src hc | apply post_s_l01DrawField | apply post_s_l01Near | apply post_s_l01BadField)); done))) | fail | exact pos_idx ‹_› | exact and_two (by ((repeat (with_reducible first | assumption | exact s_l01From_src hc | apply post_s_l01DrawField | apply post_s_l01Near | apply post_s_l01BadField)); done)) (by (first | (with_reducible assumption) | with_reducible exact field_prB9 _ _ _ (by ((repeat (with_reducible first | assumption | exact s_l01From_src hc | apply post_s_l01DrawField | apply post_s_l01Near | apply post_s_l01BadField)); done)) | fail | rfl)) | exact pos_cell ‹_› (by (first | exact flat2_len _ | exact flat3_len _)) | exact idx_ok (next_rng _ _ _ _ (by ((repeat (with_reducible first | assumption | exact s_l01From_src hc | apply post_s_l01DrawField | apply post_s_l01Near | apply post_s_l01BadField)); done)) (by decide)) | exact ble_ok (next_ble _ _ _ _ (by ((repeat (with_reducible first | assumption | exact s_l01From_src hc | apply post_s_l01DrawField | apply post_s_l01Near | apply post_s_l01BadField)); done)) (by decide) (by decide)) | exact ble_ok (next_ble0 _ _ _ _ (by ((repeat (with_reducible first | assumption | exact s_l01From_src hc | apply post_s_l01DrawField | apply post_s_l01Near | apply post_s_l01BadField)); done)) (by decide) (by decide)) | exact idx_ok (next_rng _ _ _ _ (by ((repeat (with_reducible first | assumption | exact s_l01From_src hc | apply post_s_l01DrawField | apply post_s_l01Near | apply post_s_l01BadField)); done)) (pos_one ‹_›)) | exact next_cell (by ((repeat (with_reducible first | assumption | exact s_l01From_src hc | apply post_s_l01DrawField | apply post_s_l01Near | apply post_s_l01BadField)); done)) ‹_› (by (first | exact flat2_len _ | exact flat3_len _))) ?_ | refine ite_opt (fun _ => ?_) (fun _ => ?_) | rfl)
def run_s_l01One : List PV → Option (Bool × List TR)
  | [.s coden (.byts codel)] => some (codeB coden codel, enc_i_i (s_l01One coden codel))
  | _ => none
theorem sound_s_l01One : Sound Try.prog 26 run_s_l01One := by
  refine sound_of de_i_i SO_s_l01One (by kernel_rfl) Try.func26 Try.ntmps26 rfl (by kernel_rfl) ?_
  intro W pvs avs rs hargs hrun
  unfold run_s_l01One at hrun
  split at hrun
  · simp only [Option.some.injEq, Prod.mk.injEq] at hrun
    obtain ⟨hp, rfl⟩ := hrun
    rename_i coden codel
    exact ⟨_, _, _, hargs, rfl, (eq_s_l01One coden codel).trans (tot_s_l01One coden codel hp)⟩
  · cases hrun

def S_s_DrawOrderOfSpread : Sums := ⟨tblS [(26, run_s_l01One)], tblM []⟩
theorem SO_s_DrawOrderOfSpread : SumsOK Try.prog S_s_DrawOrderOfSpread := ⟨tblS_ok ⟨⟨Try.call26, sound_s_l01One⟩, True.intro⟩, tblM_ok True.intro⟩
def Fo_s_DrawOrderOfSpread (coden : Nat) (codel : List Int) : Option (Int × Int) :=
  (if (codeB coden codel) = true then some ((s_l01One coden codel).1, (s_l01One coden codel).2) else none)
theorem eq_s_DrawOrderOfSpread (coden : Nat) (codel : List Int) : execT Try.prog S_s_DrawOrderOfSpread 5 13 (fun _ => 1000000) dec_i_i [.s coden (.byts codel)] = Fo_s_DrawOrderOfSpread coden codel := by
  kernel_rfl
def s_DrawOrderOfSpread_d (coden : Nat) (codel : List Int) : Int × Int :=
  ((s_l01One coden codel).1, (s_l01One coden codel).2)
def s_DrawOrderOfSpread : (Nat) → (List Int) → (Int × Int) := shut s_DrawOrderOfSpread_d
theorem s_DrawOrderOfSpread_eq (coden : Nat) (codel : List Int) : s_DrawOrderOfSpread coden codel = s_DrawOrderOfSpread_d coden codel := by
  unfold s_DrawOrderOfSpread
  rw [shut_eq]
theorem tot_s_DrawOrderOfSpread (coden : Nat) (codel : List Int) (hp : (codeB coden codel) = true) : Fo_s_DrawOrderOfSpread coden codel = some (s_DrawOrderOfSpread coden codel) := by
  have hc := hp
  rw [s_DrawOrderOfSpread_eq]
  unfold Fo_s_DrawOrderOfSpread s_DrawOrderOfSpread_d
  (try simp only [wI_eq])
  repeat' (first | with_reducible rfl | refine chk_opt (by first | (with_reducible assumption) | ((repeat (with_reducible first | assumption)); done) | (with_reducible exact field_prB9 _ _ _ (by ((repeat (with_reducible first | assumption)); done))) | fail | exact pos_idx ‹_› | exact and_two (by ((repeat (with_reducible first | assumption)); done)) (by (first | (with_reducible assumption) | with_reducible exact field_prB9 _ _ _ (by ((repeat (with_reducible first | assumption)); done)) | fail | rfl)) | exact pos_cell ‹_› (by (first | exact flat2_len _ | exact flat3_len _)) | exact idx_ok (next_rng _ _ _ _ (by ((repeat (with_reducible first | assumption)); done)) (by decide)) | exact ble_ok (next_ble _ _ _ _ (by ((repeat (with_reducible first | assumption)); done)) (by decide) (by decide)) | exact ble_ok (next_ble0 _ _ _ _ (by ((repeat (with_reducible first | assumption)); done)) (by decide) (by decide)) | exact idx_ok (next_rng _ _ _ _ (by ((repeat (with_reducible first | assumption)); done)) (pos_one ‹_›)) | exact next_cell (by ((repeat (with_reducible first | assumption)); done)) ‹_› (by (first | exact flat2_len _ | exact flat3_len _))) ?_ | refine ite_opt (fun _ => ?_) (fun _ => ?_) | rfl)
def run_s_DrawOrderOfSpread : List PV → Option (Bool × List TR)
  | [.s coden (.byts codel)] => some (codeB coden codel, enc_i_i (s_DrawOrderOfSpread coden codel))
  | _ => none
theorem sound_s_DrawOrderOfSpread : Sound Try.prog 5 run_s_DrawOrderOfSpread := by
  refine sound_of de_i_i SO_s_DrawOrderOfSpread (by kernel_rfl) Try.func5 Try.ntmps5 rfl (by kernel_rfl) ?_
  intro W pvs avs rs hargs hrun
  unfold run_s_DrawOrderOfSpread at hrun
  split at hrun
  · simp only [Option.some.injEq, Prod.mk.injEq] at hrun
    obtain ⟨hp, rfl⟩ := hrun
    rename_i coden codel
    exact ⟨_, _, _, hargs, rfl, (eq_s_DrawOrderOfSpread coden codel).trans (tot_s_DrawOrderOfSpread coden codel hp)⟩
  · cases hrun

abbrev k13_0 (coden : Nat) (codel : List Int) : Int × Nat × List Int × Int × Int := (s_l01DrawField coden codel (s_l01From coden codel))
abbrev k13_1 (coden : Nat) (codel : List Int) : Int × Nat × List Int × Int × Int := (s_l01BadField coden codel ((k13_0 coden codel).2.2.2) ((k13_0 coden codel).1))
def S_s_DrawOrdersOf : Sums := ⟨tblS [], tblM [(41, .src run_s_l01From), (43, .box run_s_l01DrawField), (42, .box run_s_l01BadField)]⟩
theorem SO_s_DrawOrdersOf : SumsOK Try.prog S_s_DrawOrdersOf := ⟨tblS_ok True.intro, tblM_ok ⟨⟨Try.call41, sound_s_l01From⟩, ⟨Try.call43, sound_s_l01DrawField⟩, ⟨Try.call42, sound_s_l01BadField⟩, True.intro⟩⟩
def Fo_s_DrawOrdersOf (coden : Nat) (codel : List Int) : Option (Int) :=
  (if (codeB coden codel) = true then (if (srcB coden codel (s_l01From coden codel)) = true then (if (srcB coden codel ((k13_0 coden codel).2.2.2) && prB ((k13_0 coden codel).1)) = true then some ((k13_1 coden codel).1) else none) else none) else none)
theorem eq_s_DrawOrdersOf (coden : Nat) (codel : List Int) : execT Try.prog S_s_DrawOrdersOf 13 10 (fun _ => 1000000) dec_i [.s coden (.byts codel)] = Fo_s_DrawOrdersOf coden codel := by
  kernel_rfl
def s_DrawOrdersOf_d (coden : Nat) (codel : List Int) : Int :=
  (k13_1 coden codel).1
def s_DrawOrdersOf : (Nat) → (List Int) → (Int) := shut s_DrawOrdersOf_d
theorem s_DrawOrdersOf_eq (coden : Nat) (codel : List Int) : s_DrawOrdersOf coden codel = s_DrawOrdersOf_d coden codel := by
  unfold s_DrawOrdersOf
  rw [shut_eq]
theorem tot_s_DrawOrdersOf (coden : Nat) (codel : List Int) (hp : (codeB coden codel) = true) : Fo_s_DrawOrdersOf coden codel = some (s_DrawOrdersOf coden codel) := by
  have hc := hp
  rw [s_DrawOrdersOf_eq]
  unfold Fo_s_DrawOrdersOf s_DrawOrdersOf_d
  (try simp only [wI_eq])
  repeat' (first | with_reducible rfl | refine chk_opt (by first | (with_reducible assumption) | ((repeat (with_reducible first | assumption | exact s_l01From_src hc | apply post_s_l01DrawField | apply post_s_l01BadField)); done) | (with_reducible exact field_prB9 _ _ _ (by ((repeat (with_reducible first | assumption | exact s_l01From_src hc | apply post_s_l01DrawField | apply post_s_l01BadField)); done))) | fail | exact pos_idx ‹_› | exact and_two (by ((repeat (with_reducible first | assumption | exact s_l01From_src hc | apply post_s_l01DrawField | apply post_s_l01BadField)); done)) (by (first | (with_reducible assumption) | with_reducible exact field_prB9 _ _ _ (by ((repeat (with_reducible first | assumption | exact s_l01From_src hc | apply post_s_l01DrawField | apply post_s_l01BadField)); done)) | fail | rfl)) | exact pos_cell ‹_› (by (first | exact flat2_len _ | exact flat3_len _)) | exact idx_ok (next_rng _ _ _ _ (by ((repeat (with_reducible first | assumption | exact s_l01From_src hc | apply post_s_l01DrawField | apply post_s_l01BadField)); done)) (by decide)) | exact ble_ok (next_ble _ _ _ _ (by ((repeat (with_reducible first | assumption | exact s_l01From_src hc | apply post_s_l01DrawField | apply post_s_l01BadField)); done)) (by decide) (by decide)) | exact ble_ok (next_ble0 _ _ _ _ (by ((repeat (with_reducible first | assumption | exact s_l01From_src hc | apply post_s_l01DrawField | apply post_s_l01BadField)); done)) (by decide) (by decide)) | exact idx_ok (next_rng _ _ _ _ (by ((repeat (with_reducible first | assumption | exact s_l01From_src hc | apply post_s_l01DrawField | apply post_s_l01BadField)); done)) (pos_one ‹_›)) | exact next_cell (by ((repeat (with_reducible first | assumption | exact s_l01From_src hc | apply post_s_l01DrawField | apply post_s_l01BadField)); done)) ‹_› (by (first | exact flat2_len _ | exact flat3_len _))) ?_ | refine ite_opt (fun _ => ?_) (fun _ => ?_) | rfl)
def run_s_DrawOrdersOf : List PV → Option (Bool × List TR)
  | [.s coden (.byts codel)] => some (codeB coden codel, enc_i (s_DrawOrdersOf coden codel))
  | _ => none
theorem sound_s_DrawOrdersOf : Sound Try.prog 13 run_s_DrawOrdersOf := by
  refine sound_of de_i SO_s_DrawOrdersOf (by kernel_rfl) Try.func13 Try.ntmps13 rfl (by kernel_rfl) ?_
  intro W pvs avs rs hargs hrun
  unfold run_s_DrawOrdersOf at hrun
  split at hrun
  · simp only [Option.some.injEq, Prod.mk.injEq] at hrun
    obtain ⟨hp, rfl⟩ := hrun
    rename_i coden codel
    exact ⟨_, _, _, hargs, rfl, (eq_s_DrawOrdersOf coden codel).trans (tot_s_DrawOrdersOf coden codel hp)⟩
  · cases hrun

abbrev k45_0 (coden : Nat) (codel : List Int) : Int × Nat × List Int × Int × Int := (s_l01DrawField coden codel (s_l01From coden codel))
abbrev k45_1 (coden : Nat) (codel : List Int) : Int × Nat × List Int × Int × Int := (s_l01Near coden codel ((k45_0 coden codel).2.2.2) 40)
abbrev k45_2 (coden : Nat) (codel : List Int) : Int × Nat × List Int × Int × Int := (s_l01Pick coden codel ((k45_1 coden codel).2.2.2) 15 [0, 1, 2, 3, 4, 5, 6, 7, 12, wI (((k45_0 coden codel).1) - 1), (k45_0 coden codel).1, wI (((k45_0 coden codel).1) + 1), (k45_1 coden codel).1, 1000, 1001])
abbrev k45_3 (coden : Nat) (codel : List Int) : Int × Nat × List Int × Int × Int := (s_l01Near coden codel ((k45_2 coden codel).2.2.2) (wI (((k45_0 coden codel).1) - 1)))
abbrev k45_4 (coden : Nat) (codel : List Int) : Int × Nat × List Int × Int × Int := (s_l01BadField coden codel ((k45_3 coden codel).2.2.2) ((k45_0 coden codel).1))
def S_s_l05Draw : Sums := ⟨tblS [], tblM [(41, .src run_s_l01From), (43, .box run_s_l01DrawField), (50, .box run_s_l01Near), (56, .box run_s_l01Pick), (42, .box run_s_l01BadField)]⟩
theorem SO_s_l05Draw : SumsOK Try.prog S_s_l05Draw := ⟨tblS_ok True.intro, tblM_ok ⟨⟨Try.call41, sound_s_l01From⟩, ⟨Try.call43, sound_s_l01DrawField⟩, ⟨Try.call50, sound_s_l01Near⟩, ⟨Try.call56, sound_s_l01Pick⟩, ⟨Try.call42, sound_s_l01BadField⟩, True.intro⟩⟩
def Fo_s_l05Draw (coden : Nat) (codel : List Int) : Option (Int × Int × Int) :=
  (if (codeB coden codel) = true then (if (srcB coden codel (s_l01From coden codel)) = true then (if (srcB coden codel ((k45_0 coden codel).2.2.2)) = true then (if (srcB coden codel ((k45_1 coden codel).2.2.2) && (lenB 15 1 ([0, 1, 2, 3, 4, 5, 6, 7, 12, wI (((k45_0 coden codel).1) - 1), (k45_0 coden codel).1, wI (((k45_0 coden codel).1) + 1), (k45_1 coden codel).1, 1000, 1001]) && Nat.blt 0 15)) = true then (if (srcB coden codel ((k45_2 coden codel).2.2.2)) = true then (if (srcB coden codel ((k45_3 coden codel).2.2.2) && prB ((k45_0 coden codel).1)) = true then some ((k45_4 coden codel).1, (k45_2 coden codel).1, (k45_3 coden codel).1) else none) else none) else none) else none) else none) else none)
theorem eq_s_l05Draw (coden : Nat) (codel : List Int) : execT Try.prog S_s_l05Draw 45 32 (fun _ => 1000000) dec_i_i_i [.s coden (.byts codel)] = Fo_s_l05Draw coden codel := by
  kernel_rfl
def s_l05Draw_d (coden : Nat) (codel : List Int) : Int × Int × Int :=
  ((k45_4 coden codel).1, (k45_2 coden codel).1, (k45_3 coden codel).1)
def s_l05Draw : (Nat) → (List Int) → (Int × Int × Int) := shut s_l05Draw_d
theorem s_l05Draw_eq (coden : Nat) (codel : List Int) : s_l05Draw coden codel = s_l05Draw_d coden codel := by
  unfold s_l05Draw
  rw [shut_eq]
theorem tot_s_l05Draw (coden : Nat) (codel : List Int) (hp : (codeB coden codel) = true) : Fo_s_l05Draw coden codel = some (s_l05Draw coden codel) := by
  have hc := hp
  rw [s_l05Draw_eq]
  unfold Fo_s_l05Draw s_l05Draw_d
  (try simp only [wI_eq])
  repeat' (first | with_reducible rfl | refine chk_opt (by first | (with_reducible assumption) | ((repeat (with_reducible first | assumption | exact s_l01From_src hc | apply post_s_l01DrawField | apply post_s_l01Near | apply post_s_l01Pick | apply post_s_l01BadField)); done) | (with_reducible exact field_prB9 _ _ _ (by ((repeat (with_reducible first | assumption | exact s_l01From_src hc | apply post_s_l01DrawField | apply post_s_l01Near | apply post_s_l01Pick | apply post_s_l01BadField)); done))) | fail | exact pos_idx ‹_› | exact and_two (by ((repeat (with_reducible first | assumption | exact s_l01From_src hc | apply post_s_l01DrawField | apply post_s_l01Near | apply post_s_l01Pick | apply post_s_l01BadField)); done)) (by (first | (with_reducible assumption) | with_reducible exact field_prB9 _ _ _ (by ((repeat (with_reducible first | assumption | exact s_l01From_src hc | apply post_s_l01DrawField | apply post_s_l01Near | apply post_s_l01Pick | apply post_s_l01BadField)); done)) | fail | rfl)) | exact pos_cell ‹_› (by (first | exact flat2_len _ | exact flat3_len _)) | exact idx_ok (next_rng _ _ _ _ (by ((repeat (with_reducible first | assumption | exact s_l01From_src hc | apply post_s_l01DrawField | apply post_s_l01Near | apply post_s_l01Pick | apply post_s_l01BadField)); done)) (by decide)) | exact ble_ok (next_ble _ _ _ _ (by ((repeat (with_reducible first | assumption | exact s_l01From_src hc | apply post_s_l01DrawField | apply post_s_l01Near | apply post_s_l01Pick | apply post_s_l01BadField)); done)) (by decide) (by decide)) | exact ble_ok (next_ble0 _ _ _ _ (by ((repeat (with_reducible first | assumption | exact s_l01From_src hc | apply post_s_l01DrawField | apply post_s_l01Near | apply post_s_l01Pick | apply post_s_l01BadField)); done)) (by decide) (by decide)) | exact idx_ok (next_rng _ _ _ _ (by ((repeat (with_reducible first | assumption | exact s_l01From_src hc | apply post_s_l01DrawField | apply post_s_l01Near | apply post_s_l01Pick | apply post_s_l01BadField)); done)) (pos_one ‹_›)) | exact next_cell (by ((repeat (with_reducible first | assumption | exact s_l01From_src hc | apply post_s_l01DrawField | apply post_s_l01Near | apply post_s_l01Pick | apply post_s_l01BadField)); done)) ‹_› (by (first | exact flat2_len _ | exact flat3_len _))) ?_ | refine ite_opt (fun _ => ?_) (fun _ => ?_) | rfl)
def run_s_l05Draw : List PV → Option (Bool × List TR)
  | [.s coden (.byts codel)] => some (codeB coden codel, enc_i_i_i (s_l05Draw coden codel))
  | _ => none
theorem sound_s_l05Draw : Sound Try.prog 45 run_s_l05Draw := by
  refine sound_of de_i_i_i SO_s_l05Draw (by kernel_rfl) Try.func45 Try.ntmps45 rfl (by kernel_rfl) ?_
  intro W pvs avs rs hargs hrun
  unfold run_s_l05Draw at hrun
  split at hrun
  · simp only [Option.some.injEq, Prod.mk.injEq] at hrun
    obtain ⟨hp, rfl⟩ := hrun
    rename_i coden codel
    exact ⟨_, _, _, hargs, rfl, (eq_s_l05Draw coden codel).trans (tot_s_l05Draw coden codel hp)⟩
  · cases hrun

def S_s_DrawWalkRound : Sums := ⟨tblS [(45, run_s_l05Draw)], tblM []⟩
theorem SO_s_DrawWalkRound : SumsOK Try.prog S_s_DrawWalkRound := ⟨tblS_ok ⟨⟨Try.call45, sound_s_l05Draw⟩, True.intro⟩, tblM_ok True.intro⟩
def Fo_s_DrawWalkRound (coden : Nat) (codel : List Int) : Option (Int × Int × Int) :=
  (if (codeB coden codel) = true then some ((s_l05Draw coden codel).1, (s_l05Draw coden codel).2.1, (s_l05Draw coden codel).2.2) else none)
theorem eq_s_DrawWalkRound (coden : Nat) (codel : List Int) : execT Try.prog S_s_DrawWalkRound 18 17 (fun _ => 1000000) dec_i_i_i [.s coden (.byts codel)] = Fo_s_DrawWalkRound coden codel := by
  kernel_rfl
def s_DrawWalkRound_d (coden : Nat) (codel : List Int) : Int × Int × Int :=
  ((s_l05Draw coden codel).1, (s_l05Draw coden codel).2.1, (s_l05Draw coden codel).2.2)
def s_DrawWalkRound : (Nat) → (List Int) → (Int × Int × Int) := shut s_DrawWalkRound_d
theorem s_DrawWalkRound_eq (coden : Nat) (codel : List Int) : s_DrawWalkRound coden codel = s_DrawWalkRound_d coden codel := by
  unfold s_DrawWalkRound
  rw [shut_eq]
theorem tot_s_DrawWalkRound (coden : Nat) (codel : List Int) (hp : (codeB coden codel) = true) : Fo_s_DrawWalkRound coden codel = some (s_DrawWalkRound coden codel) := by
  have hc := hp
  rw [s_DrawWalkRound_eq]
  unfold Fo_s_DrawWalkRound s_DrawWalkRound_d
  (try simp only [wI_eq])
  repeat' (first | with_reducible rfl | refine chk_opt (by first | (with_reducible assumption) | ((repeat (with_reducible first | assumption)); done) | (with_reducible exact field_prB9 _ _ _ (by ((repeat (with_reducible first | assumption)); done))) | fail | exact pos_idx ‹_› | exact and_two (by ((repeat (with_reducible first | assumption)); done)) (by (first | (with_reducible assumption) | with_reducible exact field_prB9 _ _ _ (by ((repeat (with_reducible first | assumption)); done)) | fail | rfl)) | exact pos_cell ‹_› (by (first | exact flat2_len _ | exact flat3_len _)) | exact idx_ok (next_rng _ _ _ _ (by ((repeat (with_reducible first | assumption)); done)) (by decide)) | exact ble_ok (next_ble _ _ _ _ (by ((repeat (with_reducible first | assumption)); done)) (by decide) (by decide)) | exact ble_ok (next_ble0 _ _ _ _ (by ((repeat (with_reducible first | assumption)); done)) (by decide) (by decide)) | exact idx_ok (next_rng _ _ _ _ (by ((repeat (with_reducible first | assumption)); done)) (pos_one ‹_›)) | exact next_cell (by ((repeat (with_reducible first | assumption)); done)) ‹_› (by (first | exact flat2_len _ | exact flat3_len _))) ?_ | refine ite_opt (fun _ => ?_) (fun _ => ?_) | rfl)
def run_s_DrawWalkRound : List PV → Option (Bool × List TR)
  | [.s coden (.byts codel)] => some (codeB coden codel, enc_i_i_i (s_DrawWalkRound coden codel))
  | _ => none
theorem sound_s_DrawWalkRound : Sound Try.prog 18 run_s_DrawWalkRound := by
  refine sound_of de_i_i_i SO_s_DrawWalkRound (by kernel_rfl) Try.func18 Try.ntmps18 rfl (by kernel_rfl) ?_
  intro W pvs avs rs hargs hrun
  unfold run_s_DrawWalkRound at hrun
  split at hrun
  · simp only [Option.some.injEq, Prod.mk.injEq] at hrun
    obtain ⟨hp, rfl⟩ := hrun
    rename_i coden codel
    exact ⟨_, _, _, hargs, rfl, (eq_s_DrawWalkRound coden codel).trans (tot_s_DrawWalkRound coden codel hp)⟩
  · cases hrun

abbrev k22_0 (coden : Nat) (codel : List Int) : Int × Nat × List Int × Int × Int := (s_l01Near coden codel (s_l01From coden codel) 100)
def S_s_DrawWalkOf : Sums := ⟨tblS [(45, run_s_l05Draw)], tblM [(41, .src run_s_l01From), (50, .box run_s_l01Near)]⟩
theorem SO_s_DrawWalkOf : SumsOK Try.prog S_s_DrawWalkOf := ⟨tblS_ok ⟨⟨Try.call45, sound_s_l05Draw⟩, True.intro⟩, tblM_ok ⟨⟨Try.call41, sound_s_l01From⟩, ⟨Try.call50, sound_s_l01Near⟩, True.intro⟩⟩
def Fo_s_DrawWalkOf (coden : Nat) (codel : List Int) : Option (Int × Int × Int × Int) :=
  (if (codeB coden codel) = true then (if (codeB coden codel) = true then (if (srcB coden codel (s_l01From coden codel)) = true then some ((s_l05Draw coden codel).1, (s_l05Draw coden codel).2.1, (s_l05Draw coden codel).2.2, (k22_0 coden codel).1) else none) else none) else none)
theorem eq_s_DrawWalkOf (coden : Nat) (codel : List Int) : execT Try.prog S_s_DrawWalkOf 22 21 (fun _ => 1000000) dec_i_i_i_i [.s coden (.byts codel)] = Fo_s_DrawWalkOf coden codel := by
  kernel_rfl
def s_DrawWalkOf_d (coden : Nat) (codel : List Int) : Int × Int × Int × Int :=
  ((s_l05Draw coden codel).1, (s_l05Draw coden codel).2.1, (s_l05Draw coden codel).2.2, (k22_0 coden codel).1)
def s_DrawWalkOf : (Nat) → (List Int) → (Int × Int × Int × Int) := shut s_DrawWalkOf_d
theorem s_DrawWalkOf_eq (coden : Nat) (codel : List Int) : s_DrawWalkOf coden codel = s_DrawWalkOf_d coden codel := by
  unfold s_DrawWalkOf
  rw [shut_eq]
theorem tot_s_DrawWalkOf (coden : Nat) (codel : List Int) (hp : (codeB coden codel) = true) : Fo_s_DrawWalkOf coden codel = some (s_DrawWalkOf coden codel) := by
  have hc := hp
  rw [s_DrawWalkOf_eq]
  unfold Fo_s_DrawWalkOf s_DrawWalkOf_d
  (try simp only [wI_eq])
  repeat' (first | with_reducible rfl | refine chk_opt (by first | (with_reducible assumption) | ((repeat (with_reducible first | assumption | exact s_l01From_src hc | apply post_s_l01Near)); done) | (with_reducible exact field_prB9 _ _ _ (by ((repeat (with_reducible first | assumption | exact s_l01From_src hc | apply post_s_l01Near)); done))) | fail | exact pos_idx ‹_› | exact and_two (by ((repeat (with_reducible first | assumption | exact s_l01From_src hc | apply post_s_l01Near)); done)) (by (first | (with_reducible assumption) | with_reducible exact field_prB9 _ _ _ (by ((repeat (with_reducible first | assumption | exact s_l01From_src hc | apply post_s_l01Near)); done)) | fail | rfl)) | exact pos_cell ‹_› (by (first | exact flat2_len _ | exact flat3_len _)) | exact idx_ok (next_rng _ _ _ _ (by ((repeat (with_reducible first | assumption | exact s_l01From_src hc | apply post_s_l01Near)); done)) (by decide)) | exact ble_ok (next_ble _ _ _ _ (by ((repeat (with_reducible first | assumption | exact s_l01From_src hc | apply post_s_l01Near)); done)) (by decide) (by decide)) | exact ble_ok (next_ble0 _ _ _ _ (by ((repeat (with_reducible first | assumption | exact s_l01From_src hc | apply post_s_l01Near)); done)) (by decide) (by decide)) | exact idx_ok (next_rng _ _ _ _ (by ((repeat (with_reducible first | assumption | exact s_l01From_src hc | apply post_s_l01Near)); done)) (pos_one ‹_›)) | exact next_cell (by ((repeat (with_reducible first | assumption | exact s_l01From_src hc | apply post_s_l01Near)); done)) ‹_› (by (first | exact flat2_len _ | exact flat3_len _))) ?_ | refine ite_opt (fun _ => ?_) (fun _ => ?_) | rfl)
def run_s_DrawWalkOf : List PV → Option (Bool × List TR)
  | [.s coden (.byts codel)] => some (codeB coden codel, enc_i_i_i_i (s_DrawWalkOf coden codel))
  | _ => none
theorem sound_s_DrawWalkOf : Sound Try.prog 22 run_s_DrawWalkOf := by
  refine sound_of de_i_i_i_i SO_s_DrawWalkOf (by kernel_rfl) Try.func22 Try.ntmps22 rfl (by kernel_rfl) ?_
  intro W pvs avs rs hargs hrun
  unfold run_s_DrawWalkOf at hrun
  split at hrun
  · simp only [Option.some.injEq, Prod.mk.injEq] at hrun
    obtain ⟨hp, rfl⟩ := hrun
    rename_i coden codel
    exact ⟨_, _, _, hargs, rfl, (eq_s_DrawWalkOf coden codel).trans (tot_s_DrawWalkOf coden codel hp)⟩
  · cases hrun

def S_s_DrawSpreadsOfOrder : Sums := ⟨tblS [(45, run_s_l05Draw)], tblM []⟩
theorem SO_s_DrawSpreadsOfOrder : SumsOK Try.prog S_s_DrawSpreadsOfOrder := ⟨tblS_ok ⟨⟨Try.call45, sound_s_l05Draw⟩, True.intro⟩, tblM_ok True.intro⟩
def Fo_s_DrawSpreadsOfOrder (coden : Nat) (codel : List Int) : Option (Int × Int) :=
  (if (codeB coden codel) = true then some ((s_l05Draw coden codel).1, (s_l05Draw coden codel).2.1) else none)
theorem eq_s_DrawSpreadsOfOrder (coden : Nat) (codel : List Int) : execT Try.prog S_s_DrawSpreadsOfOrder 24 15 (fun _ => 1000000) dec_i_i [.s coden (.byts codel)] = Fo_s_DrawSpreadsOfOrder coden codel := by
  kernel_rfl
def s_DrawSpreadsOfOrder_d (coden : Nat) (codel : List Int) : Int × Int :=
  ((s_l05Draw coden codel).1, (s_l05Draw coden codel).2.1)
def s_DrawSpreadsOfOrder : (Nat) → (List Int) → (Int × Int) := shut s_DrawSpreadsOfOrder_d
theorem s_DrawSpreadsOfOrder_eq (coden : Nat) (codel : List Int) : s_DrawSpreadsOfOrder coden codel = s_DrawSpreadsOfOrder_d coden codel := by
  unfold s_DrawSpreadsOfOrder
  rw [shut_eq]
theorem tot_s_DrawSpreadsOfOrder (coden : Nat) (codel : List Int) (hp : (codeB coden codel) = true) : Fo_s_DrawSpreadsOfOrder coden codel = some (s_DrawSpreadsOfOrder coden codel) := by
  have hc := hp
  rw [s_DrawSpreadsOfOrder_eq]
  unfold Fo_s_DrawSpreadsOfOrder s_DrawSpreadsOfOrder_d
  (try simp only [wI_eq])
  repeat' (first | with_reducible rfl | refine chk_opt (by first | (with_reducible assumption) | ((repeat (with_reducible first | assumption)); done) | (with_reducible exact field_prB9 _ _ _ (by ((repeat (with_reducible first | assumption)); done))) | fail | exact pos_idx ‹_› | exact and_two (by ((repeat (with_reducible first | assumption)); done)) (by (first | (with_reducible assumption) | with_reducible exact field_prB9 _ _ _ (by ((repeat (with_reducible first | assumption)); done)) | fail | rfl)) | exact pos_cell ‹_› (by (first | exact flat2_len _ | exact flat3_len _)) | exact idx_ok (next_rng _ _ _ _ (by ((repeat (with_reducible first | assumption)); done)) (by decide)) | exact ble_ok (next_ble _ _ _ _ (by ((repeat (with_reducible first | assumption)); done)) (by decide) (by decide)) | exact ble_ok (next_ble0 _ _ _ _ (by ((repeat (with_reducible first | assumption)); done)) (by decide) (by decide)) | exact idx_ok (next_rng _ _ _ _ (by ((repeat (with_reducible first | assumption)); done)) (pos_one ‹_›)) | exact next_cell (by ((repeat (with_reducible first | assumption)); done)) ‹_› (by (first | exact flat2_len _ | exact flat3_len _))) ?_ | refine ite_opt (fun _ => ?_) (fun _ => ?_) | rfl)
def run_s_DrawSpreadsOfOrder : List PV → Option (Bool × List TR)
  | [.s coden (.byts codel)] => some (codeB coden codel, enc_i_i (s_DrawSpreadsOfOrder coden codel))
  | _ => none
theorem sound_s_DrawSpreadsOfOrder : Sound Try.prog 24 run_s_DrawSpreadsOfOrder := by
  refine sound_of de_i_i SO_s_DrawSpreadsOfOrder (by kernel_rfl) Try.func24 Try.ntmps24 rfl (by kernel_rfl) ?_
  intro W pvs avs rs hargs hrun
  unfold run_s_DrawSpreadsOfOrder at hrun
  split at hrun
  · simp only [Option.some.injEq, Prod.mk.injEq] at hrun
    obtain ⟨hp, rfl⟩ := hrun
    rename_i coden codel
    exact ⟨_, _, _, hargs, rfl, (eq_s_DrawSpreadsOfOrder coden codel).trans (tot_s_DrawSpreadsOfOrder coden codel hp)⟩
  · cases hrun


end

end Go.Proofs.Ytjdpbaefonekmaa
