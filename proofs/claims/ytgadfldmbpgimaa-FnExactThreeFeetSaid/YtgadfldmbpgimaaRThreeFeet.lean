/- Proved here: for every p, every point and every line the desk and the specification give the same three feet, with the same code of refusal, in memory of their own. It holds for all arguments, without condition. -/
import Derived.Test.YtgadfldmbpgimaaSb
import Derived.Test.YtgadfldmbpgimaaJThreeFeet
import Derived.Test.YtgadfldmbpgimaaFThreeFeet
import Derived.Test.YtgadfldmbpgimaaQk
set_option linter.unusedSimpArgs false
set_option linter.unusedVariables false
namespace Go.Proofs.Ytgadfldmbpgimaa
open Go.RowKit Go.ChangeShapes Go.WideShapes Go.ChangeAt
theorem foot_eq {p : Int} (hf : i_IsField p = true) {k : Int} (hk : isC k) {a : P2} {l : P3} (ha : i_isPoint p a = true) (hl : i_isLine p l = true) : i_foot p k a l = (s_l02Foot p k a l).1 ∧ (s_l02Foot p k a l).2 = !(i_isNull p k l) := by
  obtain ⟨K, inst, φ, H⟩ := hom_of hf
  have a1 := Vl.of (φ := φ) (isPoint_num ha).1; have a2 := Vl.of (φ := φ) (isPoint_num ha).2
  obtain ⟨⟨n0, n1, n2⟩, hn⟩ := isLine_num hl
  have l0 := Vl.of (φ := φ) n0; have l1 := Vl.of (φ := φ) n1
  have hne : φ l.1 ≠ 0 ∨ φ l.2.1 ≠ 0 := by
    have h1 := H.one_ne
    rcases hn with e | ⟨_, e⟩
    · rw [e, H.one]; exact Or.inl h1
    · rw [e, H.one]; exact Or.inr h1
  have pi := ln_perpendicular H hf hk l0 l1 a1 a2 hne
  have ps := ln_through H hf hk (d := s_l02Direction p l) (vl_way1 H hf l1) (vl_way2 l0) a1 a2 (by grind)
  have e := Ln.inj H pi ps
  have hln := Ln.of H hl
  refine ⟨?_, ?_⟩
  · unfold i_foot s_l02Foot
    rw [e]
    obtain ⟨s, hs, p0, p1, p2, pk⟩ := hln
    obtain ⟨t, ht, q0, q1, q2, qk⟩ := ps
    exact meet_same H hf p0 p1 p2 q0 q1 q2
  · have hp := Ln.par H hf hln ps
    have hq := perp_iff H hf hk l0 l1 l0 l1
    show (s_l01Meet p l (s_l02Through p k (s_l02Direction p l) a)).2 = !(i_arePerpendicular p k l l)
    rw [Bool.eq_iff_iff, hp, Bool.not_eq_true', ← Bool.not_eq_true, hq]
    rw [prodK_fr hk]
    generalize frU k (-φ l.2.1) (φ l.1) = U
    generalize frV k (-φ l.2.1) (φ l.1) = V
    constructor <;> intro h1 h2 <;> apply h1 <;> grind
theorem ThreeFeet_same (p : Int) (a : P2) (l : P3) : i_ThreeFeet p a l = s_ThreeFeet p a l := by
  have e : ∀ k, isC k → i_FootOf p k a l = if (s_l01Both p a l != 0) = true then ((0, 0), s_l01Both p a l) else if (!(s_l02Foot p k a l).2) = true then ((0, 0), 5) else ((s_l02Foot p k a l).1, 0) := by
    intro k hk
    unfold i_FootOf i_FootOf_c1
    have hk' : i_isColour k = true := by rcases hk with rfl | rfl | rfl <;> rfl
    rw [hk', bothcode p true, show (if true = true then (if i_isPoint p a = true then i_isLine p l else false) else false) = (if i_isPoint p a = true then i_isLine p l else false) from rfl]
    by_cases h : i_asked p true (if i_isPoint p a = true then i_isLine p l else false) = 0
    · obtain ⟨hf, hb⟩ := asked_zero h
      have hal : i_isPoint p a = true ∧ i_isLine p l = true := by cases h1 : i_isPoint p a <;> simp [h1] at hb ⊢; exact hb
      obtain ⟨e1, e2⟩ := foot_eq hf hk hal.1 hal.2
      rw [e1, e2]
      generalize i_asked p true (if i_isPoint p a = true then i_isLine p l else false) = X at h ⊢
      simp [h]
    · generalize i_asked p true (if i_isPoint p a = true then i_isLine p l else false) = X at h ⊢
      simp [h]
  unfold i_ThreeFeet s_ThreeFeet
  rw [e 0 isC0, e 1 isC1, e 2 isC2]
  by_cases h : s_l01Both p a l = 0
  · simp only [h]
    cases h0 : (s_l02Foot p 0 a l).2 <;> cases h1 : (s_l02Foot p 1 a l).2 <;> cases h2 : (s_l02Foot p 2 a l).2 <;> simp
  · simp [h]
theorem ThreeFeet_len (p : Int) (a : P2) (l : P3) : lenB (s_ThreeFeet p a l).1.1 2 (s_ThreeFeet p a l).1.2 = true := by
  unfold s_ThreeFeet
  repeat' split
  all_goals rfl

def S_l_FnExactThreeFeet : Sums := ⟨tblS [(19, run_l_toPoint), (24, run_l_toLine), (35, run_s_ThreeFeet), (36, run_i_ThreeFeet), (32, run_l_eqPointS), (34, run_l_heldPointS)], tblM [(33, run_l_markPointS)]⟩
theorem SO_l_FnExactThreeFeet : SumsOK Try.prog S_l_FnExactThreeFeet := ⟨tblS_ok ⟨⟨Try.call19, sound_l_toPoint⟩, ⟨Try.call24, sound_l_toLine⟩, ⟨Try.call35, sound_s_ThreeFeet⟩, ⟨Try.call36, sound_i_ThreeFeet⟩, ⟨Try.call32, sound_l_eqPointS⟩, ⟨Try.call34, sound_l_heldPointS⟩, True.intro⟩, tblM_ok ⟨⟨Try.call33, sound_l_markPointS⟩, True.intro⟩⟩
def Fo_l_FnExactThreeFeet (aP : Int) (aA : Int × Int) (aL : Int × Int × Int) : Option (Bool) :=
  (if (lenB (((i_ThreeFeet aP (l_toPoint aA) (l_toLine aL)).1).1) 2 (((i_ThreeFeet aP (l_toPoint aA) (l_toLine aL)).1).2) && lenB (((s_ThreeFeet aP (l_toPoint aA) (l_toLine aL)).1).1) 2 (((s_ThreeFeet aP (l_toPoint aA) (l_toLine aL)).1).2)) = true then (if (!(l_eqPointS (((i_ThreeFeet aP (l_toPoint aA) (l_toLine aL)).1).1) (((i_ThreeFeet aP (l_toPoint aA) (l_toLine aL)).1).2) (((s_ThreeFeet aP (l_toPoint aA) (l_toLine aL)).1).1) (((s_ThreeFeet aP (l_toPoint aA) (l_toLine aL)).1).2))) = true then some false else (if (((i_ThreeFeet aP (l_toPoint aA) (l_toLine aL)).2) != ((s_ThreeFeet aP (l_toPoint aA) (l_toLine aL)).2)) = true then some false else (if (lenB (((i_ThreeFeet aP (l_toPoint aA) (l_toLine aL)).1).1) 2 (((i_ThreeFeet aP (l_toPoint aA) (l_toLine aL)).1).2) && (1 == 1)) = true then (if (lenB (((i_ThreeFeet aP (l_toPoint aA) (l_toLine aL)).1).1) 2 ((l_markPointS (((i_ThreeFeet aP (l_toPoint aA) (l_toLine aL)).1).1) (((i_ThreeFeet aP (l_toPoint aA) (l_toLine aL)).1).2) 1).2) && (1 == 1)) = true then (if (decide ((l_heldPointS (((i_ThreeFeet aP (l_toPoint aA) (l_toLine aL)).1).1) ((l_markPointS (((i_ThreeFeet aP (l_toPoint aA) (l_toLine aL)).1).1) (((i_ThreeFeet aP (l_toPoint aA) (l_toLine aL)).1).2) 1).2) 1) < 0)) = true then some false else (if ((l_heldPointS (((i_ThreeFeet aP (l_toPoint aA) (l_toLine aL)).1).1) ((l_markPointS (((i_ThreeFeet aP (l_toPoint aA) (l_toLine aL)).1).1) (((i_ThreeFeet aP (l_toPoint aA) (l_toLine aL)).1).2) 1).2) 1) != ((l_markPointS (((i_ThreeFeet aP (l_toPoint aA) (l_toLine aL)).1).1) (((i_ThreeFeet aP (l_toPoint aA) (l_toLine aL)).1).2) 1).1)) = true then some false else (if (lenB (((i_ThreeFeet aP (l_toPoint aA) (l_toLine aL)).1).1) 2 (((i_ThreeFeet aP (l_toPoint aA) (l_toLine aL)).1).2) && lenB (((s_ThreeFeet aP (l_toPoint aA) (l_toLine aL)).1).1) 2 (((s_ThreeFeet aP (l_toPoint aA) (l_toLine aL)).1).2)) = true then (if (!(l_eqPointS (((i_ThreeFeet aP (l_toPoint aA) (l_toLine aL)).1).1) (((i_ThreeFeet aP (l_toPoint aA) (l_toLine aL)).1).2) (((s_ThreeFeet aP (l_toPoint aA) (l_toLine aL)).1).1) (((s_ThreeFeet aP (l_toPoint aA) (l_toLine aL)).1).2))) = true then some false else (if (((i_ThreeFeet aP (l_toPoint aA) (l_toLine aL)).2) != ((s_ThreeFeet aP (l_toPoint aA) (l_toLine aL)).2)) = true then some false else (if (lenB (((i_ThreeFeet aP (l_toPoint aA) (l_toLine aL)).1).1) 2 ((l_markPointS (((i_ThreeFeet aP (l_toPoint aA) (l_toLine aL)).1).1) (((i_ThreeFeet aP (l_toPoint aA) (l_toLine aL)).1).2) 1).2) && (1 == 1)) = true then (if (decide ((l_heldPointS (((i_ThreeFeet aP (l_toPoint aA) (l_toLine aL)).1).1) ((l_markPointS (((i_ThreeFeet aP (l_toPoint aA) (l_toLine aL)).1).1) (((i_ThreeFeet aP (l_toPoint aA) (l_toLine aL)).1).2) 1).2) 1) < 0)) = true then some false else (if ((l_heldPointS (((i_ThreeFeet aP (l_toPoint aA) (l_toLine aL)).1).1) ((l_markPointS (((i_ThreeFeet aP (l_toPoint aA) (l_toLine aL)).1).1) (((i_ThreeFeet aP (l_toPoint aA) (l_toLine aL)).1).2) 1).2) 1) != ((l_markPointS (((i_ThreeFeet aP (l_toPoint aA) (l_toLine aL)).1).1) (((i_ThreeFeet aP (l_toPoint aA) (l_toLine aL)).1).2) 1).1)) = true then some false else some true)) else none))) else none))) else none) else none))) else none)
theorem eq_l_FnExactThreeFeet (aP : Int) (aA : Int × Int) (aL : Int × Int × Int) : execT Try.prog S_l_FnExactThreeFeet 10 79 1000000 dec_b [.v (.int .i64 aP), .v (.agg ⟨[.int .i64 aA.1, .int .i64 aA.2]⟩), .v (.agg ⟨[.int .i64 aL.1, .int .i64 aL.2.1, .int .i64 aL.2.2]⟩)] = Fo_l_FnExactThreeFeet aP aA aL := by
  kernel_rfl
def l_FnExactThreeFeet (aP : Int) (aA : Int × Int) (aL : Int × Int × Int) : Bool := true
theorem tot_l_FnExactThreeFeet (aP : Int) (aA : Int × Int) (aL : Int × Int × Int) : Fo_l_FnExactThreeFeet aP aA aL = some (l_FnExactThreeFeet aP aA aL) := by
  have e := ThreeFeet_same aP aA aL
  have hl := ThreeFeet_len aP aA aL
  unfold Fo_l_FnExactThreeFeet
  simp only [l_toPoint, l_toLine, e]
  generalize s_ThreeFeet aP aA aL = r at hl ⊢
  obtain ⟨⟨n, l⟩, c⟩ := r
  dsimp only at hl ⊢
  have hm : lenB n 2 (seq1 (2 * n)) = true := lenB_seq hl rfl
  have h0 : decide (((2 * n : Nat) : Int) + 1 < 0) = false := by simp; omega
  have hm' : lenB n 2 (seq1 (2 * n)) = true := hm
  (try rw [Nat.one_mul] at hm')
  have h2 : ¬ (((2 : Nat) : Int) * (n : Int) + 1 < 0) := by omega
  have h3 : ¬ ((n : Int) + 1 < 0) := by omega
  have h4 : ¬ (2 * (n : Int) + 1 < 0) := by omega
  simp [l_eqPointS, l_markPointS, l_heldPointS, l_FnExactThreeFeet, hl, hm, hm', h0, h2, h3, h4]
def run_l_FnExactThreeFeet : List PV → Option (Bool × List TR)
  | [.v (.int .i64 aP), .v (.agg ⟨[.int .i64 aA0, .int .i64 aA1]⟩), .v (.agg ⟨[.int .i64 aL0, .int .i64 aL1, .int .i64 aL2]⟩)] => some (true, enc_b (l_FnExactThreeFeet aP (aA0, aA1) (aL0, aL1, aL2)))
  | _ => none
theorem sound_l_FnExactThreeFeet : Sound Try.prog 10 run_l_FnExactThreeFeet := by
  refine sound_of de_b SO_l_FnExactThreeFeet (by kernel_rfl) Try.func10 Try.ntmps10 rfl (by kernel_rfl) ?_
  intro W pvs avs rs hargs hrun
  unfold run_l_FnExactThreeFeet at hrun
  split at hrun
  · simp only [Option.some.injEq, Prod.mk.injEq] at hrun
    obtain ⟨hp, rfl⟩ := hrun
    rename_i aP aA0 aA1 aL0 aL1 aL2
    exact ⟨_, _, _, hargs, rfl, (eq_l_FnExactThreeFeet aP (aA0, aA1) (aL0, aL1, aL2)).trans (tot_l_FnExactThreeFeet aP (aA0, aA1) (aL0, aL1, aL2))⟩
  · cases hrun
theorem ThreeFeet_law (aP : Int) (aA : Int × Int) (aL : Int × Int × Int) : l_FnExactThreeFeet aP aA aL = true := rfl
set_option maxRecDepth 100000 in
theorem FnExactThreeFeet_lifted (os : Os) (started : os.Started) (H : Type) (enc : TypeId × Value → H) :
    ReturnsInHanded {} Try.checked os 10 .any (Rows.fnExactThreeFeetSpec.pre6 enc Try.prog Try.f10 Rows.fnExactThreeFeetRow.domain false) (Rows.fnExactThreeFeetSpec.post enc Try.prog Try.f10 false true false false) := by
  refine returnsInHanded_of_change (C := Try.checked) Try.own started (by kernel_rfl) Try.func10
    (ChangeSpec.witness6 (enc := enc) (C := Try.checked) false ⟨#[], #[.int .i64 0, .agg #[.int .i64 0, .int .i64 0], .agg #[.int .i64 0, .int .i64 0, .int .i64 0]], []⟩ 8 (by kernel_rfl) (by kernel_rfl) (by kernel_rfl) (by kernel_rfl)) ?_
  intro W base args ds gs before hval0 hW hcnd _
  have hval : ∀ (j : Nat) t v, Try.f10.params[j]? = some t → args[j]? = some v → Value.okWide Try.prog W .any base t v := hval0
  have hW' := hW
  obtain ⟨p, q, hA0, hV, rfl, hfz, hnd⟩ := hW
  have hA : DataW.TrodAll enc Try.prog W 0 (fun _ => true) true Try.f10.params.toList args.toList ds p := hA0
  rw [Try.params10] at hA hval
  have hAk := hA
  obtain ⟨v0, vs0, d0, ds0, p0, q0, hargs, rfl, rfl, h0, r0⟩ := trodAll_cons hA
  obtain ⟨v1, vs1, d1, ds1, p1, q1, rfl, rfl, rfl, h1, r1⟩ := trodAll_cons r0
  obtain ⟨v2, vs2, d2, ds2, p2, q2, rfl, rfl, rfl, h2, r2⟩ := trodAll_cons r1
  obtain ⟨rfl, rfl, rfl⟩ := trodAll_nil r2
  obtain rfl : args = #[v0, v1, v2] := by
    apply Array.toList_inj.1
    exact hargs
  obtain ⟨rfl, rfl⟩ := trodVars_none hV
  clear hA0 hval0
  simp only [List.append_nil] at hW' hAk
  obtain ⟨x0, rfl, i0⟩ := open_i64 Try.underlying2 (hval 0 2 v0 rfl rfl)
  obtain ⟨xs1, hl1, rfl, i1⟩ := open_arr (n := 2) (ts := [2, 2]) Try.underlying28 (by kernel_rfl) (by kernel_rfl) (by intro u hu; simp at hu; subst hu; exact Try.underlying2) (hval 1 28 v1 rfl rfl)
  obtain ⟨x1_0, x1_1, rfl⟩ := len2 hl1
  obtain ⟨xs2, hl2, rfl, i2⟩ := open_arr (n := 3) (ts := [2, 2, 2]) Try.underlying35 (by kernel_rfl) (by kernel_rfl) (by intro u hu; simp at hu; subst hu; exact Try.underlying2) (hval 2 35 v2 rfl rfl)
  obtain ⟨x2_0, x2_1, x2_2, rfl⟩ := len3 hl2
  have hc := bool_any (sound_l_FnExactThreeFeet W [.v (.int .i64 x0), .v (.agg ⟨[.int .i64 x1_0, .int .i64 x1_1]⟩), .v (.agg ⟨[.int .i64 x2_0, .int .i64 x2_1, .int .i64 x2_2]⟩)] [.int .i64 x0, .agg ⟨[.int .i64 x1_0, .int .i64 x1_1]⟩, .agg ⟨[.int .i64 x2_0, .int .i64 x2_1, .int .i64 x2_2]⟩] _ ⟨rfl, rfl, rfl, True.intro⟩ rfl) (ThreeFeet_law x0 (x1_0, x1_1) (x2_0, x2_1, x2_2))
  refine hc.mono fun e W2 ⟨he, hb⟩ => ?_
  subst he
  refine ⟨_, rfl, _, _, _, [], p0 ++ (p1 ++ (p2)), [], hW', ?_, ?_, rfl, Below.frame hb _, fun h => by cases h⟩
  · exact trodAll_mk1 (shut_bool Try.underlying4 true)
  · exact trodAll_stays Try.laidOut hb (ts := [2, 28, 35]) (by intro t ht; simp at ht; rcases ht with rfl | rfl | rfl <;> exact ⟨by kernel_rfl, of_decide_eq_true (by kernel_rfl)⟩) hAk (fun x hx => hW'.lt x hx)
theorem FnExactThreeFeet_holds : Rows.FnExactThreeFeetSaid :=
  OpenClaim.holds_of_wide 10 Try.f10 rfl rfl rfl rfl rfl rfl rfl ⟨rfl, rfl, rfl, rfl, rfl⟩ rfl rfl rfl rfl rfl (by kernel_rfl) Try.func10 FnExactThreeFeet_facts
    (of_decide_eq_true (by kernel_rfl)) (by unfold Func.isWrapper; first | (rw [if_pos (by decide +kernel)]; kernel_rfl) | (rw [if_neg (by decide +kernel)]; exact ⟨rfl, rfl⟩))
    (fun os started H enc _ => FnExactThreeFeet_lifted os started H enc)
end Go.Proofs.Ytgadfldmbpgimaa
