import Derived.Test.YtpffcfiojjgnlaaFg
import Derived.Test.YtpffcfiojjgnlaaFi
import Derived.Test.YtpffcfiojjgnlaaQm
import Derived.Test.YtpffcfiojjgnlaaQn
import Derived.Test.YtpffcfiojjgnlaaProg
set_option linter.unusedSimpArgs false
set_option linter.unusedVariables false
namespace Go.Proofs.Ytpffcfiojjgnlaa
open Go.RowKit
noncomputable section
abbrev k4_0 (coden : Nat) (codel : List Int) : Int × Int × (Int × Int × Int) × (Int × Int) × Int := (s_DrawLinesWithSpread coden codel)
abbrev k4_1 (coden : Nat) (codel : List Int) : (Nat × List Int) × Int := (i_LinesWithSpread ((k4_0 coden codel).1) ((k4_0 coden codel).2.1) ((k4_0 coden codel).2.2.1) ((k4_0 coden codel).2.2.2.1) ((k4_0 coden codel).2.2.2.2))
abbrev k4_2 (coden : Nat) (codel : List Int) : (Nat × List Int) × Int := (s_LinesWithSpread ((k4_0 coden codel).1) ((k4_0 coden codel).2.1) ((k4_0 coden codel).2.2.1) ((k4_0 coden codel).2.2.2.1) ((k4_0 coden codel).2.2.2.2))
abbrev k4_3 (coden : Nat) (codel : List Int) : Bool := (l_lines5 (((k4_1 coden codel).1).1) (((k4_1 coden codel).1).2) (((k4_2 coden codel).1).1) (((k4_2 coden codel).1).2))
abbrev k4_4 (coden : Nat) (codel : List Int) : (Nat × List Int) × Int := (i_CountBySpread ((k4_0 coden codel).1) ((k4_0 coden codel).2.1) ((k4_0 coden codel).2.2.1))
abbrev k4_5 (coden : Nat) (codel : List Int) : Int := (l_sum (((k4_4 coden codel).1).1) (((k4_4 coden codel).1).2))
abbrev k4_6 (coden : Nat) (codel : List Int) : Int × Int := (i_SpreadOf ((k4_0 coden codel).1) ((k4_0 coden codel).2.1) ((k4_0 coden codel).2.2.1) ((((k4_1 coden codel).1).2).getD 0 0, (((k4_1 coden codel).1).2).getD 1 0, (((k4_1 coden codel).1).2).getD 2 0))
abbrev k4_7 (coden : Nat) (codel : List Int) : Bool × Int := (i_IsOnLine ((k4_0 coden codel).1) ((k4_0 coden codel).2.2.2.1) ((((k4_1 coden codel).1).2).getD 0 0, (((k4_1 coden codel).1).2).getD 1 0, (((k4_1 coden codel).1).2).getD 2 0))
abbrev k4_8 (coden : Nat) (codel : List Int) : Int × Int × (Int × Int × Int) × Int × Int × Int := (s_DrawBisectorsOf coden codel)
abbrev k4_9 (coden : Nat) (codel : List Int) : (Nat × List Int) × Int := (i_BisectorsOf ((k4_8 coden codel).1) ((k4_8 coden codel).2.1) ((k4_8 coden codel).2.2.1) ((k4_8 coden codel).2.2.2))
abbrev k4_10 (coden : Nat) (codel : List Int) : (Nat × List Int) × Int := (s_BisectorsOf ((k4_8 coden codel).1) ((k4_8 coden codel).2.1) ((k4_8 coden codel).2.2.1) ((k4_8 coden codel).2.2.2))
abbrev k4_11 (coden : Nat) (codel : List Int) : Bool := (l_lines5 (((k4_9 coden codel).1).1) (((k4_9 coden codel).1).2) (((k4_10 coden codel).1).1) (((k4_10 coden codel).1).2))
abbrev k4_12 (coden : Nat) (codel : List Int) : Int × Int := (i_SpreadOf ((k4_8 coden codel).1) ((k4_8 coden codel).2.1) ((k4_8 coden codel).2.2.1) ((((k4_9 coden codel).1).2).getD 0 0, (((k4_9 coden codel).1).2).getD 1 0, (((k4_9 coden codel).1).2).getD 2 0))
abbrev k4_13 (coden : Nat) (codel : List Int) : Int × Int := (i_SpreadOf ((k4_8 coden codel).1) ((k4_8 coden codel).2.1) ((k4_8 coden codel).2.2.2) ((((k4_9 coden codel).1).2).getD 0 0, (((k4_9 coden codel).1).2).getD 1 0, (((k4_9 coden codel).1).2).getD 2 0))
abbrev k4_14 (coden : Nat) (codel : List Int) : Bool × Int := (i_ArePerpendicular ((k4_8 coden codel).1) ((k4_8 coden codel).2.1) ((((k4_9 coden codel).1).2).getD 0 0, (((k4_9 coden codel).1).2).getD 1 0, (((k4_9 coden codel).1).2).getD 2 0) ((((k4_9 coden codel).1).2).getD 3 0, (((k4_9 coden codel).1).2).getD 4 0, (((k4_9 coden codel).1).2).getD 5 0))
abbrev k4_15 (coden : Nat) (codel : List Int) : Int × Int × Int × Int × Int := (s_DrawCountBySpread coden codel)
abbrev k4_16 (coden : Nat) (codel : List Int) : (Nat × List Int) × Int := (i_CountBySpread ((k4_15 coden codel).1) ((k4_15 coden codel).2.1) ((k4_15 coden codel).2.2))
abbrev k4_17 (coden : Nat) (codel : List Int) : (Nat × List Int) × Int := (s_CountBySpread ((k4_15 coden codel).1) ((k4_15 coden codel).2.1) ((k4_15 coden codel).2.2))
abbrev k4_18 (coden : Nat) (codel : List Int) : Bool := (l_likeInts (((k4_16 coden codel).1).1) (((k4_16 coden codel).1).2) (((k4_17 coden codel).1).1) (((k4_17 coden codel).1).2))
def S_l_FnBisectors : Sums := ⟨tblS [(5, run_l_big), (23, run_s_DrawLinesWithSpread), (24, run_i_LinesWithSpread), (25, run_s_LinesWithSpread), (26, run_l_lines5), (27, run_i_CountBySpread), (18, run_l_sum), (28, run_i_SpreadOf), (22, run_i_IsOnLine), (29, run_s_DrawBisectorsOf), (30, run_i_BisectorsOf), (31, run_s_BisectorsOf), (32, run_i_ArePerpendicular), (33, run_s_DrawCountBySpread), (34, run_s_CountBySpread), (17, run_l_likeInts)], tblM []⟩
theorem SO_l_FnBisectors : SumsOK Try.prog S_l_FnBisectors := ⟨tblS_ok ⟨⟨Try.call5, sound_l_big⟩, ⟨Try.call23, sound_s_DrawLinesWithSpread⟩, ⟨Try.call24, sound_i_LinesWithSpread⟩, ⟨Try.call25, sound_s_LinesWithSpread⟩, ⟨Try.call26, sound_l_lines5⟩, ⟨Try.call27, sound_i_CountBySpread⟩, ⟨Try.call18, sound_l_sum⟩, ⟨Try.call28, sound_i_SpreadOf⟩, ⟨Try.call22, sound_i_IsOnLine⟩, ⟨Try.call29, sound_s_DrawBisectorsOf⟩, ⟨Try.call30, sound_i_BisectorsOf⟩, ⟨Try.call31, sound_s_BisectorsOf⟩, ⟨Try.call32, sound_i_ArePerpendicular⟩, ⟨Try.call33, sound_s_DrawCountBySpread⟩, ⟨Try.call34, sound_s_CountBySpread⟩, ⟨Try.call17, sound_l_likeInts⟩, True.intro⟩, tblM_ok True.intro⟩
def T_l_FnBisectors_0 (coden : Nat) (codel : List Int) (i : Int) : Tab := ⟨[.row 0, .junk, .val (.bool false), .val (.int .i64 ((k4_0 coden codel).1)), .val (.int .i64 ((k4_0 coden codel).2.1)), .ptr 20 0, .ptr 24 0, .val (.int .i64 ((k4_0 coden codel).2.2.2.2)), .row 228, .val (.int .i64 ((k4_1 coden codel).2)), .row 264, .val (.int .i64 ((k4_2 coden codel).2)), .row 336, .val (.int .i64 ((k4_4 coden codel).2)), .val (.int .i64 i), .junk, .junk, .junk, .junk, .junk, .junk, .junk, .junk, .junk, .junk, .junk, .junk, .junk, .junk, .junk, .junk, .junk, .junk, .junk, .junk, .junk, .junk, .junk, .junk, .junk, .junk, .row 0, .val (.bool (l_big coden codel)), .junk, .row 0, .junk, .val (.int .i64 ((k4_0 coden codel).1)), .val (.int .i64 ((k4_0 coden codel).2.1)), .val (.agg ⟨[.int .i64 (((k4_0 coden codel).2.2.1).1), .int .i64 (((k4_0 coden codel).2.2.1).2.1), .int .i64 (((k4_0 coden codel).2.2.1).2.2)]⟩), .val (.agg ⟨[.int .i64 (((k4_0 coden codel).2.2.2.1).1), .int .i64 (((k4_0 coden codel).2.2.2.1).2)]⟩), .val (.int .i64 ((k4_0 coden codel).2.2.2.2)), .junk, .val (.int .i64 ((k4_0 coden codel).1)), .val (.int .i64 ((k4_0 coden codel).2.1)), .val (.agg ⟨[.int .i64 (((k4_0 coden codel).2.2.1).1), .int .i64 (((k4_0 coden codel).2.2.1).2.1), .int .i64 (((k4_0 coden codel).2.2.1).2.2)]⟩), .val (.agg ⟨[.int .i64 (((k4_0 coden codel).2.2.2.1).1), .int .i64 (((k4_0 coden codel).2.2.2.1).2)]⟩), .val (.int .i64 ((k4_0 coden codel).2.2.2.2)), .junk, .row 228, .val (.int .i64 ((k4_1 coden codel).2)), .junk, .val (.int .i64 ((k4_0 coden codel).1)), .val (.int .i64 ((k4_0 coden codel).2.1)), .val (.agg ⟨[.int .i64 (((k4_0 coden codel).2.2.1).1), .int .i64 (((k4_0 coden codel).2.2.1).2.1), .int .i64 (((k4_0 coden codel).2.2.1).2.2)]⟩), .val (.agg ⟨[.int .i64 (((k4_0 coden codel).2.2.2.1).1), .int .i64 (((k4_0 coden codel).2.2.2.1).2)]⟩), .val (.int .i64 ((k4_0 coden codel).2.2.2.2)), .junk, .row 264, .val (.int .i64 ((k4_2 coden codel).2)), .val (.int .i64 ((k4_1 coden codel).2)), .val (.int .i64 ((k4_2 coden codel).2)), .val (.bool (((k4_1 coden codel).2) != ((k4_2 coden codel).2))), .val (.bool false), .row 228, .row 264, .val (.bool (k4_3 coden codel)), .val (.bool (!(k4_3 coden codel))), .val (.bool (!(k4_3 coden codel))), .val (.int .i64 ((k4_1 coden codel).2)), .val (.bool (((k4_1 coden codel).2) == 0)), .junk, .val (.int .i64 ((k4_0 coden codel).1)), .val (.int .i64 ((k4_0 coden codel).2.1)), .val (.agg ⟨[.int .i64 (((k4_0 coden codel).2.2.1).1), .int .i64 (((k4_0 coden codel).2.2.1).2.1), .int .i64 (((k4_0 coden codel).2.2.1).2.2)]⟩), .junk, .row 336, .val (.int .i64 ((k4_4 coden codel).2)), .val (.int .i64 ((k4_4 coden codel).2)), .val (.bool (((k4_4 coden codel).2) != 0)), .val (.bool false), .row 336, .val (.int .i64 ((((k4_4 coden codel).1).1 : Nat) : Int)), .val (.int .i64 ((k4_0 coden codel).1)), .val (.bool (((((k4_4 coden codel).1).1 : Nat) : Int) != ((k4_0 coden codel).1))), .val (.bool (((((k4_4 coden codel).1).1 : Nat) : Int) != ((k4_0 coden codel).1))), .val (.bool false), .row 336, .val (.int .i64 ((k4_0 coden codel).2.2.2.2)), .ptr 336 ((((k4_0 coden codel).2.2.2.2).toNat) * 1), .val (.int .i64 ((((k4_4 coden codel).1).2).getD ((((k4_0 coden codel).2.2.2.2).toNat) * 1) 0)), .row 228, .val (.int .i64 ((((k4_1 coden codel).1).1 : Nat) : Int)), .val (.bool (((((k4_4 coden codel).1).2).getD ((((k4_0 coden codel).2.2.2.2).toNat) * 1) 0) != ((((k4_1 coden codel).1).1 : Nat) : Int))), .val (.bool (((((k4_4 coden codel).1).2).getD ((((k4_0 coden codel).2.2.2.2).toNat) * 1) 0) != ((((k4_1 coden codel).1).1 : Nat) : Int))), .val (.bool false), .row 336, .val (.int .i64 (k4_5 coden codel)), .val (.int .i64 ((k4_0 coden codel).1)), .val (.int .i64 (wI (((k4_0 coden codel).1) + 1))), .val (.bool ((k4_5 coden codel) != (wI (((k4_0 coden codel).1) + 1)))), .val (.bool true), .row 336, .val (.int .i64 (k4_5 coden codel)), .val (.int .i64 ((k4_0 coden codel).1)), .val (.int .i64 (wI (((k4_0 coden codel).1) - 1))), .val (.bool ((k4_5 coden codel) != (wI (((k4_0 coden codel).1) - 1)))), .val (.bool ((k4_5 coden codel) != (wI (((k4_0 coden codel).1) - 1)))), .val (.bool ((k4_5 coden codel) != (wI (((k4_0 coden codel).1) - 1)))), .junk, .junk, .junk, .junk, .junk, .junk, .junk, .junk, .junk, .junk, .junk, .junk, .junk, .junk, .junk, .junk, .junk, .junk, .junk, .junk, .junk, .junk, .junk, .junk, .junk, .junk, .junk, .junk, .junk, .junk, .junk, .junk, .junk, .junk, .junk, .junk, .junk, .junk, .junk, .junk, .junk, .junk, .junk, .junk, .junk, .junk, .junk, .junk, .junk, .junk, .junk, .junk, .junk, .junk, .junk, .junk, .junk, .junk, .junk, .junk, .junk, .junk, .junk, .junk, .junk, .junk, .junk, .junk, .junk, .junk, .junk, .junk, .junk, .junk, .junk, .junk, .junk, .junk, .junk, .junk, .junk, .junk, .junk, .junk, .junk, .junk, .junk, .junk, .junk, .junk, .junk, .junk, .junk, .junk, .junk, .junk, .junk, .junk, .junk, .junk, .junk, .junk, .junk, .junk, .junk, .junk, .junk, .junk, .junk, .junk, .junk, .junk, .junk, .junk, .junk, .junk, .junk, .junk, .junk, .junk, .junk, .junk, .junk, .junk, .junk, .junk, .junk, .junk, .junk, .junk, .junk, .junk, .junk, .junk, .junk, .junk, .junk, .junk, .junk, .junk, .junk, .junk, .junk, .junk, .junk, .junk, .junk, .junk, .junk, .junk, .junk, .junk, .junk, .junk, .junk, .junk, .junk, .junk, .junk, .junk, .junk, .junk, .junk, .junk, .junk, .junk], [(0, .ros coden (.byts codel)), (20, .box 29 [.val (.int .i64 (((k4_0 coden codel).2.2.1).1)), .val (.int .i64 (((k4_0 coden codel).2.2.1).2.1)), .val (.int .i64 (((k4_0 coden codel).2.2.1).2.2))]), (24, .box 25 [.val (.int .i64 (((k4_0 coden codel).2.2.2.1).1)), .val (.int .i64 (((k4_0 coden codel).2.2.2.1).2))]), (228, .row 29 3 (((k4_1 coden codel).1).1) (.ints (((k4_1 coden codel).1).2))), (264, .row 29 3 (((k4_2 coden codel).1).1) (.ints (((k4_2 coden codel).1).2))), (336, .row 2 1 (((k4_4 coden codel).1).1) (.ints (((k4_4 coden codel).1).2)))]⟩
def T_l_FnBisectors_1 (coden : Nat) (codel : List Int) (i : Int) (i' : Int) : Tab := ⟨[.row 0, .junk, .val (.bool false), .val (.int .i64 ((k4_0 coden codel).1)), .val (.int .i64 ((k4_0 coden codel).2.1)), .ptr 20 0, .ptr 24 0, .val (.int .i64 ((k4_0 coden codel).2.2.2.2)), .row 228, .val (.int .i64 ((k4_1 coden codel).2)), .row 264, .val (.int .i64 ((k4_2 coden codel).2)), .row 336, .val (.int .i64 ((k4_4 coden codel).2)), .val (.int .i64 i), .junk, .junk, .junk, .junk, .val (.int .i64 ((k4_8 coden codel).1)), .val (.int .i64 ((k4_8 coden codel).2.1)), .ptr 84 0, .ptr 88 0, .row 688, .val (.int .i64 ((k4_9 coden codel).2)), .row 720, .val (.int .i64 ((k4_10 coden codel).2)), .val (.int .i64 i'), .junk, .junk, .junk, .junk, .junk, .junk, .junk, .junk, .junk, .junk, .junk, .junk, .junk, .row 0, .val (.bool (l_big coden codel)), .junk, .row 0, .junk, .val (.int .i64 ((k4_0 coden codel).1)), .val (.int .i64 ((k4_0 coden codel).2.1)), .val (.agg ⟨[.int .i64 (((k4_0 coden codel).2.2.1).1), .int .i64 (((k4_0 coden codel).2.2.1).2.1), .int .i64 (((k4_0 coden codel).2.2.1).2.2)]⟩), .val (.agg ⟨[.int .i64 (((k4_0 coden codel).2.2.2.1).1), .int .i64 (((k4_0 coden codel).2.2.2.1).2)]⟩), .val (.int .i64 ((k4_0 coden codel).2.2.2.2)), .junk, .val (.int .i64 ((k4_0 coden codel).1)), .val (.int .i64 ((k4_0 coden codel).2.1)), .val (.agg ⟨[.int .i64 (((k4_0 coden codel).2.2.1).1), .int .i64 (((k4_0 coden codel).2.2.1).2.1), .int .i64 (((k4_0 coden codel).2.2.1).2.2)]⟩), .val (.agg ⟨[.int .i64 (((k4_0 coden codel).2.2.2.1).1), .int .i64 (((k4_0 coden codel).2.2.2.1).2)]⟩), .val (.int .i64 ((k4_0 coden codel).2.2.2.2)), .junk, .row 228, .val (.int .i64 ((k4_1 coden codel).2)), .junk, .val (.int .i64 ((k4_0 coden codel).1)), .val (.int .i64 ((k4_0 coden codel).2.1)), .val (.agg ⟨[.int .i64 (((k4_0 coden codel).2.2.1).1), .int .i64 (((k4_0 coden codel).2.2.1).2.1), .int .i64 (((k4_0 coden codel).2.2.1).2.2)]⟩), .val (.agg ⟨[.int .i64 (((k4_0 coden codel).2.2.2.1).1), .int .i64 (((k4_0 coden codel).2.2.2.1).2)]⟩), .val (.int .i64 ((k4_0 coden codel).2.2.2.2)), .junk, .row 264, .val (.int .i64 ((k4_2 coden codel).2)), .val (.int .i64 ((k4_1 coden codel).2)), .val (.int .i64 ((k4_2 coden codel).2)), .val (.bool (((k4_1 coden codel).2) != ((k4_2 coden codel).2))), .val (.bool false), .row 228, .row 264, .val (.bool (k4_3 coden codel)), .val (.bool (!(k4_3 coden codel))), .val (.bool (!(k4_3 coden codel))), .val (.int .i64 ((k4_1 coden codel).2)), .val (.bool (((k4_1 coden codel).2) == 0)), .junk, .val (.int .i64 ((k4_0 coden codel).1)), .val (.int .i64 ((k4_0 coden codel).2.1)), .val (.agg ⟨[.int .i64 (((k4_0 coden codel).2.2.1).1), .int .i64 (((k4_0 coden codel).2.2.1).2.1), .int .i64 (((k4_0 coden codel).2.2.1).2.2)]⟩), .junk, .row 336, .val (.int .i64 ((k4_4 coden codel).2)), .val (.int .i64 ((k4_4 coden codel).2)), .val (.bool (((k4_4 coden codel).2) != 0)), .val (.bool false), .row 336, .val (.int .i64 ((((k4_4 coden codel).1).1 : Nat) : Int)), .val (.int .i64 ((k4_0 coden codel).1)), .val (.bool (((((k4_4 coden codel).1).1 : Nat) : Int) != ((k4_0 coden codel).1))), .val (.bool (((((k4_4 coden codel).1).1 : Nat) : Int) != ((k4_0 coden codel).1))), .val (.bool false), .row 336, .val (.int .i64 ((k4_0 coden codel).2.2.2.2)), .ptr 336 ((((k4_0 coden codel).2.2.2.2).toNat) * 1), .val (.int .i64 ((((k4_4 coden codel).1).2).getD ((((k4_0 coden codel).2.2.2.2).toNat) * 1) 0)), .row 228, .val (.int .i64 ((((k4_1 coden codel).1).1 : Nat) : Int)), .val (.bool (((((k4_4 coden codel).1).2).getD ((((k4_0 coden codel).2.2.2.2).toNat) * 1) 0) != ((((k4_1 coden codel).1).1 : Nat) : Int))), .val (.bool (((((k4_4 coden codel).1).2).getD ((((k4_0 coden codel).2.2.2.2).toNat) * 1) 0) != ((((k4_1 coden codel).1).1 : Nat) : Int))), .val (.bool false), .row 336, .val (.int .i64 (k4_5 coden codel)), .val (.int .i64 ((k4_0 coden codel).1)), .val (.int .i64 (wI (((k4_0 coden codel).1) + 1))), .val (.bool ((k4_5 coden codel) != (wI (((k4_0 coden codel).1) + 1)))), .val (.bool true), .row 336, .val (.int .i64 (k4_5 coden codel)), .val (.int .i64 ((k4_0 coden codel).1)), .val (.int .i64 (wI (((k4_0 coden codel).1) - 1))), .val (.bool ((k4_5 coden codel) != (wI (((k4_0 coden codel).1) - 1)))), .val (.bool ((k4_5 coden codel) != (wI (((k4_0 coden codel).1) - 1)))), .val (.bool ((k4_5 coden codel) != (wI (((k4_0 coden codel).1) - 1)))), .val (.int .i64 i), .row 228, .val (.int .i64 ((((k4_1 coden codel).1).1 : Nat) : Int)), .val (.bool (decide (i < ((((k4_1 coden codel).1).1 : Nat) : Int)))), .junk, .junk, .junk, .junk, .junk, .junk, .junk, .junk, .junk, .junk, .junk, .junk, .junk, .junk, .junk, .junk, .junk, .junk, .junk, .junk, .junk, .junk, .junk, .junk, .junk, .junk, .junk, .junk, .junk, .junk, .junk, .junk, .junk, .junk, .junk, .junk, .junk, .junk, .junk, .row 0, .junk, .val (.int .i64 ((k4_8 coden codel).1)), .val (.int .i64 ((k4_8 coden codel).2.1)), .val (.agg ⟨[.int .i64 (((k4_8 coden codel).2.2.1).1), .int .i64 (((k4_8 coden codel).2.2.1).2.1), .int .i64 (((k4_8 coden codel).2.2.1).2.2)]⟩), .val (.agg ⟨[.int .i64 (((k4_8 coden codel).2.2.2).1), .int .i64 (((k4_8 coden codel).2.2.2).2.1), .int .i64 (((k4_8 coden codel).2.2.2).2.2)]⟩), .junk, .val (.int .i64 ((k4_8 coden codel).1)), .val (.int .i64 ((k4_8 coden codel).2.1)), .val (.agg ⟨[.int .i64 (((k4_8 coden codel).2.2.1).1), .int .i64 (((k4_8 coden codel).2.2.1).2.1), .int .i64 (((k4_8 coden codel).2.2.1).2.2)]⟩), .val (.agg ⟨[.int .i64 (((k4_8 coden codel).2.2.2).1), .int .i64 (((k4_8 coden codel).2.2.2).2.1), .int .i64 (((k4_8 coden codel).2.2.2).2.2)]⟩), .junk, .row 688, .val (.int .i64 ((k4_9 coden codel).2)), .junk, .val (.int .i64 ((k4_8 coden codel).1)), .val (.int .i64 ((k4_8 coden codel).2.1)), .val (.agg ⟨[.int .i64 (((k4_8 coden codel).2.2.1).1), .int .i64 (((k4_8 coden codel).2.2.1).2.1), .int .i64 (((k4_8 coden codel).2.2.1).2.2)]⟩), .val (.agg ⟨[.int .i64 (((k4_8 coden codel).2.2.2).1), .int .i64 (((k4_8 coden codel).2.2.2).2.1), .int .i64 (((k4_8 coden codel).2.2.2).2.2)]⟩), .junk, .row 720, .val (.int .i64 ((k4_10 coden codel).2)), .val (.int .i64 ((k4_9 coden codel).2)), .val (.int .i64 ((k4_10 coden codel).2)), .val (.bool (((k4_9 coden codel).2) != ((k4_10 coden codel).2))), .val (.bool false), .row 688, .row 720, .val (.bool (k4_11 coden codel)), .val (.bool (!(k4_11 coden codel))), .val (.bool (!(k4_11 coden codel))), .junk, .junk, .junk, .junk, .junk, .junk, .junk, .junk, .junk, .junk, .junk, .junk, .junk, .junk, .junk, .junk, .junk, .junk, .junk, .junk, .junk, .junk, .junk, .junk, .junk, .junk, .junk, .junk, .junk, .junk, .junk, .junk, .junk, .junk, .junk, .junk, .junk, .junk, .junk, .junk, .junk, .junk, .junk, .junk, .junk, .junk, .junk, .junk, .junk, .junk, .junk, .junk, .junk, .junk, .junk, .junk, .junk, .junk, .junk, .junk, .junk, .junk, .junk, .junk, .junk, .junk, .junk, .junk, .junk, .junk, .junk, .junk, .junk, .junk, .junk, .junk, .junk, .junk, .junk, .junk, .junk, .junk, .junk, .junk, .junk, .junk, .junk, .junk, .junk, .junk, .junk, .junk], [(0, .ros coden (.byts codel)), (20, .box 29 [.val (.int .i64 (((k4_0 coden codel).2.2.1).1)), .val (.int .i64 (((k4_0 coden codel).2.2.1).2.1)), .val (.int .i64 (((k4_0 coden codel).2.2.1).2.2))]), (24, .box 25 [.val (.int .i64 (((k4_0 coden codel).2.2.2.1).1)), .val (.int .i64 (((k4_0 coden codel).2.2.2.1).2))]), (84, .box 29 [.val (.int .i64 (((k4_8 coden codel).2.2.1).1)), .val (.int .i64 (((k4_8 coden codel).2.2.1).2.1)), .val (.int .i64 (((k4_8 coden codel).2.2.1).2.2))]), (88, .box 29 [.val (.int .i64 (((k4_8 coden codel).2.2.2).1)), .val (.int .i64 (((k4_8 coden codel).2.2.2).2.1)), .val (.int .i64 (((k4_8 coden codel).2.2.2).2.2))]), (228, .row 29 3 (((k4_1 coden codel).1).1) (.ints (((k4_1 coden codel).1).2))), (264, .row 29 3 (((k4_2 coden codel).1).1) (.ints (((k4_2 coden codel).1).2))), (336, .row 2 1 (((k4_4 coden codel).1).1) (.ints (((k4_4 coden codel).1).2))), (688, .row 29 3 (((k4_9 coden codel).1).1) (.ints (((k4_9 coden codel).1).2))), (720, .row 29 3 (((k4_10 coden codel).1).1) (.ints (((k4_10 coden codel).1).2)))]⟩
def T_l_FnBisectors_2 (coden : Nat) (codel : List Int) (i : Int) : Tab := ⟨[.row 0, .junk, .val (.bool false), .val (.int .i64 ((k4_0 coden codel).1)), .val (.int .i64 ((k4_0 coden codel).2.1)), .ptr 20 0, .ptr 24 0, .val (.int .i64 ((k4_0 coden codel).2.2.2.2)), .row 228, .val (.int .i64 ((k4_1 coden codel).2)), .row 264, .val (.int .i64 ((k4_2 coden codel).2)), .row 336, .val (.int .i64 ((k4_4 coden codel).2)), .val (.int .i64 i), .junk, .junk, .junk, .junk, .junk, .junk, .junk, .junk, .junk, .junk, .junk, .junk, .junk, .junk, .junk, .junk, .junk, .junk, .junk, .junk, .junk, .junk, .junk, .junk, .junk, .junk, .row 0, .val (.bool (l_big coden codel)), .junk, .row 0, .junk, .val (.int .i64 ((k4_0 coden codel).1)), .val (.int .i64 ((k4_0 coden codel).2.1)), .val (.agg ⟨[.int .i64 (((k4_0 coden codel).2.2.1).1), .int .i64 (((k4_0 coden codel).2.2.1).2.1), .int .i64 (((k4_0 coden codel).2.2.1).2.2)]⟩), .val (.agg ⟨[.int .i64 (((k4_0 coden codel).2.2.2.1).1), .int .i64 (((k4_0 coden codel).2.2.2.1).2)]⟩), .val (.int .i64 ((k4_0 coden codel).2.2.2.2)), .junk, .val (.int .i64 ((k4_0 coden codel).1)), .val (.int .i64 ((k4_0 coden codel).2.1)), .val (.agg ⟨[.int .i64 (((k4_0 coden codel).2.2.1).1), .int .i64 (((k4_0 coden codel).2.2.1).2.1), .int .i64 (((k4_0 coden codel).2.2.1).2.2)]⟩), .val (.agg ⟨[.int .i64 (((k4_0 coden codel).2.2.2.1).1), .int .i64 (((k4_0 coden codel).2.2.2.1).2)]⟩), .val (.int .i64 ((k4_0 coden codel).2.2.2.2)), .junk, .row 228, .val (.int .i64 ((k4_1 coden codel).2)), .junk, .val (.int .i64 ((k4_0 coden codel).1)), .val (.int .i64 ((k4_0 coden codel).2.1)), .val (.agg ⟨[.int .i64 (((k4_0 coden codel).2.2.1).1), .int .i64 (((k4_0 coden codel).2.2.1).2.1), .int .i64 (((k4_0 coden codel).2.2.1).2.2)]⟩), .val (.agg ⟨[.int .i64 (((k4_0 coden codel).2.2.2.1).1), .int .i64 (((k4_0 coden codel).2.2.2.1).2)]⟩), .val (.int .i64 ((k4_0 coden codel).2.2.2.2)), .junk, .row 264, .val (.int .i64 ((k4_2 coden codel).2)), .val (.int .i64 ((k4_1 coden codel).2)), .val (.int .i64 ((k4_2 coden codel).2)), .val (.bool (((k4_1 coden codel).2) != ((k4_2 coden codel).2))), .val (.bool false), .row 228, .row 264, .val (.bool (k4_3 coden codel)), .val (.bool (!(k4_3 coden codel))), .val (.bool (!(k4_3 coden codel))), .val (.int .i64 ((k4_1 coden codel).2)), .val (.bool (((k4_1 coden codel).2) == 0)), .junk, .val (.int .i64 ((k4_0 coden codel).1)), .val (.int .i64 ((k4_0 coden codel).2.1)), .val (.agg ⟨[.int .i64 (((k4_0 coden codel).2.2.1).1), .int .i64 (((k4_0 coden codel).2.2.1).2.1), .int .i64 (((k4_0 coden codel).2.2.1).2.2)]⟩), .junk, .row 336, .val (.int .i64 ((k4_4 coden codel).2)), .val (.int .i64 ((k4_4 coden codel).2)), .val (.bool (((k4_4 coden codel).2) != 0)), .val (.bool false), .row 336, .val (.int .i64 ((((k4_4 coden codel).1).1 : Nat) : Int)), .val (.int .i64 ((k4_0 coden codel).1)), .val (.bool (((((k4_4 coden codel).1).1 : Nat) : Int) != ((k4_0 coden codel).1))), .val (.bool (((((k4_4 coden codel).1).1 : Nat) : Int) != ((k4_0 coden codel).1))), .val (.bool false), .row 336, .val (.int .i64 ((k4_0 coden codel).2.2.2.2)), .ptr 336 ((((k4_0 coden codel).2.2.2.2).toNat) * 1), .val (.int .i64 ((((k4_4 coden codel).1).2).getD ((((k4_0 coden codel).2.2.2.2).toNat) * 1) 0)), .row 228, .val (.int .i64 ((((k4_1 coden codel).1).1 : Nat) : Int)), .val (.bool (((((k4_4 coden codel).1).2).getD ((((k4_0 coden codel).2.2.2.2).toNat) * 1) 0) != ((((k4_1 coden codel).1).1 : Nat) : Int))), .val (.bool (((((k4_4 coden codel).1).2).getD ((((k4_0 coden codel).2.2.2.2).toNat) * 1) 0) != ((((k4_1 coden codel).1).1 : Nat) : Int))), .val (.bool false), .row 336, .val (.int .i64 (k4_5 coden codel)), .val (.int .i64 ((k4_0 coden codel).1)), .val (.int .i64 (wI (((k4_0 coden codel).1) + 1))), .val (.bool ((k4_5 coden codel) != (wI (((k4_0 coden codel).1) + 1)))), .val (.bool false), .val (undef), .val (undef), .val (undef), .val (undef), .val (undef), .val (.bool false), .val (.bool false), .junk, .junk, .junk, .junk, .junk, .junk, .junk, .junk, .junk, .junk, .junk, .junk, .junk, .junk, .junk, .junk, .junk, .junk, .junk, .junk, .junk, .junk, .junk, .junk, .junk, .junk, .junk, .junk, .junk, .junk, .junk, .junk, .junk, .junk, .junk, .junk, .junk, .junk, .junk, .junk, .junk, .junk, .junk, .junk, .junk, .junk, .junk, .junk, .junk, .junk, .junk, .junk, .junk, .junk, .junk, .junk, .junk, .junk, .junk, .junk, .junk, .junk, .junk, .junk, .junk, .junk, .junk, .junk, .junk, .junk, .junk, .junk, .junk, .junk, .junk, .junk, .junk, .junk, .junk, .junk, .junk, .junk, .junk, .junk, .junk, .junk, .junk, .junk, .junk, .junk, .junk, .junk, .junk, .junk, .junk, .junk, .junk, .junk, .junk, .junk, .junk, .junk, .junk, .junk, .junk, .junk, .junk, .junk, .junk, .junk, .junk, .junk, .junk, .junk, .junk, .junk, .junk, .junk, .junk, .junk, .junk, .junk, .junk, .junk, .junk, .junk, .junk, .junk, .junk, .junk, .junk, .junk, .junk, .junk, .junk, .junk, .junk, .junk, .junk, .junk, .junk, .junk, .junk, .junk, .junk, .junk, .junk, .junk, .junk, .junk, .junk, .junk, .junk, .junk, .junk, .junk, .junk, .junk, .junk, .junk, .junk, .junk, .junk, .junk, .junk, .junk], [(0, .ros coden (.byts codel)), (20, .box 29 [.val (.int .i64 (((k4_0 coden codel).2.2.1).1)), .val (.int .i64 (((k4_0 coden codel).2.2.1).2.1)), .val (.int .i64 (((k4_0 coden codel).2.2.1).2.2))]), (24, .box 25 [.val (.int .i64 (((k4_0 coden codel).2.2.2.1).1)), .val (.int .i64 (((k4_0 coden codel).2.2.2.1).2))]), (228, .row 29 3 (((k4_1 coden codel).1).1) (.ints (((k4_1 coden codel).1).2))), (264, .row 29 3 (((k4_2 coden codel).1).1) (.ints (((k4_2 coden codel).1).2))), (336, .row 2 1 (((k4_4 coden codel).1).1) (.ints (((k4_4 coden codel).1).2)))]⟩
def T_l_FnBisectors_3 (coden : Nat) (codel : List Int) (i : Int) (i' : Int) : Tab := ⟨[.row 0, .junk, .val (.bool false), .val (.int .i64 ((k4_0 coden codel).1)), .val (.int .i64 ((k4_0 coden codel).2.1)), .ptr 20 0, .ptr 24 0, .val (.int .i64 ((k4_0 coden codel).2.2.2.2)), .row 228, .val (.int .i64 ((k4_1 coden codel).2)), .row 264, .val (.int .i64 ((k4_2 coden codel).2)), .row 336, .val (.int .i64 ((k4_4 coden codel).2)), .val (.int .i64 i), .junk, .junk, .junk, .junk, .val (.int .i64 ((k4_8 coden codel).1)), .val (.int .i64 ((k4_8 coden codel).2.1)), .ptr 84 0, .ptr 88 0, .row 688, .val (.int .i64 ((k4_9 coden codel).2)), .row 720, .val (.int .i64 ((k4_10 coden codel).2)), .val (.int .i64 i'), .junk, .junk, .junk, .junk, .junk, .junk, .junk, .junk, .junk, .junk, .junk, .junk, .junk, .row 0, .val (.bool (l_big coden codel)), .junk, .row 0, .junk, .val (.int .i64 ((k4_0 coden codel).1)), .val (.int .i64 ((k4_0 coden codel).2.1)), .val (.agg ⟨[.int .i64 (((k4_0 coden codel).2.2.1).1), .int .i64 (((k4_0 coden codel).2.2.1).2.1), .int .i64 (((k4_0 coden codel).2.2.1).2.2)]⟩), .val (.agg ⟨[.int .i64 (((k4_0 coden codel).2.2.2.1).1), .int .i64 (((k4_0 coden codel).2.2.2.1).2)]⟩), .val (.int .i64 ((k4_0 coden codel).2.2.2.2)), .junk, .val (.int .i64 ((k4_0 coden codel).1)), .val (.int .i64 ((k4_0 coden codel).2.1)), .val (.agg ⟨[.int .i64 (((k4_0 coden codel).2.2.1).1), .int .i64 (((k4_0 coden codel).2.2.1).2.1), .int .i64 (((k4_0 coden codel).2.2.1).2.2)]⟩), .val (.agg ⟨[.int .i64 (((k4_0 coden codel).2.2.2.1).1), .int .i64 (((k4_0 coden codel).2.2.2.1).2)]⟩), .val (.int .i64 ((k4_0 coden codel).2.2.2.2)), .junk, .row 228, .val (.int .i64 ((k4_1 coden codel).2)), .junk, .val (.int .i64 ((k4_0 coden codel).1)), .val (.int .i64 ((k4_0 coden codel).2.1)), .val (.agg ⟨[.int .i64 (((k4_0 coden codel).2.2.1).1), .int .i64 (((k4_0 coden codel).2.2.1).2.1), .int .i64 (((k4_0 coden codel).2.2.1).2.2)]⟩), .val (.agg ⟨[.int .i64 (((k4_0 coden codel).2.2.2.1).1), .int .i64 (((k4_0 coden codel).2.2.2.1).2)]⟩), .val (.int .i64 ((k4_0 coden codel).2.2.2.2)), .junk, .row 264, .val (.int .i64 ((k4_2 coden codel).2)), .val (.int .i64 ((k4_1 coden codel).2)), .val (.int .i64 ((k4_2 coden codel).2)), .val (.bool (((k4_1 coden codel).2) != ((k4_2 coden codel).2))), .val (.bool false), .row 228, .row 264, .val (.bool (k4_3 coden codel)), .val (.bool (!(k4_3 coden codel))), .val (.bool (!(k4_3 coden codel))), .val (.int .i64 ((k4_1 coden codel).2)), .val (.bool (((k4_1 coden codel).2) == 0)), .junk, .val (.int .i64 ((k4_0 coden codel).1)), .val (.int .i64 ((k4_0 coden codel).2.1)), .val (.agg ⟨[.int .i64 (((k4_0 coden codel).2.2.1).1), .int .i64 (((k4_0 coden codel).2.2.1).2.1), .int .i64 (((k4_0 coden codel).2.2.1).2.2)]⟩), .junk, .row 336, .val (.int .i64 ((k4_4 coden codel).2)), .val (.int .i64 ((k4_4 coden codel).2)), .val (.bool (((k4_4 coden codel).2) != 0)), .val (.bool false), .row 336, .val (.int .i64 ((((k4_4 coden codel).1).1 : Nat) : Int)), .val (.int .i64 ((k4_0 coden codel).1)), .val (.bool (((((k4_4 coden codel).1).1 : Nat) : Int) != ((k4_0 coden codel).1))), .val (.bool (((((k4_4 coden codel).1).1 : Nat) : Int) != ((k4_0 coden codel).1))), .val (.bool false), .row 336, .val (.int .i64 ((k4_0 coden codel).2.2.2.2)), .ptr 336 ((((k4_0 coden codel).2.2.2.2).toNat) * 1), .val (.int .i64 ((((k4_4 coden codel).1).2).getD ((((k4_0 coden codel).2.2.2.2).toNat) * 1) 0)), .row 228, .val (.int .i64 ((((k4_1 coden codel).1).1 : Nat) : Int)), .val (.bool (((((k4_4 coden codel).1).2).getD ((((k4_0 coden codel).2.2.2.2).toNat) * 1) 0) != ((((k4_1 coden codel).1).1 : Nat) : Int))), .val (.bool (((((k4_4 coden codel).1).2).getD ((((k4_0 coden codel).2.2.2.2).toNat) * 1) 0) != ((((k4_1 coden codel).1).1 : Nat) : Int))), .val (.bool false), .row 336, .val (.int .i64 (k4_5 coden codel)), .val (.int .i64 ((k4_0 coden codel).1)), .val (.int .i64 (wI (((k4_0 coden codel).1) + 1))), .val (.bool ((k4_5 coden codel) != (wI (((k4_0 coden codel).1) + 1)))), .val (.bool false), .val (undef), .val (undef), .val (undef), .val (undef), .val (undef), .val (.bool false), .val (.bool false), .val (.int .i64 i), .row 228, .val (.int .i64 ((((k4_1 coden codel).1).1 : Nat) : Int)), .val (.bool (decide (i < ((((k4_1 coden codel).1).1 : Nat) : Int)))), .junk, .junk, .junk, .junk, .junk, .junk, .junk, .junk, .junk, .junk, .junk, .junk, .junk, .junk, .junk, .junk, .junk, .junk, .junk, .junk, .junk, .junk, .junk, .junk, .junk, .junk, .junk, .junk, .junk, .junk, .junk, .junk, .junk, .junk, .junk, .junk, .junk, .junk, .junk, .row 0, .junk, .val (.int .i64 ((k4_8 coden codel).1)), .val (.int .i64 ((k4_8 coden codel).2.1)), .val (.agg ⟨[.int .i64 (((k4_8 coden codel).2.2.1).1), .int .i64 (((k4_8 coden codel).2.2.1).2.1), .int .i64 (((k4_8 coden codel).2.2.1).2.2)]⟩), .val (.agg ⟨[.int .i64 (((k4_8 coden codel).2.2.2).1), .int .i64 (((k4_8 coden codel).2.2.2).2.1), .int .i64 (((k4_8 coden codel).2.2.2).2.2)]⟩), .junk, .val (.int .i64 ((k4_8 coden codel).1)), .val (.int .i64 ((k4_8 coden codel).2.1)), .val (.agg ⟨[.int .i64 (((k4_8 coden codel).2.2.1).1), .int .i64 (((k4_8 coden codel).2.2.1).2.1), .int .i64 (((k4_8 coden codel).2.2.1).2.2)]⟩), .val (.agg ⟨[.int .i64 (((k4_8 coden codel).2.2.2).1), .int .i64 (((k4_8 coden codel).2.2.2).2.1), .int .i64 (((k4_8 coden codel).2.2.2).2.2)]⟩), .junk, .row 688, .val (.int .i64 ((k4_9 coden codel).2)), .junk, .val (.int .i64 ((k4_8 coden codel).1)), .val (.int .i64 ((k4_8 coden codel).2.1)), .val (.agg ⟨[.int .i64 (((k4_8 coden codel).2.2.1).1), .int .i64 (((k4_8 coden codel).2.2.1).2.1), .int .i64 (((k4_8 coden codel).2.2.1).2.2)]⟩), .val (.agg ⟨[.int .i64 (((k4_8 coden codel).2.2.2).1), .int .i64 (((k4_8 coden codel).2.2.2).2.1), .int .i64 (((k4_8 coden codel).2.2.2).2.2)]⟩), .junk, .row 720, .val (.int .i64 ((k4_10 coden codel).2)), .val (.int .i64 ((k4_9 coden codel).2)), .val (.int .i64 ((k4_10 coden codel).2)), .val (.bool (((k4_9 coden codel).2) != ((k4_10 coden codel).2))), .val (.bool false), .row 688, .row 720, .val (.bool (k4_11 coden codel)), .val (.bool (!(k4_11 coden codel))), .val (.bool (!(k4_11 coden codel))), .junk, .junk, .junk, .junk, .junk, .junk, .junk, .junk, .junk, .junk, .junk, .junk, .junk, .junk, .junk, .junk, .junk, .junk, .junk, .junk, .junk, .junk, .junk, .junk, .junk, .junk, .junk, .junk, .junk, .junk, .junk, .junk, .junk, .junk, .junk, .junk, .junk, .junk, .junk, .junk, .junk, .junk, .junk, .junk, .junk, .junk, .junk, .junk, .junk, .junk, .junk, .junk, .junk, .junk, .junk, .junk, .junk, .junk, .junk, .junk, .junk, .junk, .junk, .junk, .junk, .junk, .junk, .junk, .junk, .junk, .junk, .junk, .junk, .junk, .junk, .junk, .junk, .junk, .junk, .junk, .junk, .junk, .junk, .junk, .junk, .junk, .junk, .junk, .junk, .junk, .junk, .junk], [(0, .ros coden (.byts codel)), (20, .box 29 [.val (.int .i64 (((k4_0 coden codel).2.2.1).1)), .val (.int .i64 (((k4_0 coden codel).2.2.1).2.1)), .val (.int .i64 (((k4_0 coden codel).2.2.1).2.2))]), (24, .box 25 [.val (.int .i64 (((k4_0 coden codel).2.2.2.1).1)), .val (.int .i64 (((k4_0 coden codel).2.2.2.1).2))]), (84, .box 29 [.val (.int .i64 (((k4_8 coden codel).2.2.1).1)), .val (.int .i64 (((k4_8 coden codel).2.2.1).2.1)), .val (.int .i64 (((k4_8 coden codel).2.2.1).2.2))]), (88, .box 29 [.val (.int .i64 (((k4_8 coden codel).2.2.2).1)), .val (.int .i64 (((k4_8 coden codel).2.2.2).2.1)), .val (.int .i64 (((k4_8 coden codel).2.2.2).2.2))]), (228, .row 29 3 (((k4_1 coden codel).1).1) (.ints (((k4_1 coden codel).1).2))), (264, .row 29 3 (((k4_2 coden codel).1).1) (.ints (((k4_2 coden codel).1).2))), (336, .row 2 1 (((k4_4 coden codel).1).1) (.ints (((k4_4 coden codel).1).2))), (688, .row 29 3 (((k4_9 coden codel).1).1) (.ints (((k4_9 coden codel).1).2))), (720, .row 29 3 (((k4_10 coden codel).1).1) (.ints (((k4_10 coden codel).1).2)))]⟩
def T_l_FnBisectors_4 (coden : Nat) (codel : List Int) (i : Int) : Tab := ⟨[.row 0, .junk, .val (.bool false), .val (.int .i64 ((k4_0 coden codel).1)), .val (.int .i64 ((k4_0 coden codel).2.1)), .ptr 20 0, .ptr 24 0, .val (.int .i64 ((k4_0 coden codel).2.2.2.2)), .row 228, .val (.int .i64 ((k4_1 coden codel).2)), .row 264, .val (.int .i64 ((k4_2 coden codel).2)), .junk, .junk, .junk, .junk, .junk, .junk, .junk, .val (.int .i64 ((k4_8 coden codel).1)), .val (.int .i64 ((k4_8 coden codel).2.1)), .ptr 84 0, .ptr 88 0, .row 688, .val (.int .i64 ((k4_9 coden codel).2)), .row 720, .val (.int .i64 ((k4_10 coden codel).2)), .val (.int .i64 i), .junk, .junk, .junk, .junk, .junk, .junk, .junk, .junk, .junk, .junk, .junk, .junk, .junk, .row 0, .val (.bool (l_big coden codel)), .junk, .row 0, .junk, .val (.int .i64 ((k4_0 coden codel).1)), .val (.int .i64 ((k4_0 coden codel).2.1)), .val (.agg ⟨[.int .i64 (((k4_0 coden codel).2.2.1).1), .int .i64 (((k4_0 coden codel).2.2.1).2.1), .int .i64 (((k4_0 coden codel).2.2.1).2.2)]⟩), .val (.agg ⟨[.int .i64 (((k4_0 coden codel).2.2.2.1).1), .int .i64 (((k4_0 coden codel).2.2.2.1).2)]⟩), .val (.int .i64 ((k4_0 coden codel).2.2.2.2)), .junk, .val (.int .i64 ((k4_0 coden codel).1)), .val (.int .i64 ((k4_0 coden codel).2.1)), .val (.agg ⟨[.int .i64 (((k4_0 coden codel).2.2.1).1), .int .i64 (((k4_0 coden codel).2.2.1).2.1), .int .i64 (((k4_0 coden codel).2.2.1).2.2)]⟩), .val (.agg ⟨[.int .i64 (((k4_0 coden codel).2.2.2.1).1), .int .i64 (((k4_0 coden codel).2.2.2.1).2)]⟩), .val (.int .i64 ((k4_0 coden codel).2.2.2.2)), .junk, .row 228, .val (.int .i64 ((k4_1 coden codel).2)), .junk, .val (.int .i64 ((k4_0 coden codel).1)), .val (.int .i64 ((k4_0 coden codel).2.1)), .val (.agg ⟨[.int .i64 (((k4_0 coden codel).2.2.1).1), .int .i64 (((k4_0 coden codel).2.2.1).2.1), .int .i64 (((k4_0 coden codel).2.2.1).2.2)]⟩), .val (.agg ⟨[.int .i64 (((k4_0 coden codel).2.2.2.1).1), .int .i64 (((k4_0 coden codel).2.2.2.1).2)]⟩), .val (.int .i64 ((k4_0 coden codel).2.2.2.2)), .junk, .row 264, .val (.int .i64 ((k4_2 coden codel).2)), .val (.int .i64 ((k4_1 coden codel).2)), .val (.int .i64 ((k4_2 coden codel).2)), .val (.bool (((k4_1 coden codel).2) != ((k4_2 coden codel).2))), .val (.bool false), .row 228, .row 264, .val (.bool (k4_3 coden codel)), .val (.bool (!(k4_3 coden codel))), .val (.bool (!(k4_3 coden codel))), .val (.int .i64 ((k4_1 coden codel).2)), .val (.bool (((k4_1 coden codel).2) == 0)), .junk, .junk, .junk, .junk, .junk, .junk, .junk, .junk, .junk, .junk, .junk, .junk, .junk, .junk, .junk, .junk, .junk, .junk, .junk, .junk, .junk, .junk, .junk, .junk, .junk, .junk, .junk, .junk, .junk, .junk, .junk, .junk, .junk, .junk, .junk, .junk, .junk, .junk, .junk, .junk, .junk, .junk, .junk, .junk, .junk, .junk, .junk, .junk, .junk, .junk, .junk, .junk, .junk, .junk, .junk, .junk, .junk, .junk, .junk, .junk, .junk, .junk, .junk, .junk, .junk, .junk, .junk, .junk, .junk, .junk, .junk, .junk, .junk, .junk, .junk, .junk, .junk, .junk, .junk, .junk, .junk, .row 0, .junk, .val (.int .i64 ((k4_8 coden codel).1)), .val (.int .i64 ((k4_8 coden codel).2.1)), .val (.agg ⟨[.int .i64 (((k4_8 coden codel).2.2.1).1), .int .i64 (((k4_8 coden codel).2.2.1).2.1), .int .i64 (((k4_8 coden codel).2.2.1).2.2)]⟩), .val (.agg ⟨[.int .i64 (((k4_8 coden codel).2.2.2).1), .int .i64 (((k4_8 coden codel).2.2.2).2.1), .int .i64 (((k4_8 coden codel).2.2.2).2.2)]⟩), .junk, .val (.int .i64 ((k4_8 coden codel).1)), .val (.int .i64 ((k4_8 coden codel).2.1)), .val (.agg ⟨[.int .i64 (((k4_8 coden codel).2.2.1).1), .int .i64 (((k4_8 coden codel).2.2.1).2.1), .int .i64 (((k4_8 coden codel).2.2.1).2.2)]⟩), .val (.agg ⟨[.int .i64 (((k4_8 coden codel).2.2.2).1), .int .i64 (((k4_8 coden codel).2.2.2).2.1), .int .i64 (((k4_8 coden codel).2.2.2).2.2)]⟩), .junk, .row 688, .val (.int .i64 ((k4_9 coden codel).2)), .junk, .val (.int .i64 ((k4_8 coden codel).1)), .val (.int .i64 ((k4_8 coden codel).2.1)), .val (.agg ⟨[.int .i64 (((k4_8 coden codel).2.2.1).1), .int .i64 (((k4_8 coden codel).2.2.1).2.1), .int .i64 (((k4_8 coden codel).2.2.1).2.2)]⟩), .val (.agg ⟨[.int .i64 (((k4_8 coden codel).2.2.2).1), .int .i64 (((k4_8 coden codel).2.2.2).2.1), .int .i64 (((k4_8 coden codel).2.2.2).2.2)]⟩), .junk, .row 720, .val (.int .i64 ((k4_10 coden codel).2)), .val (.int .i64 ((k4_9 coden codel).2)), .val (.int .i64 ((k4_10 coden codel).2)), .val (.bool (((k4_9 coden codel).2) != ((k4_10 coden codel).2))), .val (.bool false), .row 688, .row 720, .val (.bool (k4_11 coden codel)), .val (.bool (!(k4_11 coden codel))), .val (.bool (!(k4_11 coden codel))), .junk, .junk, .junk, .junk, .junk, .junk, .junk, .junk, .junk, .junk, .junk, .junk, .junk, .junk, .junk, .junk, .junk, .junk, .junk, .junk, .junk, .junk, .junk, .junk, .junk, .junk, .junk, .junk, .junk, .junk, .junk, .junk, .junk, .junk, .junk, .junk, .junk, .junk, .junk, .junk, .junk, .junk, .junk, .junk, .junk, .junk, .junk, .junk, .junk, .junk, .junk, .junk, .junk, .junk, .junk, .junk, .junk, .junk, .junk, .junk, .junk, .junk, .junk, .junk, .junk, .junk, .junk, .junk, .junk, .junk, .junk, .junk, .junk, .junk, .junk, .junk, .junk, .junk, .junk, .junk, .junk, .junk, .junk, .junk, .junk, .junk, .junk, .junk, .junk, .junk, .junk, .junk], [(0, .ros coden (.byts codel)), (20, .box 29 [.val (.int .i64 (((k4_0 coden codel).2.2.1).1)), .val (.int .i64 (((k4_0 coden codel).2.2.1).2.1)), .val (.int .i64 (((k4_0 coden codel).2.2.1).2.2))]), (24, .box 25 [.val (.int .i64 (((k4_0 coden codel).2.2.2.1).1)), .val (.int .i64 (((k4_0 coden codel).2.2.2.1).2))]), (84, .box 29 [.val (.int .i64 (((k4_8 coden codel).2.2.1).1)), .val (.int .i64 (((k4_8 coden codel).2.2.1).2.1)), .val (.int .i64 (((k4_8 coden codel).2.2.1).2.2))]), (88, .box 29 [.val (.int .i64 (((k4_8 coden codel).2.2.2).1)), .val (.int .i64 (((k4_8 coden codel).2.2.2).2.1)), .val (.int .i64 (((k4_8 coden codel).2.2.2).2.2))]), (228, .row 29 3 (((k4_1 coden codel).1).1) (.ints (((k4_1 coden codel).1).2))), (264, .row 29 3 (((k4_2 coden codel).1).1) (.ints (((k4_2 coden codel).1).2))), (688, .row 29 3 (((k4_9 coden codel).1).1) (.ints (((k4_9 coden codel).1).2))), (720, .row 29 3 (((k4_10 coden codel).1).1) (.ints (((k4_10 coden codel).1).2)))]⟩
def X_l_FnBisectors_1 (P : Program) (fu : Nat) (coden : Nat) (codel : List Int) (i : Int) (rc0 : Tab → Option (Bool)) (f : Nat) (i' : Int) : Option (Bool) := loopK (exec P S_l_FnBisectors 284 (fun _ => fu + 100) (Code.sub [1, 1, 1, 1, 1, 1, 1, 1, 1, 1, 1, 0, 1, 0, 0] (bodyF P 4))) f (T_l_FnBisectors_1 coden codel i i') (kBlock 2 (kSeq (fun s => exec P S_l_FnBisectors 284 (fun _ => fu + 100) (Code.sub [1, 1, 1, 1, 1, 1, 1, 1, 1, 1, 1, 1] (bodyF P 4)) s (finT P 4 dec_b)) (finT P 4 dec_b)))
def B_l_FnBisectors_1 (coden : Nat) (codel : List Int) (i : Int) (rec0 : Int → Option (Bool)) (rec1 : Int → Option (Bool)) (i' : Int) : Option (Bool) :=
  (if (decide (i' < ((((k4_9 coden codel).1).1 : Nat) : Int))) = true then (if (decide (0 ≤ i') && decide (i' < ((((k4_9 coden codel).1).1 : Nat) : Int))) = true then (if (Nat.ble (i'.toNat * 3 + 3) ((((k4_9 coden codel).1).2).length)) = true then (if (decide (0 ≤ i') && decide (i' < ((((k4_9 coden codel).1).1 : Nat) : Int))) = true then (if (Nat.ble (i'.toNat * 3 + 3) ((((k4_9 coden codel).1).2).length)) = true then (if (((i_SpreadOf ((k4_8 coden codel).1) ((k4_8 coden codel).2.1) ((k4_8 coden codel).2.2.1) ((((k4_9 coden codel).1).2).getD (i'.toNat * 3 + 0) 0, (((k4_9 coden codel).1).2).getD (i'.toNat * 3 + 1) 0, (((k4_9 coden codel).1).2).getD (i'.toNat * 3 + 2) 0)).2) != 0) = true then some false else (if (((i_SpreadOf ((k4_8 coden codel).1) ((k4_8 coden codel).2.1) ((k4_8 coden codel).2.2.2) ((((k4_9 coden codel).1).2).getD (i'.toNat * 3 + 0) 0, (((k4_9 coden codel).1).2).getD (i'.toNat * 3 + 1) 0, (((k4_9 coden codel).1).2).getD (i'.toNat * 3 + 2) 0)).2) != 0) = true then some false else (if (((i_SpreadOf ((k4_8 coden codel).1) ((k4_8 coden codel).2.1) ((k4_8 coden codel).2.2.1) ((((k4_9 coden codel).1).2).getD (i'.toNat * 3 + 0) 0, (((k4_9 coden codel).1).2).getD (i'.toNat * 3 + 1) 0, (((k4_9 coden codel).1).2).getD (i'.toNat * 3 + 2) 0)).1) != ((i_SpreadOf ((k4_8 coden codel).1) ((k4_8 coden codel).2.1) ((k4_8 coden codel).2.2.2) ((((k4_9 coden codel).1).2).getD (i'.toNat * 3 + 0) 0, (((k4_9 coden codel).1).2).getD (i'.toNat * 3 + 1) 0, (((k4_9 coden codel).1).2).getD (i'.toNat * 3 + 2) 0)).1)) = true then some false else rec1 (wI (i' + 1))))) else none) else none) else none) else none) else (if (((k4_9 coden codel).2) == 0) = true then (if (((((k4_9 coden codel).1).1 : Nat) : Int) == 2) = true then (if (decide (0 ≤ 0) && decide (0 < ((((k4_9 coden codel).1).1 : Nat) : Int))) = true then (if (Nat.ble (3) ((((k4_9 coden codel).1).2).length)) = true then (if (decide (0 ≤ 1) && decide (1 < ((((k4_9 coden codel).1).1 : Nat) : Int))) = true then (if (Nat.ble (6) ((((k4_9 coden codel).1).2).length)) = true then (if (((k4_14 coden codel).2) != 0) = true then some false else (if (!((k4_14 coden codel).1)) = true then some false else (if (codeB coden codel) = true then (if (((k4_16 coden codel).2) == ((k4_17 coden codel).2)) = true then (if (lenB (((k4_16 coden codel).1).1) 1 (((k4_16 coden codel).1).2) && lenB (((k4_17 coden codel).1).1) 1 (((k4_17 coden codel).1).2)) = true then some (k4_18 coden codel) else none) else some false) else none))) else none) else none) else none) else none) else (if (codeB coden codel) = true then (if (((k4_16 coden codel).2) == ((k4_17 coden codel).2)) = true then (if (lenB (((k4_16 coden codel).1).1) 1 (((k4_16 coden codel).1).2) && lenB (((k4_17 coden codel).1).1) 1 (((k4_17 coden codel).1).2)) = true then some (k4_18 coden codel) else none) else some false) else none)) else (if (codeB coden codel) = true then (if (((k4_16 coden codel).2) == ((k4_17 coden codel).2)) = true then (if (lenB (((k4_16 coden codel).1).1) 1 (((k4_16 coden codel).1).2) && lenB (((k4_17 coden codel).1).1) 1 (((k4_17 coden codel).1).2)) = true then some (k4_18 coden codel) else none) else some false) else none)))
def L_l_FnBisectors_1 (fu : Nat) (coden : Nat) (codel : List Int) (i : Int) (rec0 : Int → Option (Bool)) : Nat → Int → Option (Bool)
  | 0, _ => none
  | f + 1, i' => B_l_FnBisectors_1 coden codel i rec0 (L_l_FnBisectors_1 fu coden codel i rec0 f) i'
theorem loop_l_FnBisectors_1 (fu : Nat) (coden : Nat) (codel : List Int) (i : Int) (rc0 : Tab → Option (Bool)) : ∀ (f : Nat) (i' : Int), X_l_FnBisectors_1 Try.prog fu coden codel i rc0 f i' = L_l_FnBisectors_1 fu coden codel i (fun i => rc0 (T_l_FnBisectors_0 coden codel i)) f i' := by
  intro f
  induction f with
  | zero => intros; rfl
  | succ f ih =>
    intro i'
    have h1 : X_l_FnBisectors_1 Try.prog fu coden codel i rc0 (f + 1) i' = B_l_FnBisectors_1 coden codel i (fun i => rc0 (T_l_FnBisectors_0 coden codel i)) (X_l_FnBisectors_1 Try.prog fu coden codel i rc0 f) i' := by kernel_rfl
    have h2 : X_l_FnBisectors_1 Try.prog fu coden codel i rc0 f = L_l_FnBisectors_1 fu coden codel i (fun i => rc0 (T_l_FnBisectors_0 coden codel i)) f := by funext i'; exact ih i'
    rw [h1, h2]
    rfl
def X_l_FnBisectors_0 (P : Program) (fu : Nat) (coden : Nat) (codel : List Int) (f : Nat) (i : Int) : Option (Bool) := loopK (exec P S_l_FnBisectors 284 (fun _ => fu + 100) (Code.sub [1, 1, 1, 1, 1, 1, 0, 1, 1, 1, 1, 1, 0, 0] (bodyF P 4))) f (T_l_FnBisectors_0 coden codel i) (kBlock 0 (kSeq (fun s => exec P S_l_FnBisectors 284 (fun _ => fu + 100) (Code.sub [1, 1, 1, 1, 1, 1, 1] (bodyF P 4)) s (finT P 4 dec_b)) (finT P 4 dec_b)))
def B_l_FnBisectors_0 (coden : Nat) (codel : List Int) (lo1 : Int → Option (Bool)) (rec0 : Int → Option (Bool)) (i : Int) : Option (Bool) :=
  (if (decide (i < ((((k4_1 coden codel).1).1 : Nat) : Int))) = true then (if (decide (0 ≤ i) && decide (i < ((((k4_1 coden codel).1).1 : Nat) : Int))) = true then (if (Nat.ble (i.toNat * 3 + 3) ((((k4_1 coden codel).1).2).length)) = true then (if (decide (0 ≤ i) && decide (i < ((((k4_1 coden codel).1).1 : Nat) : Int))) = true then (if (Nat.ble (i.toNat * 3 + 3) ((((k4_1 coden codel).1).2).length)) = true then (if (((i_SpreadOf ((k4_0 coden codel).1) ((k4_0 coden codel).2.1) ((k4_0 coden codel).2.2.1) ((((k4_1 coden codel).1).2).getD (i.toNat * 3 + 0) 0, (((k4_1 coden codel).1).2).getD (i.toNat * 3 + 1) 0, (((k4_1 coden codel).1).2).getD (i.toNat * 3 + 2) 0)).2) != 0) = true then some false else (if (((i_IsOnLine ((k4_0 coden codel).1) ((k4_0 coden codel).2.2.2.1) ((((k4_1 coden codel).1).2).getD (i.toNat * 3 + 0) 0, (((k4_1 coden codel).1).2).getD (i.toNat * 3 + 1) 0, (((k4_1 coden codel).1).2).getD (i.toNat * 3 + 2) 0)).2) != 0) = true then some false else (if (((i_SpreadOf ((k4_0 coden codel).1) ((k4_0 coden codel).2.1) ((k4_0 coden codel).2.2.1) ((((k4_1 coden codel).1).2).getD (i.toNat * 3 + 0) 0, (((k4_1 coden codel).1).2).getD (i.toNat * 3 + 1) 0, (((k4_1 coden codel).1).2).getD (i.toNat * 3 + 2) 0)).1) != ((k4_0 coden codel).2.2.2.2)) = true then some false else (if (!((i_IsOnLine ((k4_0 coden codel).1) ((k4_0 coden codel).2.2.2.1) ((((k4_1 coden codel).1).2).getD (i.toNat * 3 + 0) 0, (((k4_1 coden codel).1).2).getD (i.toNat * 3 + 1) 0, (((k4_1 coden codel).1).2).getD (i.toNat * 3 + 2) 0)).1)) = true then some false else rec0 (wI (i + 1)))))) else none) else none) else none) else none) else (if (codeB coden codel) = true then (if (((k4_9 coden codel).2) != ((k4_10 coden codel).2)) = true then some false else (if (lenB (((k4_9 coden codel).1).1) 3 (((k4_9 coden codel).1).2) && lenB (((k4_10 coden codel).1).1) 3 (((k4_10 coden codel).1).2)) = true then (if (!(k4_11 coden codel)) = true then some false else lo1 0) else none)) else none))
def L_l_FnBisectors_0 (fu : Nat) (coden : Nat) (codel : List Int) : Nat → Int → Option (Bool)
  | 0, _ => none
  | f + 1, i => B_l_FnBisectors_0 coden codel (L_l_FnBisectors_1 fu coden codel i (L_l_FnBisectors_0 fu coden codel f) (fu + 100)) (L_l_FnBisectors_0 fu coden codel f) i
theorem loop_l_FnBisectors_0 (fu : Nat) (coden : Nat) (codel : List Int) : ∀ (f : Nat) (i : Int), X_l_FnBisectors_0 Try.prog fu coden codel f i = L_l_FnBisectors_0 fu coden codel f i := by
  intro f
  induction f with
  | zero => intros; rfl
  | succ f ih =>
    intro i
    have h1 : X_l_FnBisectors_0 Try.prog fu coden codel (f + 1) i = B_l_FnBisectors_0 coden codel (X_l_FnBisectors_1 Try.prog fu coden codel i (fun t => loopK (exec Try.prog S_l_FnBisectors 284 (fun _ => fu + 100) (Code.sub [1, 1, 1, 1, 1, 1, 0, 1, 1, 1, 1, 1, 0, 0] (bodyF Try.prog 4))) f t (kBlock 0 (kSeq (fun s => exec Try.prog S_l_FnBisectors 284 (fun _ => fu + 100) (Code.sub [1, 1, 1, 1, 1, 1, 1] (bodyF Try.prog 4)) s (finT Try.prog 4 dec_b)) (finT Try.prog 4 dec_b)))) (fu + 100)) (X_l_FnBisectors_0 Try.prog fu coden codel f) i := by kernel_rfl
    have h2 : X_l_FnBisectors_0 Try.prog fu coden codel f = L_l_FnBisectors_0 fu coden codel f := by funext i; exact ih i
    have c1 : (X_l_FnBisectors_1 Try.prog fu coden codel i (fun t => loopK (exec Try.prog S_l_FnBisectors 284 (fun _ => fu + 100) (Code.sub [1, 1, 1, 1, 1, 1, 0, 1, 1, 1, 1, 1, 0, 0] (bodyF Try.prog 4))) f t (kBlock 0 (kSeq (fun s => exec Try.prog S_l_FnBisectors 284 (fun _ => fu + 100) (Code.sub [1, 1, 1, 1, 1, 1, 1] (bodyF Try.prog 4)) s (finT Try.prog 4 dec_b)) (finT Try.prog 4 dec_b)))) (fu + 100)) = L_l_FnBisectors_1 fu coden codel i (X_l_FnBisectors_0 Try.prog fu coden codel f) (fu + 100) := by funext i'; exact loop_l_FnBisectors_1 fu coden codel i (fun t => loopK (exec Try.prog S_l_FnBisectors 284 (fun _ => fu + 100) (Code.sub [1, 1, 1, 1, 1, 1, 0, 1, 1, 1, 1, 1, 0, 0] (bodyF Try.prog 4))) f t (kBlock 0 (kSeq (fun s => exec Try.prog S_l_FnBisectors 284 (fun _ => fu + 100) (Code.sub [1, 1, 1, 1, 1, 1, 1] (bodyF Try.prog 4)) s (finT Try.prog 4 dec_b)) (finT Try.prog 4 dec_b)))) (fu + 100) i'
    rw [h1, c1, h2]
    rfl
def X_l_FnBisectors_3 (P : Program) (fu : Nat) (coden : Nat) (codel : List Int) (i : Int) (rc2 : Tab → Option (Bool)) (f : Nat) (i' : Int) : Option (Bool) := loopK (exec P S_l_FnBisectors 284 (fun _ => fu + 100) (Code.sub [1, 1, 1, 1, 1, 1, 1, 1, 1, 1, 1, 0, 1, 0, 0] (bodyF P 4))) f (T_l_FnBisectors_3 coden codel i i') (kBlock 2 (kSeq (fun s => exec P S_l_FnBisectors 284 (fun _ => fu + 100) (Code.sub [1, 1, 1, 1, 1, 1, 1, 1, 1, 1, 1, 1] (bodyF P 4)) s (finT P 4 dec_b)) (finT P 4 dec_b)))
def B_l_FnBisectors_3 (coden : Nat) (codel : List Int) (i : Int) (rec2 : Int → Option (Bool)) (rec3 : Int → Option (Bool)) (i' : Int) : Option (Bool) :=
  (if (decide (i' < ((((k4_9 coden codel).1).1 : Nat) : Int))) = true then (if (decide (0 ≤ i') && decide (i' < ((((k4_9 coden codel).1).1 : Nat) : Int))) = true then (if (Nat.ble (i'.toNat * 3 + 3) ((((k4_9 coden codel).1).2).length)) = true then (if (decide (0 ≤ i') && decide (i' < ((((k4_9 coden codel).1).1 : Nat) : Int))) = true then (if (Nat.ble (i'.toNat * 3 + 3) ((((k4_9 coden codel).1).2).length)) = true then (if (((i_SpreadOf ((k4_8 coden codel).1) ((k4_8 coden codel).2.1) ((k4_8 coden codel).2.2.1) ((((k4_9 coden codel).1).2).getD (i'.toNat * 3 + 0) 0, (((k4_9 coden codel).1).2).getD (i'.toNat * 3 + 1) 0, (((k4_9 coden codel).1).2).getD (i'.toNat * 3 + 2) 0)).2) != 0) = true then some false else (if (((i_SpreadOf ((k4_8 coden codel).1) ((k4_8 coden codel).2.1) ((k4_8 coden codel).2.2.2) ((((k4_9 coden codel).1).2).getD (i'.toNat * 3 + 0) 0, (((k4_9 coden codel).1).2).getD (i'.toNat * 3 + 1) 0, (((k4_9 coden codel).1).2).getD (i'.toNat * 3 + 2) 0)).2) != 0) = true then some false else (if (((i_SpreadOf ((k4_8 coden codel).1) ((k4_8 coden codel).2.1) ((k4_8 coden codel).2.2.1) ((((k4_9 coden codel).1).2).getD (i'.toNat * 3 + 0) 0, (((k4_9 coden codel).1).2).getD (i'.toNat * 3 + 1) 0, (((k4_9 coden codel).1).2).getD (i'.toNat * 3 + 2) 0)).1) != ((i_SpreadOf ((k4_8 coden codel).1) ((k4_8 coden codel).2.1) ((k4_8 coden codel).2.2.2) ((((k4_9 coden codel).1).2).getD (i'.toNat * 3 + 0) 0, (((k4_9 coden codel).1).2).getD (i'.toNat * 3 + 1) 0, (((k4_9 coden codel).1).2).getD (i'.toNat * 3 + 2) 0)).1)) = true then some false else rec3 (wI (i' + 1))))) else none) else none) else none) else none) else (if (((k4_9 coden codel).2) == 0) = true then (if (((((k4_9 coden codel).1).1 : Nat) : Int) == 2) = true then (if (decide (0 ≤ 0) && decide (0 < ((((k4_9 coden codel).1).1 : Nat) : Int))) = true then (if (Nat.ble (3) ((((k4_9 coden codel).1).2).length)) = true then (if (decide (0 ≤ 1) && decide (1 < ((((k4_9 coden codel).1).1 : Nat) : Int))) = true then (if (Nat.ble (6) ((((k4_9 coden codel).1).2).length)) = true then (if (((k4_14 coden codel).2) != 0) = true then some false else (if (!((k4_14 coden codel).1)) = true then some false else (if (codeB coden codel) = true then (if (((k4_16 coden codel).2) == ((k4_17 coden codel).2)) = true then (if (lenB (((k4_16 coden codel).1).1) 1 (((k4_16 coden codel).1).2) && lenB (((k4_17 coden codel).1).1) 1 (((k4_17 coden codel).1).2)) = true then some (k4_18 coden codel) else none) else some false) else none))) else none) else none) else none) else none) else (if (codeB coden codel) = true then (if (((k4_16 coden codel).2) == ((k4_17 coden codel).2)) = true then (if (lenB (((k4_16 coden codel).1).1) 1 (((k4_16 coden codel).1).2) && lenB (((k4_17 coden codel).1).1) 1 (((k4_17 coden codel).1).2)) = true then some (k4_18 coden codel) else none) else some false) else none)) else (if (codeB coden codel) = true then (if (((k4_16 coden codel).2) == ((k4_17 coden codel).2)) = true then (if (lenB (((k4_16 coden codel).1).1) 1 (((k4_16 coden codel).1).2) && lenB (((k4_17 coden codel).1).1) 1 (((k4_17 coden codel).1).2)) = true then some (k4_18 coden codel) else none) else some false) else none)))
def L_l_FnBisectors_3 (fu : Nat) (coden : Nat) (codel : List Int) (i : Int) (rec2 : Int → Option (Bool)) : Nat → Int → Option (Bool)
  | 0, _ => none
  | f + 1, i' => B_l_FnBisectors_3 coden codel i rec2 (L_l_FnBisectors_3 fu coden codel i rec2 f) i'
theorem loop_l_FnBisectors_3 (fu : Nat) (coden : Nat) (codel : List Int) (i : Int) (rc2 : Tab → Option (Bool)) : ∀ (f : Nat) (i' : Int), X_l_FnBisectors_3 Try.prog fu coden codel i rc2 f i' = L_l_FnBisectors_3 fu coden codel i (fun i => rc2 (T_l_FnBisectors_2 coden codel i)) f i' := by
  intro f
  induction f with
  | zero => intros; rfl
  | succ f ih =>
    intro i'
    have h1 : X_l_FnBisectors_3 Try.prog fu coden codel i rc2 (f + 1) i' = B_l_FnBisectors_3 coden codel i (fun i => rc2 (T_l_FnBisectors_2 coden codel i)) (X_l_FnBisectors_3 Try.prog fu coden codel i rc2 f) i' := by kernel_rfl
    have h2 : X_l_FnBisectors_3 Try.prog fu coden codel i rc2 f = L_l_FnBisectors_3 fu coden codel i (fun i => rc2 (T_l_FnBisectors_2 coden codel i)) f := by funext i'; exact ih i'
    rw [h1, h2]
    rfl
def X_l_FnBisectors_2 (P : Program) (fu : Nat) (coden : Nat) (codel : List Int) (f : Nat) (i : Int) : Option (Bool) := loopK (exec P S_l_FnBisectors 284 (fun _ => fu + 100) (Code.sub [1, 1, 1, 1, 1, 1, 0, 1, 1, 1, 1, 1, 0, 0] (bodyF P 4))) f (T_l_FnBisectors_2 coden codel i) (kBlock 0 (kSeq (fun s => exec P S_l_FnBisectors 284 (fun _ => fu + 100) (Code.sub [1, 1, 1, 1, 1, 1, 1] (bodyF P 4)) s (finT P 4 dec_b)) (finT P 4 dec_b)))
def B_l_FnBisectors_2 (coden : Nat) (codel : List Int) (lo3 : Int → Option (Bool)) (rec2 : Int → Option (Bool)) (i : Int) : Option (Bool) :=
  (if (decide (i < ((((k4_1 coden codel).1).1 : Nat) : Int))) = true then (if (decide (0 ≤ i) && decide (i < ((((k4_1 coden codel).1).1 : Nat) : Int))) = true then (if (Nat.ble (i.toNat * 3 + 3) ((((k4_1 coden codel).1).2).length)) = true then (if (decide (0 ≤ i) && decide (i < ((((k4_1 coden codel).1).1 : Nat) : Int))) = true then (if (Nat.ble (i.toNat * 3 + 3) ((((k4_1 coden codel).1).2).length)) = true then (if (((i_SpreadOf ((k4_0 coden codel).1) ((k4_0 coden codel).2.1) ((k4_0 coden codel).2.2.1) ((((k4_1 coden codel).1).2).getD (i.toNat * 3 + 0) 0, (((k4_1 coden codel).1).2).getD (i.toNat * 3 + 1) 0, (((k4_1 coden codel).1).2).getD (i.toNat * 3 + 2) 0)).2) != 0) = true then some false else (if (((i_IsOnLine ((k4_0 coden codel).1) ((k4_0 coden codel).2.2.2.1) ((((k4_1 coden codel).1).2).getD (i.toNat * 3 + 0) 0, (((k4_1 coden codel).1).2).getD (i.toNat * 3 + 1) 0, (((k4_1 coden codel).1).2).getD (i.toNat * 3 + 2) 0)).2) != 0) = true then some false else (if (((i_SpreadOf ((k4_0 coden codel).1) ((k4_0 coden codel).2.1) ((k4_0 coden codel).2.2.1) ((((k4_1 coden codel).1).2).getD (i.toNat * 3 + 0) 0, (((k4_1 coden codel).1).2).getD (i.toNat * 3 + 1) 0, (((k4_1 coden codel).1).2).getD (i.toNat * 3 + 2) 0)).1) != ((k4_0 coden codel).2.2.2.2)) = true then some false else (if (!((i_IsOnLine ((k4_0 coden codel).1) ((k4_0 coden codel).2.2.2.1) ((((k4_1 coden codel).1).2).getD (i.toNat * 3 + 0) 0, (((k4_1 coden codel).1).2).getD (i.toNat * 3 + 1) 0, (((k4_1 coden codel).1).2).getD (i.toNat * 3 + 2) 0)).1)) = true then some false else rec2 (wI (i + 1)))))) else none) else none) else none) else none) else (if (codeB coden codel) = true then (if (((k4_9 coden codel).2) != ((k4_10 coden codel).2)) = true then some false else (if (lenB (((k4_9 coden codel).1).1) 3 (((k4_9 coden codel).1).2) && lenB (((k4_10 coden codel).1).1) 3 (((k4_10 coden codel).1).2)) = true then (if (!(k4_11 coden codel)) = true then some false else lo3 0) else none)) else none))
def L_l_FnBisectors_2 (fu : Nat) (coden : Nat) (codel : List Int) : Nat → Int → Option (Bool)
  | 0, _ => none
  | f + 1, i => B_l_FnBisectors_2 coden codel (L_l_FnBisectors_3 fu coden codel i (L_l_FnBisectors_2 fu coden codel f) (fu + 100)) (L_l_FnBisectors_2 fu coden codel f) i
theorem loop_l_FnBisectors_2 (fu : Nat) (coden : Nat) (codel : List Int) : ∀ (f : Nat) (i : Int), X_l_FnBisectors_2 Try.prog fu coden codel f i = L_l_FnBisectors_2 fu coden codel f i := by
  intro f
  induction f with
  | zero => intros; rfl
  | succ f ih =>
    intro i
    have h1 : X_l_FnBisectors_2 Try.prog fu coden codel (f + 1) i = B_l_FnBisectors_2 coden codel (X_l_FnBisectors_3 Try.prog fu coden codel i (fun t => loopK (exec Try.prog S_l_FnBisectors 284 (fun _ => fu + 100) (Code.sub [1, 1, 1, 1, 1, 1, 0, 1, 1, 1, 1, 1, 0, 0] (bodyF Try.prog 4))) f t (kBlock 0 (kSeq (fun s => exec Try.prog S_l_FnBisectors 284 (fun _ => fu + 100) (Code.sub [1, 1, 1, 1, 1, 1, 1] (bodyF Try.prog 4)) s (finT Try.prog 4 dec_b)) (finT Try.prog 4 dec_b)))) (fu + 100)) (X_l_FnBisectors_2 Try.prog fu coden codel f) i := by kernel_rfl
    have h2 : X_l_FnBisectors_2 Try.prog fu coden codel f = L_l_FnBisectors_2 fu coden codel f := by funext i; exact ih i
    have c3 : (X_l_FnBisectors_3 Try.prog fu coden codel i (fun t => loopK (exec Try.prog S_l_FnBisectors 284 (fun _ => fu + 100) (Code.sub [1, 1, 1, 1, 1, 1, 0, 1, 1, 1, 1, 1, 0, 0] (bodyF Try.prog 4))) f t (kBlock 0 (kSeq (fun s => exec Try.prog S_l_FnBisectors 284 (fun _ => fu + 100) (Code.sub [1, 1, 1, 1, 1, 1, 1] (bodyF Try.prog 4)) s (finT Try.prog 4 dec_b)) (finT Try.prog 4 dec_b)))) (fu + 100)) = L_l_FnBisectors_3 fu coden codel i (X_l_FnBisectors_2 Try.prog fu coden codel f) (fu + 100) := by funext i'; exact loop_l_FnBisectors_3 fu coden codel i (fun t => loopK (exec Try.prog S_l_FnBisectors 284 (fun _ => fu + 100) (Code.sub [1, 1, 1, 1, 1, 1, 0, 1, 1, 1, 1, 1, 0, 0] (bodyF Try.prog 4))) f t (kBlock 0 (kSeq (fun s => exec Try.prog S_l_FnBisectors 284 (fun _ => fu + 100) (Code.sub [1, 1, 1, 1, 1, 1, 1] (bodyF Try.prog 4)) s (finT Try.prog 4 dec_b)) (finT Try.prog 4 dec_b)))) (fu + 100) i'
    rw [h1, c3, h2]
    rfl
def X_l_FnBisectors_4 (P : Program) (fu : Nat) (coden : Nat) (codel : List Int) (f : Nat) (i : Int) : Option (Bool) := loopK (exec P S_l_FnBisectors 284 (fun _ => fu + 100) (Code.sub [1, 1, 1, 1, 1, 1, 1, 1, 1, 1, 1, 0, 1, 0, 0] (bodyF P 4))) f (T_l_FnBisectors_4 coden codel i) (kBlock 2 (kSeq (fun s => exec P S_l_FnBisectors 284 (fun _ => fu + 100) (Code.sub [1, 1, 1, 1, 1, 1, 1, 1, 1, 1, 1, 1] (bodyF P 4)) s (finT P 4 dec_b)) (finT P 4 dec_b)))
def B_l_FnBisectors_4 (coden : Nat) (codel : List Int) (rec4 : Int → Option (Bool)) (i : Int) : Option (Bool) :=
  (if (decide (i < ((((k4_9 coden codel).1).1 : Nat) : Int))) = true then (if (decide (0 ≤ i) && decide (i < ((((k4_9 coden codel).1).1 : Nat) : Int))) = true then (if (Nat.ble (i.toNat * 3 + 3) ((((k4_9 coden codel).1).2).length)) = true then (if (decide (0 ≤ i) && decide (i < ((((k4_9 coden codel).1).1 : Nat) : Int))) = true then (if (Nat.ble (i.toNat * 3 + 3) ((((k4_9 coden codel).1).2).length)) = true then (if (((i_SpreadOf ((k4_8 coden codel).1) ((k4_8 coden codel).2.1) ((k4_8 coden codel).2.2.1) ((((k4_9 coden codel).1).2).getD (i.toNat * 3 + 0) 0, (((k4_9 coden codel).1).2).getD (i.toNat * 3 + 1) 0, (((k4_9 coden codel).1).2).getD (i.toNat * 3 + 2) 0)).2) != 0) = true then some false else (if (((i_SpreadOf ((k4_8 coden codel).1) ((k4_8 coden codel).2.1) ((k4_8 coden codel).2.2.2) ((((k4_9 coden codel).1).2).getD (i.toNat * 3 + 0) 0, (((k4_9 coden codel).1).2).getD (i.toNat * 3 + 1) 0, (((k4_9 coden codel).1).2).getD (i.toNat * 3 + 2) 0)).2) != 0) = true then some false else (if (((i_SpreadOf ((k4_8 coden codel).1) ((k4_8 coden codel).2.1) ((k4_8 coden codel).2.2.1) ((((k4_9 coden codel).1).2).getD (i.toNat * 3 + 0) 0, (((k4_9 coden codel).1).2).getD (i.toNat * 3 + 1) 0, (((k4_9 coden codel).1).2).getD (i.toNat * 3 + 2) 0)).1) != ((i_SpreadOf ((k4_8 coden codel).1) ((k4_8 coden codel).2.1) ((k4_8 coden codel).2.2.2) ((((k4_9 coden codel).1).2).getD (i.toNat * 3 + 0) 0, (((k4_9 coden codel).1).2).getD (i.toNat * 3 + 1) 0, (((k4_9 coden codel).1).2).getD (i.toNat * 3 + 2) 0)).1)) = true then some false else rec4 (wI (i + 1))))) else none) else none) else none) else none) else (if (((k4_9 coden codel).2) == 0) = true then (if (((((k4_9 coden codel).1).1 : Nat) : Int) == 2) = true then (if (decide (0 ≤ 0) && decide (0 < ((((k4_9 coden codel).1).1 : Nat) : Int))) = true then (if (Nat.ble (3) ((((k4_9 coden codel).1).2).length)) = true then (if (decide (0 ≤ 1) && decide (1 < ((((k4_9 coden codel).1).1 : Nat) : Int))) = true then (if (Nat.ble (6) ((((k4_9 coden codel).1).2).length)) = true then (if (((k4_14 coden codel).2) != 0) = true then some false else (if (!((k4_14 coden codel).1)) = true then some false else (if (codeB coden codel) = true then (if (((k4_16 coden codel).2) == ((k4_17 coden codel).2)) = true then (if (lenB (((k4_16 coden codel).1).1) 1 (((k4_16 coden codel).1).2) && lenB (((k4_17 coden codel).1).1) 1 (((k4_17 coden codel).1).2)) = true then some (k4_18 coden codel) else none) else some false) else none))) else none) else none) else none) else none) else (if (codeB coden codel) = true then (if (((k4_16 coden codel).2) == ((k4_17 coden codel).2)) = true then (if (lenB (((k4_16 coden codel).1).1) 1 (((k4_16 coden codel).1).2) && lenB (((k4_17 coden codel).1).1) 1 (((k4_17 coden codel).1).2)) = true then some (k4_18 coden codel) else none) else some false) else none)) else (if (codeB coden codel) = true then (if (((k4_16 coden codel).2) == ((k4_17 coden codel).2)) = true then (if (lenB (((k4_16 coden codel).1).1) 1 (((k4_16 coden codel).1).2) && lenB (((k4_17 coden codel).1).1) 1 (((k4_17 coden codel).1).2)) = true then some (k4_18 coden codel) else none) else some false) else none)))
def L_l_FnBisectors_4 (fu : Nat) (coden : Nat) (codel : List Int) : Nat → Int → Option (Bool)
  | 0, _ => none
  | f + 1, i => B_l_FnBisectors_4 coden codel (L_l_FnBisectors_4 fu coden codel f) i
theorem loop_l_FnBisectors_4 (fu : Nat) (coden : Nat) (codel : List Int) : ∀ (f : Nat) (i : Int), X_l_FnBisectors_4 Try.prog fu coden codel f i = L_l_FnBisectors_4 fu coden codel f i := by
  intro f
  induction f with
  | zero => intros; rfl
  | succ f ih =>
    intro i
    have h1 : X_l_FnBisectors_4 Try.prog fu coden codel (f + 1) i = B_l_FnBisectors_4 coden codel (X_l_FnBisectors_4 Try.prog fu coden codel f) i := by kernel_rfl
    have h2 : X_l_FnBisectors_4 Try.prog fu coden codel f = L_l_FnBisectors_4 fu coden codel f := by funext i; exact ih i
    rw [h1, h2]
    rfl
def G_l_FnBisectors (coden : Nat) (codel : List Int) (lo0 : Int → Option (Bool)) (lo2 : Int → Option (Bool)) (lo4 : Int → Option (Bool)) : Option (Bool) :=
  (if (l_big coden codel) = true then some true else (if (codeB coden codel) = true then (if (((k4_1 coden codel).2) != ((k4_2 coden codel).2)) = true then some false else (if (lenB (((k4_1 coden codel).1).1) 3 (((k4_1 coden codel).1).2) && lenB (((k4_2 coden codel).1).1) 3 (((k4_2 coden codel).1).2)) = true then (if (!(k4_3 coden codel)) = true then some false else (if (((k4_1 coden codel).2) == 0) = true then (if (((k4_4 coden codel).2) != 0) = true then some false else (if (((((k4_4 coden codel).1).1 : Nat) : Int) != ((k4_0 coden codel).1)) = true then some false else (if (decide (0 ≤ (k4_0 coden codel).2.2.2.2) && decide ((k4_0 coden codel).2.2.2.2 < ((((k4_4 coden codel).1).1 : Nat) : Int))) = true then (if (Nat.ble ((((k4_0 coden codel).2.2.2.2).toNat) * 1 + 1) ((((k4_4 coden codel).1).2).length)) = true then (if (((((k4_4 coden codel).1).2).getD ((((k4_0 coden codel).2.2.2.2).toNat) * 1) 0) != ((((k4_1 coden codel).1).1 : Nat) : Int)) = true then some false else (if (lenB (((k4_4 coden codel).1).1) 1 (((k4_4 coden codel).1).2)) = true then (if ((k4_5 coden codel) != (wI (((k4_0 coden codel).1) + 1))) = true then (if (lenB (((k4_4 coden codel).1).1) 1 (((k4_4 coden codel).1).2)) = true then (if ((k4_5 coden codel) != (wI (((k4_0 coden codel).1) - 1))) = true then some false else lo0 0) else none) else lo2 0) else none)) else none) else none))) else (if (codeB coden codel) = true then (if (((k4_9 coden codel).2) != ((k4_10 coden codel).2)) = true then some false else (if (lenB (((k4_9 coden codel).1).1) 3 (((k4_9 coden codel).1).2) && lenB (((k4_10 coden codel).1).1) 3 (((k4_10 coden codel).1).2)) = true then (if (!(k4_11 coden codel)) = true then some false else lo4 0) else none)) else none))) else none)) else none))
def Fo_l_FnBisectors (fu : Nat) (coden : Nat) (codel : List Int) : Option (Bool) := G_l_FnBisectors coden codel (L_l_FnBisectors_0 fu coden codel (fu + 100)) (L_l_FnBisectors_2 fu coden codel (fu + 100)) (L_l_FnBisectors_4 fu coden codel (fu + 100))
theorem eqg_l_FnBisectors (fu : Nat) (coden : Nat) (codel : List Int) : execT Try.prog S_l_FnBisectors 4 284 (fun _ => fu + 100) dec_b [.s coden (.byts codel)] = G_l_FnBisectors coden codel (L_l_FnBisectors_0 fu coden codel (fu + 100)) (L_l_FnBisectors_2 fu coden codel (fu + 100)) (L_l_FnBisectors_4 fu coden codel (fu + 100)) := by
  have h1 : execT Try.prog S_l_FnBisectors 4 284 (fun _ => fu + 100) dec_b [.s coden (.byts codel)] = G_l_FnBisectors coden codel (X_l_FnBisectors_0 Try.prog fu coden codel (fu + 100)) (X_l_FnBisectors_2 Try.prog fu coden codel (fu + 100)) (X_l_FnBisectors_4 Try.prog fu coden codel (fu + 100)) := by kernel_rfl
  have c0 : X_l_FnBisectors_0 Try.prog fu coden codel (fu + 100) = L_l_FnBisectors_0 fu coden codel (fu + 100) := by funext i; exact loop_l_FnBisectors_0 fu coden codel (fu + 100) i
  have c2 : X_l_FnBisectors_2 Try.prog fu coden codel (fu + 100) = L_l_FnBisectors_2 fu coden codel (fu + 100) := by funext i; exact loop_l_FnBisectors_2 fu coden codel (fu + 100) i
  have c4 : X_l_FnBisectors_4 Try.prog fu coden codel (fu + 100) = L_l_FnBisectors_4 fu coden codel (fu + 100) := by funext i; exact loop_l_FnBisectors_4 fu coden codel (fu + 100) i
  rw [h1, c0, c2, c4]
theorem eq_l_FnBisectors (fu : Nat) (coden : Nat) (codel : List Int) : execT Try.prog S_l_FnBisectors 4 284 (fun _ => fu + 100) dec_b [.s coden (.byts codel)] = Fo_l_FnBisectors fu coden codel := eqg_l_FnBisectors fu coden codel
theorem l03null_eq (p k : Int) (l : P3) : s_l03Null p k l = i_isNull p k l := rfl
theorem linescode (p : Int) (k : Bool) (l : List P3) : s_l01Lines p l = i_asked p k (i_areLines p l) := by
  unfold s_l01Lines i_asked s_l01Field
  cases h : i_IsField p
  · rfl
  · have e : l.all (fun x => s_l01Line p x) = i_areLines p l := by unfold i_areLines; congr 1; funext a; exact line_is (i_IsField_ok h) a
    rw [e]
theorem l03code (p c : Int) (n : Nat) (l : List Int) : s_l03Colour p c n l = i_asked p true (if i_isColour c = true then i_areLines p (rows3 n l) else false) := by
  unfold s_l03Colour
  rw [linescode p true, show s_l01In c 0 2 = i_isColour c from rfl]
  unfold i_asked
  cases i_IsField p <;> cases i_isColour c <;> cases i_areLines p (rows3 n l) <;> rfl
theorem linesS_eq {p : Int} {a : P2} (hf : i_IsField p = true) (ha : i_isPoint p a = true) : linesS p a = linesT p a := by
  have hp := i_IsField_ok hf
  obtain ⟨K, inst, φ, H⟩ := hom_of hf
  have a1 := Vl.of (φ := φ) (isPoint_num ha).1; have a2 := Vl.of (φ := φ) (isPoint_num ha).2
  have h0 : s_l01Parallel p (0, 1, 0) a = (0, 1, i_rest p (wrap64 (0 - a.2))) := by
    have v : Vl p φ (s_l01Mod (wrap64 (wrap64 (wrap64 (0 - 0) * a.1) - wrap64 (1 * a.2))) p) (-(φ 0) * φ a.1 - φ 1 * φ a.2) := by (repeat' (first | assumption | exact Vl.rw hp (by assumption) | exact Rw.lit _ (by decide) | exact Rw.nlit _ (by decide) | with_reducible apply Vl.rest H hp | with_reducible apply Vl.smod H hp | with_reducible apply Vl.div H hf | with_reducible apply Vl.inv H hf | with_reducible apply Vl.sinvV H hf | with_reducible apply Vl.sinvR H hf | with_reducible apply Rw.tmod H hp | with_reducible apply Rw.mul H | with_reducible apply Rw.neg0 H | with_reducible apply Rw.sub H | with_reducible apply Rw.add H | with_reducible apply Vl.rw hp | decide))
    have w : Vl p φ (i_rest p (wrap64 (0 - a.2))) (-(φ a.2)) := by (repeat' (first | assumption | exact Vl.rw hp (by assumption) | exact Rw.lit _ (by decide) | exact Rw.nlit _ (by decide) | with_reducible apply Vl.rest H hp | with_reducible apply Vl.smod H hp | with_reducible apply Vl.div H hf | with_reducible apply Vl.inv H hf | with_reducible apply Vl.sinvV H hf | with_reducible apply Vl.sinvR H hf | with_reducible apply Rw.tmod H hp | with_reducible apply Rw.mul H | with_reducible apply Rw.neg0 H | with_reducible apply Rw.sub H | with_reducible apply Rw.add H | with_reducible apply Vl.rw hp | decide))
    have e := Vl.inj H (v.conv (show _ = -(φ a.2) by rw [H.zero, H.one]; grind)) w
    show ((0 : Int), (1 : Int), s_l01Mod (wrap64 (wrap64 (wrap64 (0 - 0) * a.1) - wrap64 (1 * a.2))) p) = _
    rw [e]
  have h1 : ∀ b : Nat, b < p.toNat → s_l01Parallel p (1, (b : Int), 0) a = (1, (b : Int), i_rest p (wrap64 (wrap64 (0 - a.1) - wrap64 ((b : Int) * a.2)))) := by
    intro b hb
    have hb' : Vl p φ (b : Int) (φ (b : Int)) := Vl.of (by omega)
    have v : Vl p φ (s_l01Mod (wrap64 (wrap64 (wrap64 (0 - 1) * a.1) - wrap64 ((b : Int) * a.2))) p) (-(φ 1) * φ a.1 - φ (b : Int) * φ a.2) := by (repeat' (first | assumption | exact Vl.rw hp (by assumption) | exact Rw.lit _ (by decide) | exact Rw.nlit _ (by decide) | with_reducible apply Vl.rest H hp | with_reducible apply Vl.smod H hp | with_reducible apply Vl.div H hf | with_reducible apply Vl.inv H hf | with_reducible apply Vl.sinvV H hf | with_reducible apply Vl.sinvR H hf | with_reducible apply Rw.tmod H hp | with_reducible apply Rw.mul H | with_reducible apply Rw.neg0 H | with_reducible apply Rw.sub H | with_reducible apply Rw.add H | with_reducible apply Vl.rw hp | decide))
    have w : Vl p φ (i_rest p (wrap64 (wrap64 (0 - a.1) - wrap64 ((b : Int) * a.2)))) (-(φ a.1) - φ (b : Int) * φ a.2) := by (repeat' (first | assumption | exact Vl.rw hp (by assumption) | exact Rw.lit _ (by decide) | exact Rw.nlit _ (by decide) | with_reducible apply Vl.rest H hp | with_reducible apply Vl.smod H hp | with_reducible apply Vl.div H hf | with_reducible apply Vl.inv H hf | with_reducible apply Vl.sinvV H hf | with_reducible apply Vl.sinvR H hf | with_reducible apply Rw.tmod H hp | with_reducible apply Rw.mul H | with_reducible apply Rw.neg0 H | with_reducible apply Rw.sub H | with_reducible apply Rw.add H | with_reducible apply Vl.rw hp | decide))
    have e := Vl.inj H (v.conv (show _ = -(φ a.1) - φ (b : Int) * φ a.2 by rw [H.one]; grind)) w
    show ((1 : Int), (b : Int), s_l01Mod (wrap64 (wrap64 (wrap64 (0 - 1) * a.1) - wrap64 ((b : Int) * a.2))) p) = _
    rw [e]
  unfold linesS linesT
  rw [h0]
  congr 1
  exact List.map_congr_left fun b hb => h1 b (List.mem_range.1 hb)
theorem line_mem {p : Int} {a : P2} {m : P3} (hf : i_IsField p = true) (ha : i_isPoint p a = true) (hm : m ∈ linesT p a) : i_isLine p m = true ∧ i_IsOnLine p a m = (true, 0) := by
  obtain ⟨K, inst, φ, H⟩ := hom_of hf
  have a1 := Vl.of (φ := φ) (isPoint_num ha).1; have a2 := Vl.of (φ := φ) (isPoint_num ha).2
  obtain ⟨u, v, _, hl, _, _⟩ := ln_lines H hf a1 a2 hm
  exact ⟨Ln.line hf hl, IsOnLine_of H hf a1 a2 hl (by grind)⟩
section
variable {p : Int} {K : Type} [Lean.Grind.Field K] {φ : Int → K}
theorem vl_spread (H : Hom p K φ) (hf : i_IsField p = true) {c : Int} (hc : isC c) {l m : P3} {l1 l2 m1 m2 : K} (h1 : Vl p φ l.1 l1) (h2 : Vl p φ l.2.1 l2) (h3 : Vl p φ m.1 m1) (h4 : Vl p φ m.2.1 m2) :
    Vl p φ (i_spread p c l m) (1 - prodK c (-l2) l1 (-m2) m1 * prodK c (-l2) l1 (-m2) m1 * (prodK c (-l2) l1 (-l2) l1 * prodK c (-m2) m1 (-m2) m1)⁻¹) ∧ Vl p φ (s_l03Spread p c l m) (1 - prodK c (-l2) l1 (-m2) m1 * prodK c (-l2) l1 (-m2) m1 * (prodK c (-l2) l1 (-l2) l1 * prodK c (-m2) m1 (-m2) m1)⁻¹) := by
  have hp := i_IsField_ok hf
  have d := vl_product H hf hc (vl_way1 H hf h2) (vl_way2 h1) (vl_way1 H hf h4) (vl_way2 h3)
  have u := vl_product H hf hc (vl_way1 H hf h2) (vl_way2 h1) (vl_way1 H hf h2) (vl_way2 h1)
  have v := vl_product H hf hc (vl_way1 H hf h4) (vl_way2 h3) (vl_way1 H hf h4) (vl_way2 h3)
  have one : Rw φ (1 : Int) 1 1 := ⟨by unfold AB; omega, H.one⟩
  have uv := Rw.mul H (Vl.rw hp u) (Vl.rw hp v) (by decide)
  have dd := Rw.mul H (Vl.rw hp d) (Vl.rw hp d) (by decide)
  constructor
  · exact Vl.rest H hp (Rw.sub H one (Vl.rw hp (Vl.div H hf dd (Vl.rest H hp uv) (by decide))) (by decide))
  · exact Vl.smod H hp (Rw.sub H one (Rw.tmod H hp (Rw.mul H (Rw.tmod H hp dd) (Vl.rw hp (Vl.sinvR H hf uv)) (by decide))) (by decide))
theorem null_val (H : Hom p K φ) (hf : i_IsField p = true) {c : Int} (hc : isC c) {l : P3} {l1 l2 : K} (h1 : Vl p φ l.1 l1) (h2 : Vl p φ l.2.1 l2) : i_isNull p c l = true ↔ prodK c (-l2) l1 (-l2) l1 = 0 := perp_iff H hf hc h1 h2 h1 h2
theorem bis_alg {c : Int} (hc : isC c) {u1 u2 v1 v2 x1 x2 y1 y2 : K} (hA : prodK c u1 u2 u1 u2 ≠ 0) (hB : prodK c v1 v2 v1 v2 ≠ 0) (hd : u1 * v2 - u2 * v1 ≠ 0) (hw : x1 * y2 - x2 * y1 ≠ 0)
    (eX : prodK c u1 u2 x1 x2 * prodK c u1 u2 x1 x2 * prodK c v1 v2 v1 v2 = prodK c v1 v2 x1 x2 * prodK c v1 v2 x1 x2 * prodK c u1 u2 u1 u2)
    (eY : prodK c u1 u2 y1 y2 * prodK c u1 u2 y1 y2 * prodK c v1 v2 v1 v2 = prodK c v1 v2 y1 y2 * prodK c v1 v2 y1 y2 * prodK c u1 u2 u1 u2) : prodK c x1 x2 y1 y2 = 0 := by
  have hD : prodK c u1 u2 u1 u2 * prodK c v1 v2 v1 v2 - prodK c u1 u2 v1 v2 * prodK c u1 u2 v1 v2 ≠ 0 := by
    intro e
    apply hd
    have : (u1 * v2 - u2 * v1) * (u1 * v2 - u2 * v1) = 0 := by
      clear hA hB eX eY hw hd
      rcases hc with rfl | rfl | rfl <;> simp [prodK] at e <;> grind
    grind
  have step : ∀ x1 x2 : K, prodK c u1 u2 x1 x2 * prodK c u1 u2 x1 x2 * prodK c v1 v2 v1 v2 = prodK c v1 v2 x1 x2 * prodK c v1 v2 x1 x2 * prodK c u1 u2 u1 u2 →
      (x1 * v2 - x2 * v1) * (x1 * v2 - x2 * v1) * prodK c u1 u2 u1 u2 = (u1 * x2 - u2 * x1) * (u1 * x2 - u2 * x1) * prodK c v1 v2 v1 v2 := by
    intro x1 x2 e
    have i1 : (u1 * v2 - u2 * v1) * prodK c u1 u2 x1 x2 = (x1 * v2 - x2 * v1) * prodK c u1 u2 u1 u2 + (u1 * x2 - u2 * x1) * prodK c u1 u2 v1 v2 := by
      rcases hc with rfl | rfl | rfl <;> simp [prodK] <;> grind
    have i2 : (u1 * v2 - u2 * v1) * prodK c v1 v2 x1 x2 = (x1 * v2 - x2 * v1) * prodK c u1 u2 v1 v2 + (u1 * x2 - u2 * x1) * prodK c v1 v2 v1 v2 := by
      rcases hc with rfl | rfl | rfl <;> simp [prodK] <;> grind
    generalize prodK c u1 u2 x1 x2 = P at *
    generalize prodK c v1 v2 x1 x2 = Q at *
    generalize prodK c u1 u2 u1 u2 = A at *
    generalize prodK c v1 v2 v1 v2 = B at *
    generalize prodK c u1 u2 v1 v2 = C at *
    generalize x1 * v2 - x2 * v1 = a at *
    generalize u1 * x2 - u2 * x1 = b at *
    generalize u1 * v2 - u2 * v1 = d at *
    clear eX eY hw hc
    have e2 : (d * P) * (d * P) * B = (d * Q) * (d * Q) * A := by grind
    rw [i1, i2] at e2
    have e3 : (A * B - C * C) * (a * a * A - b * b * B) = 0 := by grind
    clear e i1 i2 e2
    grind
  have sX := step x1 x2 eX
  have sY := step y1 y2 eY
  have iw : (x1 * v2 - x2 * v1) * (u1 * y2 - u2 * y1) - (y1 * v2 - y2 * v1) * (u1 * x2 - u2 * x1) = (u1 * v2 - u2 * v1) * (x1 * y2 - x2 * y1) := by
    clear sX sY eX eY step hA hB hD hd hw hc
    grind
  have ip : (u1 * v2 - u2 * v1) * (u1 * v2 - u2 * v1) * prodK c x1 x2 y1 y2 = (x1 * v2 - x2 * v1) * (y1 * v2 - y2 * v1) * prodK c u1 u2 u1 u2 + ((x1 * v2 - x2 * v1) * (u1 * y2 - u2 * y1) + (u1 * x2 - u2 * x1) * (y1 * v2 - y2 * v1)) * prodK c u1 u2 v1 v2 + (u1 * x2 - u2 * x1) * (u1 * y2 - u2 * y1) * prodK c v1 v2 v1 v2 := by
    clear sX sY eX eY step hA hB hD hd hw iw
    rcases hc with rfl | rfl | rfl <;> simp [prodK] <;> grind
  clear step eX eY hD hc
  generalize prodK c x1 x2 y1 y2 = E at *
  generalize prodK c u1 u2 u1 u2 = A at *
  generalize prodK c v1 v2 v1 v2 = B at *
  generalize prodK c u1 u2 v1 v2 = C at *
  generalize x1 * v2 - x2 * v1 = a1 at *
  generalize u1 * x2 - u2 * x1 = b1 at *
  generalize y1 * v2 - y2 * v1 = a2 at *
  generalize u1 * y2 - u2 * y1 = b2 at *
  generalize u1 * v2 - u2 * v1 = d at *
  generalize x1 * y2 - x2 * y1 = w at *
  have h1 : a1 * b2 - a2 * b1 ≠ 0 := by rw [iw]; grind
  have h2 : a1 * b2 + a2 * b1 = 0 := by
    have : A * ((a1 * b2 - a2 * b1) * (a1 * b2 + a2 * b1)) = 0 := by
      have e1 : A * ((a1 * b2 - a2 * b1) * (a1 * b2 + a2 * b1)) = (a1 * a1 * A) * (b2 * b2) - (a2 * a2 * A) * (b1 * b1) := by grind
      rw [e1, sX, sY]
      grind
    clear sX sY ip iw hd hw hB
    grind
  have h3 : a1 * a2 * A + b1 * b2 * B = 0 := by
    have e1 : b1 * (a1 * a2 * A + b1 * b2 * B) = 0 := by
      have : b1 * (a1 * a2 * A + b1 * b2 * B) = a1 * a2 * b1 * A + b2 * (b1 * b1 * B) := by grind
      rw [this, ← sX]
      grind
    have e2 : a1 * (a1 * a2 * A + b1 * b2 * B) = 0 := by
      have : a1 * (a1 * a2 * A + b1 * b2 * B) = a2 * (a1 * a1 * A) + a1 * b1 * b2 * B := by grind
      rw [this, sX]
      grind
    generalize a1 * a2 * A + b1 * b2 * B = Z at *
    clear sX sY ip iw hd hw hB hA h2
    grind
  have h4 : d * d * E = 0 := by
    rw [ip]
    clear sX sY iw ip
    grind
  clear sX sY ip iw h1 h2 h3 hw hA hB
  grind
end
theorem spread_same {p c : Int} {l m : P3} (hf : i_IsField p = true) (hc : isC c) (hl : i_isLine p l = true) (hm : i_isLine p m = true) : s_l03Spread p c l m = i_spread p c l m := by
  obtain ⟨K, inst, φ, H⟩ := hom_of hf
  obtain ⟨⟨l1, l2, _⟩, _⟩ := isLine_num hl
  obtain ⟨⟨m1, m2, _⟩, _⟩ := isLine_num hm
  obtain ⟨a, b⟩ := vl_spread H hf hc (Vl.of (φ := φ) l1) (Vl.of l2) (Vl.of m1) (Vl.of m2)
  exact Vl.inj H b a
theorem both_eq (p c : Int) (l m : P3) : s_l03Both p c l m = i_twoLines p c l m := by
  unfold s_l03Both i_twoLines i_twoLines_c1
  rw [l03code]
  rfl
theorem two_zero {p c : Int} {l m : P3} (h : i_twoLines p c l m = 0) : i_IsField p = true ∧ isC c ∧ i_isLine p l = true ∧ i_isLine p m = true ∧ i_isNull p c l = false ∧ i_isNull p c m = false := by
  unfold i_twoLines i_twoLines_c1 at h
  by_cases e : i_asked p true (if i_isColour c = true then i_areLines p [l, m] else false) = 0
  · obtain ⟨hf, hb⟩ := asked_zero e
    rw [e] at h
    cases hc : i_isColour c
    · simp [hc] at hb
    · simp only [hc, if_true, i_areLines, List.all_cons, List.all_nil, Bool.and_true, Bool.and_eq_true] at hb
      cases nl : i_isNull p c l
      · cases nm : i_isNull p c m
        · exact ⟨hf, isC_of hc, hb.1, hb.2, rfl, rfl⟩
        · simp [nl, nm] at h
      · simp [nl] at h
  · rw [if_neg (by simpa using e)] at h
    exact absurd h e
theorem two_of {p c : Int} {l m : P3} (hf : i_IsField p = true) (hc : isC c) (hl : i_isLine p l = true) (hm : i_isLine p m = true) (nl : i_isNull p c l = false) (nm : i_isNull p c m = false) : i_twoLines p c l m = 0 := by
  have hc' : i_isColour c = true := by rcases hc with rfl | rfl | rfl <;> rfl
  have e : i_asked p true (if i_isColour c = true then i_areLines p [l, m] else false) = 0 := by unfold i_asked i_areLines; simp [hf, hc', hl, hm]
  unfold i_twoLines i_twoLines_c1
  rw [e, nl, nm]
  rfl
theorem filters_eq {p c : Int} {a : P2} {q r : P3 → Bool} (hf : i_IsField p = true) (ha : i_isPoint p a = true) (h : ∀ m, i_isLine p m = true → q m = (!(i_isNull p c m) && r m)) : (linesT p a).filter q = (nonnullL p c a).filter r := by
  unfold nonnullL
  rw [linesS_eq hf ha, List.filter_filter]
  refine filter_same fun m hm => ?_
  rw [h m (line_mem hf ha hm).1, l03null_eq, Bool.and_comm]
theorem LinesWithSpread_same (p c : Int) (l : P3) (a : P2) (s : Int) : i_LinesWithSpread p c l a s = s_LinesWithSpread p c l a s := by
  unfold i_LinesWithSpread s_LinesWithSpread i_LinesWithSpread_c1
  rw [l03code, pointcode p true, numbers_eq p true, show rows3 1 [l.1, l.2.1, l.2.2] = [l] from rfl]
  have e1 : i_areLines p [l] = i_isLine p l := by simp [i_areLines]
  have e2 : i_arePoints p [a] = i_isPoint p a := by simp [i_arePoints]
  have e3 : i_areNumbers p [s] = i_isNumber p s := by simp [i_areNumbers]
  rw [e1, e2, e3]
  cases hf : i_IsField p
  · unfold i_asked; rw [hf]; rfl
  cases hc : i_isColour c
  · unfold i_asked; rw [hf]; rfl
  cases hl : i_isLine p l
  · unfold i_asked; rw [hf]; rfl
  cases ha : i_isPoint p a
  · unfold i_asked; rw [hf]; rfl
  cases hs : i_isNumber p s
  · unfold i_asked; rw [hf]; rfl
  have e : i_asked p true true = 0 := by unfold i_asked; rw [hf]; rfl
  simp only [if_true]
  rw [e, l03null_eq]
  cases hn : i_isNull p c l
  · have hk := isC_of hc
    have hh : (linesT p a).filter (fun a0 => i_LinesWithSpread_c2 a0 p c l s) = (nonnullL p c a).filter (fun zz => s_l03Spread p c l zz == s) := filters_eq hf ha fun m hm => by
      unfold i_LinesWithSpread_c2
      rw [spread_same hf hk hl hm]
      cases i_isNull p c m <;> rfl
    show (((((linesT p a).filter (fun a0 => i_LinesWithSpread_c2 a0 p c l s)).length), flat3 ((linesT p a).filter (fun a0 => i_LinesWithSpread_c2 a0 p c l s))), (0 : Int)) = _
    rw [hh]
    rfl
  · rfl
theorem LinesWithSpread_len (p c : Int) (l : P3) (a : P2) (s : Int) : lenB (i_LinesWithSpread p c l a s).1.1 3 (i_LinesWithSpread p c l a s).1.2 = true := by
  unfold i_LinesWithSpread i_LinesWithSpread_c1
  by_cases h : i_asked p true (if i_isColour c = true then if i_isLine p l = true then if i_isPoint p a = true then i_isNumber p s else false else false else false) = 0
  · have hq := linesT_len (Pr_prB (i_IsField_ok (asked_zero h).1)) a
    rw [h, if_neg (by decide)]
    split
    · rfl
    · exact lenB3 (Nat.le_trans (List.length_filter_le _ _) (by omega))
  · rw [if_pos (by simpa using h)]
    rfl
theorem BisectorsOf_same (p c : Int) (l m : P3) : i_BisectorsOf p c l m = s_BisectorsOf p c l m := by
  unfold i_BisectorsOf s_BisectorsOf
  rw [both_eq]
  by_cases h : i_twoLines p c l m = 0
  · obtain ⟨hf, hc, hl, hm, nl, nm⟩ := two_zero h
    obtain ⟨K, inst, φ, H⟩ := hom_of hf
    obtain ⟨⟨l1, l2, l3⟩, _⟩ := isLine_num hl
    obtain ⟨⟨m1, m2, m3⟩, _⟩ := isLine_num hm
    have em := meet_same H hf (Vl.of (φ := φ) l1) (Vl.of l2) (Vl.of l3) (Vl.of m1) (Vl.of m2) (Vl.of m3)
    have vm := vl_meet H hf (Vl.of (φ := φ) l1) (Vl.of l2) (Vl.of l3) (Vl.of m1) (Vl.of m2) (Vl.of m3)
    have hP := isPoint_of vm.1 vm.2
    have ep : (!(s_l01Meet p l m).2) = i_areParallel p l m := by
      unfold s_l01Meet
      show _ = (s_l01Mod (wrap64 (wrap64 (l.1 * m.2.1) - wrap64 (l.2.1 * m.1))) p == 0)
      cases (s_l01Mod (wrap64 (wrap64 (l.1 * m.2.1) - wrap64 (l.2.1 * m.1))) p == 0) <;> rfl
    rw [h, ep]
    cases i_areParallel p l m
    · have hh : (linesT p (i_meet p l m)).filter (fun a0 => i_BisectorsOf_c1 a0 p c l m) = (nonnullL p c (i_meet p l m)).filter (fun zz => s_l03Spread p c l zz == s_l03Spread p c m zz) := filters_eq hf hP fun n hn => by
        unfold i_BisectorsOf_c1
        rw [spread_same hf hc hl hn, spread_same hf hc hm hn]
        cases i_isNull p c n <;> rfl
      show (((((linesT p (i_meet p l m)).filter (fun a0 => i_BisectorsOf_c1 a0 p c l m)).length), flat3 ((linesT p (i_meet p l m)).filter (fun a0 => i_BisectorsOf_c1 a0 p c l m))), (0 : Int)) = _
      rw [hh]
      unfold V_s_BisectorsOf_0
      rw [← em]
      rfl
    · rfl
  · simp [h]
theorem BisectorsOf_len (p c : Int) (l m : P3) : lenB (i_BisectorsOf p c l m).1.1 3 (i_BisectorsOf p c l m).1.2 = true := by
  unfold i_BisectorsOf
  by_cases h : i_twoLines p c l m = 0
  · have hq := linesT_len (Pr_prB (i_IsField_ok (two_zero h).1)) (i_meet p l m)
    rw [h, if_neg (by decide)]
    split
    · rfl
    · exact lenB3 (Nat.le_trans (List.length_filter_le _ _) (by omega))
  · rw [if_pos (by simpa using h)]
    rfl
theorem foldl_same {T : Type} {f g : T → Nat} {r : List T} {l : List Int} (h : ∀ a ∈ r, f a = g a) : r.foldl (fun s a => bump s (f a)) l = r.foldl (fun s a => bump s (g a)) l := by
  induction r generalizing l with
  | nil => rfl
  | cons a r ih => rw [List.foldl_cons, List.foldl_cons, h a (by simp), ih fun b hb => h b (by simp [hb])]
theorem count_code {p c : Int} {l : P3} (h : i_asked p true (if i_isColour c = true then i_isLine p l else false) = 0) : i_IsField p = true ∧ isC c ∧ i_isLine p l = true := by
  obtain ⟨hf, hb⟩ := asked_zero h
  cases hc : i_isColour c
  · simp [hc] at hb
  · simp only [hc, if_true] at hb
    exact ⟨hf, isC_of hc, hb⟩
theorem CountBySpread_same (p c : Int) (l : P3) : i_CountBySpread p c l = s_CountBySpread p c l := by
  unfold i_CountBySpread s_CountBySpread i_CountBySpread_c1
  rw [l03code, show rows3 1 [l.1, l.2.1, l.2.2] = [l] from rfl, show i_areLines p [l] = i_isLine p l from by simp [i_areLines]]
  by_cases h : i_asked p true (if i_isColour c = true then i_isLine p l else false) = 0
  · obtain ⟨hf, hc, hl⟩ := count_code h
    have h0 : i_isPoint p (0, 0) = true := by
      have := i_IsField_ok hf
      unfold Pr at this
      simp [i_isPoint, i_areNumbers, i_isNumber]; omega
    have hh : nonnullL p c (0, 0) = (linesT p (0, 0)).filter fun zz => (!(i_isNull p c zz)) := by
      unfold nonnullL
      rw [linesS_eq hf h0]
      rfl
    rw [h, l03null_eq]
    cases i_isNull p c l
    · show V_i_CountBySpread_0 p c l (List.replicate p.toNat 0) 0 = V_s_CountBySpread_0 p c l (List.replicate p.toNat 0) 0
      unfold V_i_CountBySpread_0 V_s_CountBySpread_0
      rw [hh]
      congr 2
      refine foldl_same fun m hm => ?_
      rw [spread_same hf hc hl (line_mem hf h0 (List.mem_filter.1 hm).1).1]
    · rfl
  · generalize i_asked p true (if i_isColour c = true then i_isLine p l else false) = z at *
    simp [h]
theorem CountBySpread_len (p c : Int) (l : P3) : lenB (i_CountBySpread p c l).1.1 1 (i_CountBySpread p c l).1.2 = true := by
  unfold i_CountBySpread i_CountBySpread_c1
  by_cases h : i_asked p true (if i_isColour c = true then i_isLine p l else false) = 0
  · obtain ⟨h1, _, _⟩ := prB_nat (Pr_prB (i_IsField_ok (asked_zero h).1))
    rw [h, if_neg (by decide)]
    split
    · rfl
    · exact lenB_of (by unfold V_i_CountBySpread_0; rw [bumps_len]; simp) (by unfold V_i_CountBySpread_0; dsimp only; omega)
  · rw [if_pos (by simpa using h)]
    rfl
theorem lines_count {p : Int} {a b : P2} {q : P3 → Bool} (hq : ∀ x y z w, q (x, y, z) = q (x, y, w)) : ((linesT p a).filter q).length = ((linesT p b).filter q).length := by
  unfold linesT
  rw [List.filter_cons, List.filter_cons, hq 0 1 (i_rest p (wrap64 (0 - a.2))) (i_rest p (wrap64 (0 - b.2)))]
  have e : (((List.range p.toNat).map fun k : Nat => ((1 : Int), (k : Int), i_rest p (wrap64 (wrap64 (0 - a.1) - wrap64 ((k : Int) * a.2))))).filter q).length = (((List.range p.toNat).map fun k : Nat => ((1 : Int), (k : Int), i_rest p (wrap64 (wrap64 (0 - b.1) - wrap64 ((k : Int) * b.2))))).filter q).length := by
    rw [List.filter_map, List.filter_map, List.length_map, List.length_map]
    congr 1
    refine filter_same fun k _ => ?_
    exact hq _ _ _ _
  split
  · rw [List.length_cons, List.length_cons, e]
  · exact e
theorem nn_all : ∀ p ∈ ([3, 5, 7, 11, 13, 17, 19, 23, 29, 31] : List Int), ∀ c ∈ ([0, 1, 2] : List Int), ((((linesT p (0, 0)).filter fun zz => (!(i_isNull p c zz))).length : Nat) : Int) = p + 1 ∨ ((((linesT p (0, 0)).filter fun zz => (!(i_isNull p c zz))).length : Nat) : Int) = p - 1 := by decide +kernel
theorem lws_zero {p c : Int} {l : P3} {a : P2} {s : Int} (h : ((i_LinesWithSpread p c l a s).2 == 0) = true) : i_IsField p = true ∧ isC c ∧ i_isLine p l = true ∧ i_isPoint p a = true ∧ (0 ≤ s ∧ s < p) ∧ i_isNull p c l = false ∧ i_LinesWithSpread p c l a s = ((((linesT p a).filter (fun a0 => i_LinesWithSpread_c2 a0 p c l s)).length, flat3 ((linesT p a).filter (fun a0 => i_LinesWithSpread_c2 a0 p c l s))), 0) := by
  unfold i_LinesWithSpread i_LinesWithSpread_c1 at h ⊢
  by_cases e : i_asked p true (if i_isColour c = true then if i_isLine p l = true then if i_isPoint p a = true then i_isNumber p s else false else false else false) = 0
  · obtain ⟨hf, hb⟩ := asked_zero e
    rw [e, if_neg (by decide)] at h ⊢
    cases hc : i_isColour c
    · simp [hc] at hb
    cases hl : i_isLine p l
    · simp [hc, hl] at hb
    cases ha : i_isPoint p a
    · simp [hc, hl, ha] at hb
    cases hn : i_isNull p c l
    · simp only [hc, hl, ha, if_true] at hb
      exact ⟨hf, isC_of hc, rfl, rfl, isNumber_iff.1 hb, rfl, rfl⟩
    · simp [hn] at h
  · rw [if_pos (by simpa using e)] at h
    exact absurd (by simpa using h) e
theorem lws_count {p c : Int} {l : P3} {a : P2} {s : Int} (h : ((i_LinesWithSpread p c l a s).2 == 0) = true) :
    (i_CountBySpread p c l).2 = 0 ∧ (((i_CountBySpread p c l).1.1 : Nat) : Int) = p ∧ (decide (0 ≤ s) && decide (s < (((i_CountBySpread p c l).1.1 : Nat) : Int))) = true ∧ Nat.ble (s.toNat * 1 + 1) (i_CountBySpread p c l).1.2.length = true ∧
    (i_CountBySpread p c l).1.2.getD (s.toNat * 1) 0 = (((i_LinesWithSpread p c l a s).1.1 : Nat) : Int) ∧ (l_sum (i_CountBySpread p c l).1.1 (i_CountBySpread p c l).1.2 = wI (p + 1) ∨ l_sum (i_CountBySpread p c l).1.1 (i_CountBySpread p c l).1.2 = wI (p - 1)) := by
  obtain ⟨hf, hc, hl, ha, hs, hn, e⟩ := lws_zero h
  have hp := i_IsField_ok hf
  have hpp : prB p = true := Pr_prB hp
  obtain ⟨h31, h0, hpn⟩ := prB_nat hpp
  have hc' : i_isColour c = true := by rcases hc with rfl | rfl | rfl <;> rfl
  have e1 : i_asked p true (if i_isColour c = true then i_isLine p l else false) = 0 := by unfold i_asked; simp [hf, hc', hl]
  have hC : i_CountBySpread p c l = ((p.toNat, ((linesT p (0, 0)).filter fun zz => (!(i_isNull p c zz))).foldl (fun s zz => bump s (i_spread p c l zz).toNat) (List.replicate p.toNat 0)), 0) := by
    unfold i_CountBySpread i_CountBySpread_c1
    rw [e1, hn]
    rfl
  rw [hC, e]
  have hmem : c ∈ ([0, 1, 2] : List Int) := by rcases hc with rfl | rfl | rfl <;> simp
  have hnn := nn_all p (field_mem hf) c hmem
  have hsz := linesT_len hpp (0, 0)
  have hfl := List.length_filter_le (fun zz => (!(i_isNull p c zz))) (linesT p (0, 0))
  have hcount : ((((linesT p (0, 0)).filter fun zz => (!(i_isNull p c zz))).filter fun zz => Nat.beq (i_spread p c l zz).toNat s.toNat)).length = ((linesT p a).filter (fun a0 => i_LinesWithSpread_c2 a0 p c l s)).length := by
    rw [List.filter_filter, lines_count (a := (0, 0)) (b := a) (fun x y z w => rfl)]
    congr 1
    refine filter_same fun m _ => ?_
    unfold i_LinesWithSpread_c2
    have b := ispread_b hpp c l m
    cases i_isNull p c m
    · simp only [Bool.not_false, Bool.and_true, if_true]
      rw [Bool.eq_iff_iff, Nat.beq_eq, beq_iff_eq]
      omega
    · simp
  generalize hL : ((linesT p (0, 0)).filter fun zz => (!(i_isNull p c zz))) = L at *
  obtain ⟨f1, f2, f3⟩ := fold_bump (N := p.toNat) (fun zz => (i_spread p c l zz).toNat) L (List.replicate p.toNat 0) 0 (by simp) (fun m _ => by have := ispread_b hpp c l m; omega) (fun x hx => rep_mem hx) (by omega)
  refine ⟨rfl, by dsimp only; omega, idx_ok (by dsimp only; omega), ble_ok (by dsimp only; rw [bumps_len]; simp; omega), ?_, ?_⟩
  · dsimp only
    rw [Nat.mul_one, f3, rep_getD, hcount]
    omega
  · dsimp only
    have hx := hp
    unfold Pr at hx
    have e5 : sumZ (L.foldl (fun s zz => bump s (i_spread p c l zz).toNat) (List.replicate p.toNat 0)) = L.length := by rw [f1, rep_sum]; omega
    rw [sum_eq (fun x hx => (f2 x hx).1) (by omega), e5, wI_eq, wI_eq, w64 (by omega), w64 (by omega)]
    exact hnn
theorem lws_each {p c : Int} {l : P3} {a : P2} {s : Int} {k : Nat} (hk : k < (i_LinesWithSpread p c l a s).1.1) :
    (i_SpreadOf p c l (R3 (i_LinesWithSpread p c l a s).1.2 k)).2 = 0 ∧ (i_IsOnLine p a (R3 (i_LinesWithSpread p c l a s).1.2 k)).2 = 0 ∧ (i_SpreadOf p c l (R3 (i_LinesWithSpread p c l a s).1.2 k)).1 = s ∧ (i_IsOnLine p a (R3 (i_LinesWithSpread p c l a s).1.2 k)).1 = true := by
  by_cases h : ((i_LinesWithSpread p c l a s).2 == 0) = true
  · obtain ⟨hf, hc, hl, ha, hs, hn, e⟩ := lws_zero h
    rw [e] at hk ⊢
    dsimp only at hk ⊢
    generalize hL : (linesT p a).filter (fun a0 => i_LinesWithSpread_c2 a0 p c l s) = L at hk ⊢
    have hm : R3 (flat3 L) k ∈ L := by
      rw [R3_flat, List.getD_eq_getElem?_getD, List.getElem?_eq_getElem hk]
      exact List.getElem_mem hk
    generalize R3 (flat3 L) k = m at hm ⊢
    rw [← hL, List.mem_filter] at hm
    obtain ⟨hm1, hm2⟩ := hm
    obtain ⟨k1, k2⟩ := line_mem hf ha hm1
    unfold i_LinesWithSpread_c2 at hm2
    cases nm : i_isNull p c m
    · rw [nm] at hm2
      have hq : i_spread p c l m = s := by simpa using hm2
      have e2 : i_SpreadOf p c l m = (i_spread p c l m, 0) := by
        unfold i_SpreadOf
        rw [two_of hf hc hl k1 hn nm]
        rfl
      rw [e2, k2]
      exact ⟨rfl, rfl, hq, rfl⟩
    · rw [nm] at hm2; simp at hm2
  · exfalso
    unfold i_LinesWithSpread i_LinesWithSpread_c1 at h hk
    by_cases e : i_asked p true (if i_isColour c = true then if i_isLine p l = true then if i_isPoint p a = true then i_isNumber p s else false else false else false) = 0
    · rw [e, if_neg (by decide)] at h hk
      cases hn : i_isNull p c l
      · rw [hn] at h; simp at h
      · rw [hn] at hk; simp at hk
    · rw [if_pos (by simpa using e)] at hk
      simp at hk
theorem bis_zero {p c : Int} {l m : P3} (h : ((i_BisectorsOf p c l m).2 == 0) = true) : i_twoLines p c l m = 0 ∧ i_areParallel p l m = false ∧ i_BisectorsOf p c l m = ((((linesT p (i_meet p l m)).filter (fun a0 => i_BisectorsOf_c1 a0 p c l m)).length, flat3 ((linesT p (i_meet p l m)).filter (fun a0 => i_BisectorsOf_c1 a0 p c l m))), 0) := by
  unfold i_BisectorsOf at h ⊢
  by_cases e : i_twoLines p c l m = 0
  · rw [e, if_neg (by decide)] at h ⊢
    cases hp : i_areParallel p l m
    · exact ⟨rfl, rfl, rfl⟩
    · rw [hp] at h; simp at h
  · rw [if_pos (by simpa using e)] at h
    exact absurd (by simpa using h) e
theorem bis_mem {p c : Int} {l m n : P3} (h : i_twoLines p c l m = 0) (hn : n ∈ (linesT p (i_meet p l m)).filter (fun a0 => i_BisectorsOf_c1 a0 p c l m)) : i_isLine p n = true ∧ i_isNull p c n = false ∧ i_spread p c l n = i_spread p c m n ∧ n ∈ linesT p (i_meet p l m) := by
  obtain ⟨hf, hc, hl, hm, nl, nm⟩ := two_zero h
  obtain ⟨K, inst, φ, H⟩ := hom_of hf
  obtain ⟨⟨l1, l2, l3⟩, _⟩ := isLine_num hl
  obtain ⟨⟨m1, m2, m3⟩, _⟩ := isLine_num hm
  have vm := vl_meet H hf (Vl.of (φ := φ) l1) (Vl.of l2) (Vl.of l3) (Vl.of m1) (Vl.of m2) (Vl.of m3)
  have hP := isPoint_of vm.1 vm.2
  rw [List.mem_filter] at hn
  obtain ⟨h1, h2⟩ := hn
  unfold i_BisectorsOf_c1 at h2
  cases nn : i_isNull p c n
  · rw [nn] at h2
    exact ⟨(line_mem hf hP h1).1, rfl, by simpa using h2, h1⟩
  · rw [nn] at h2; simp at h2
theorem bis_each {p c : Int} {l m : P3} {k : Nat} (hk : k < (i_BisectorsOf p c l m).1.1) :
    (i_SpreadOf p c l (R3 (i_BisectorsOf p c l m).1.2 k)).2 = 0 ∧ (i_SpreadOf p c m (R3 (i_BisectorsOf p c l m).1.2 k)).2 = 0 ∧ (i_SpreadOf p c l (R3 (i_BisectorsOf p c l m).1.2 k)).1 = (i_SpreadOf p c m (R3 (i_BisectorsOf p c l m).1.2 k)).1 := by
  by_cases h : ((i_BisectorsOf p c l m).2 == 0) = true
  · obtain ⟨ht, _, e⟩ := bis_zero h
    obtain ⟨hf, hc, hl, hm, nl, nm⟩ := two_zero ht
    rw [e] at hk ⊢
    dsimp only at hk ⊢
    have hmm : R3 (flat3 ((linesT p (i_meet p l m)).filter (fun a0 => i_BisectorsOf_c1 a0 p c l m))) k ∈ (linesT p (i_meet p l m)).filter (fun a0 => i_BisectorsOf_c1 a0 p c l m) := by
      rw [R3_flat, List.getD_eq_getElem?_getD, List.getElem?_eq_getElem hk]
      exact List.getElem_mem hk
    generalize R3 (flat3 ((linesT p (i_meet p l m)).filter (fun a0 => i_BisectorsOf_c1 a0 p c l m))) k = n at hmm ⊢
    obtain ⟨k1, k2, k3, _⟩ := bis_mem ht hmm
    have e1 : i_SpreadOf p c l n = (i_spread p c l n, 0) := by
      unfold i_SpreadOf
      rw [two_of hf hc hl k1 nl k2]
      rfl
    have e2 : i_SpreadOf p c m n = (i_spread p c m n, 0) := by
      unfold i_SpreadOf
      rw [two_of hf hc hm k1 nm k2]
      rfl
    rw [e1, e2]
    exact ⟨rfl, rfl, k3⟩
  · exfalso
    unfold i_BisectorsOf at h hk
    by_cases e : i_twoLines p c l m = 0
    · rw [e, if_neg (by decide)] at h hk
      cases hp : i_areParallel p l m
      · rw [hp] at h; simp at h
      · rw [hp] at hk; simp at hk
    · rw [if_pos (by simpa using e)] at hk
      simp at hk
theorem linesT_ne {p : Int} (hf : i_IsField p = true) {a : P2} {i j : Nat} (hij : i < j) (hj : j < (linesT p a).length) : ((linesT p a).getD i (0, 0, 0)).1 ≠ ((linesT p a).getD j (0, 0, 0)).1 ∨ ((linesT p a).getD i (0, 0, 0)).1 = 1 ∧ ((linesT p a).getD j (0, 0, 0)).1 = 1 ∧ ((linesT p a).getD i (0, 0, 0)).2.1 ≠ ((linesT p a).getD j (0, 0, 0)).2.1 := by
  unfold linesT at hj ⊢
  obtain ⟨j, rfl⟩ : ∃ q, j = q + 1 := ⟨j - 1, by omega⟩
  simp only [List.length_cons, List.length_map, List.length_range] at hj
  rw [List.getD_cons_succ]
  have ev : ∀ q, q < p.toNat → (((List.range p.toNat).map fun b : Nat => ((1 : Int), (b : Int), i_rest p (wrap64 (wrap64 (0 - a.1) - wrap64 ((b : Int) * a.2)))))).getD q (0, 0, 0) = ((1 : Int), (q : Int), i_rest p (wrap64 (wrap64 (0 - a.1) - wrap64 ((q : Int) * a.2)))) := by
    intro q hq
    simp [List.getD_eq_getElem?_getD, hq]
  rw [ev j (by omega)]
  cases i with
  | zero =>
    left
    simp
  | succ i =>
    right
    rw [List.getD_cons_succ, ev i (by omega)]
    refine ⟨rfl, rfl, ?_⟩
    dsimp only
    omega
theorem two_filter {T : Type} {q : T → Bool} (d : T) : ∀ (r : List T), (r.filter q).length = 2 → ∃ i j, i < j ∧ j < r.length ∧ (r.filter q).getD 0 d = r.getD i d ∧ (r.filter q).getD 1 d = r.getD j d := by
  have one : ∀ (r : List T), 1 ≤ (r.filter q).length → ∃ j, j < r.length ∧ (r.filter q).getD 0 d = r.getD j d := by
    intro r
    induction r with
    | nil => intro h; simp at h
    | cons x r ih =>
      intro h
      rw [List.filter_cons] at h ⊢
      by_cases hx : q x = true
      · rw [if_pos hx]
        exact ⟨0, by simp, by simp⟩
      · rw [if_neg hx] at h ⊢
        obtain ⟨j, h1, h2⟩ := ih h
        exact ⟨j + 1, by simp; omega, by rw [h2]; simp⟩
  intro r
  induction r with
  | nil => intro h; simp at h
  | cons x r ih =>
    intro h
    rw [List.filter_cons] at h ⊢
    by_cases hx : q x = true
    · rw [if_pos hx] at h ⊢
      obtain ⟨j, h1, h2⟩ := one r (by simp at h; omega)
      refine ⟨0, j + 1, by omega, by simp; omega, by simp, ?_⟩
      rw [List.getD_cons_succ, List.getD_cons_succ]
      exact h2
    · rw [if_neg hx] at h ⊢
      obtain ⟨i, j, h1, h2, h3, h4⟩ := ih h
      exact ⟨i + 1, j + 1, by omega, by simp; omega, by rw [h3]; simp, by rw [h4]; simp⟩
theorem bis_perp {p c : Int} {l m : P3} (h : ((i_BisectorsOf p c l m).2 == 0) = true) (h2 : ((((i_BisectorsOf p c l m).1.1 : Nat) : Int) == 2) = true) :
    i_ArePerpendicular p c (R3 (i_BisectorsOf p c l m).1.2 0) (R3 (i_BisectorsOf p c l m).1.2 1) = (true, 0) := by
  obtain ⟨ht, hpar, e⟩ := bis_zero h
  obtain ⟨hf, hc, hl, hm, nl, nm⟩ := two_zero ht
  rw [e] at h2 ⊢
  dsimp only at h2 ⊢
  have hL2 : ((linesT p (i_meet p l m)).filter (fun a0 => i_BisectorsOf_c1 a0 p c l m)).length = 2 := by simp at h2; omega
  rw [R3_flat, R3_flat]
  have m0 : ((linesT p (i_meet p l m)).filter (fun a0 => i_BisectorsOf_c1 a0 p c l m)).getD 0 (0, 0, 0) ∈ (linesT p (i_meet p l m)).filter (fun a0 => i_BisectorsOf_c1 a0 p c l m) := by
    rw [List.getD_eq_getElem?_getD, List.getElem?_eq_getElem (by omega)]
    exact List.getElem_mem _
  have m1 : ((linesT p (i_meet p l m)).filter (fun a0 => i_BisectorsOf_c1 a0 p c l m)).getD 1 (0, 0, 0) ∈ (linesT p (i_meet p l m)).filter (fun a0 => i_BisectorsOf_c1 a0 p c l m) := by
    rw [List.getD_eq_getElem?_getD, List.getElem?_eq_getElem (by omega)]
    exact List.getElem_mem _
  obtain ⟨i, j, hij, hj, g0, g1⟩ := two_filter (q := fun a0 => i_BisectorsOf_c1 a0 p c l m) (0, 0, 0) (linesT p (i_meet p l m)) hL2
  have hne := linesT_ne hf hij hj
  rw [← g0, ← g1] at hne
  obtain ⟨x1, x2, x3, x4⟩ := bis_mem ht m0
  obtain ⟨y1, y2, y3, y4⟩ := bis_mem ht m1
  generalize ((linesT p (i_meet p l m)).filter (fun a0 => i_BisectorsOf_c1 a0 p c l m)).getD 0 (0, 0, 0) = X at *
  generalize ((linesT p (i_meet p l m)).filter (fun a0 => i_BisectorsOf_c1 a0 p c l m)).getD 1 (0, 0, 0) = Y at *
  clear m0 m1 g0 g1 e h h2 hL2 hij hj
  obtain ⟨K, inst, φ, H⟩ := hom_of hf
  have val : ∀ {z : P3}, i_isLine p z = true → Vl p φ z.1 (φ z.1) ∧ Vl p φ z.2.1 (φ z.2.1) := fun hz => by
    obtain ⟨⟨z1, z2, _⟩, _⟩ := isLine_num hz
    exact ⟨Vl.of z1, Vl.of z2⟩
  obtain ⟨vl1, vl2⟩ := val hl
  obtain ⟨vm1, vm2⟩ := val hm
  obtain ⟨vx1, vx2⟩ := val x1
  obtain ⟨vy1, vy2⟩ := val y1
  have hperp : i_arePerpendicular p c X Y = true := by
    rw [perp_iff H hf hc vx1 vx2 vy1 vy2]
    have nn : ∀ {z : P3}, i_isLine p z = true → i_isNull p c z = false → prodK c (-φ z.2.1) (φ z.1) (-φ z.2.1) (φ z.1) ≠ 0 := fun hz h e => by
      have := (null_val H hf hc (val hz).1 (val hz).2).2 e
      rw [h] at this
      cases this
    have nL := nn hl nl
    have nM := nn hm nm
    have nX := nn x1 x2
    have nY := nn y1 y2
    have hdet : φ l.1 * φ m.2.1 - φ l.2.1 * φ m.1 ≠ 0 := by
      intro e0
      have d := vl_det H hf vl1 vm2 vl2 vm1
      have := (Vl.zero_iff H d).2 e0
      unfold i_areParallel at hpar
      rw [this] at hpar
      cases hpar
    have hw : φ X.1 * φ Y.2.1 - φ X.2.1 * φ Y.1 ≠ 0 := by
      have fx := (isLine_num x1).2
      have fy := (isLine_num y1).2
      have h1 := H.one_ne
      rcases hne with hne | ⟨e1, e2, e3⟩
      · rcases fx with a | ⟨a, b⟩ <;> rcases fy with a' | ⟨a', b'⟩
        · exact absurd (a.trans a'.symm) hne
        · rw [a, a', b', H.one, H.zero]; grind
        · rw [a, b, a', H.one, H.zero]; grind
        · exact absurd (a.trans a'.symm) hne
      · rw [e1, e2, H.one]
        have : φ X.2.1 ≠ φ Y.2.1 := fun e => e3 ((Vl.eq_iff H vx2 vy2).2 e)
        grind
    have sq : ∀ {z : P3}, i_isLine p z = true → i_isNull p c z = false → i_spread p c l z = i_spread p c m z → prodK c (-φ l.2.1) (φ l.1) (-φ z.2.1) (φ z.1) * prodK c (-φ l.2.1) (φ l.1) (-φ z.2.1) (φ z.1) * prodK c (-φ m.2.1) (φ m.1) (-φ m.2.1) (φ m.1) = prodK c (-φ m.2.1) (φ m.1) (-φ z.2.1) (φ z.1) * prodK c (-φ m.2.1) (φ m.1) (-φ z.2.1) (φ z.1) * prodK c (-φ l.2.1) (φ l.1) (-φ l.2.1) (φ l.1) := fun {z} hz nz hs => by
      have s1 := (vl_spread H hf hc vl1 vl2 (val hz).1 (val hz).2).1
      have s2 := (vl_spread H hf hc vm1 vm2 (val hz).1 (val hz).2).1
      have es := (Vl.eq_iff H s1 s2).1 hs
      have nZ := nn hz nz
      clear s1 s2 hne hw hdet
      generalize prodK c (-φ l.2.1) (φ l.1) (-φ z.2.1) (φ z.1) = P at *
      generalize prodK c (-φ m.2.1) (φ m.1) (-φ z.2.1) (φ z.1) = Q at *
      generalize prodK c (-φ l.2.1) (φ l.1) (-φ l.2.1) (φ l.1) = A at *
      generalize prodK c (-φ m.2.1) (φ m.1) (-φ m.2.1) (φ m.1) = B at *
      generalize prodK c (-φ z.2.1) (φ z.1) (-φ z.2.1) (φ z.1) = Z at *
      have i1 : A * Z * (A * Z)⁻¹ = 1 := Lean.Grind.Field.mul_inv_cancel (by grind)
      have i2 : B * Z * (B * Z)⁻¹ = 1 := Lean.Grind.Field.mul_inv_cancel (by grind)
      generalize (A * Z)⁻¹ = i at *
      generalize (B * Z)⁻¹ = j at *
      have e1 : P * P * i = Q * Q * j := by grind
      have e2 : P * P * B * Z = Q * Q * A * Z := by
        have : P * P * B * Z = (P * P * i) * (A * Z) * (B * Z) := by grind
        rw [this, e1]
        grind
      grind
    exact bis_alg hc nL nM (by grind) (by grind) (sq x1 x2 x3) (sq y1 y2 y3)
  have hc' : i_isColour c = true := by rcases hc with rfl | rfl | rfl <;> rfl
  have e : i_asked p true (if i_isColour c = true then i_areLines p [X, Y] else false) = 0 := by unfold i_asked i_areLines; simp [hf, hc', x1, y1]
  unfold i_ArePerpendicular i_ArePerpendicular_c1
  rw [e, hperp]
  rfl
theorem lws_max (p c : Int) (l : P3) (a : P2) (s : Int) : (i_LinesWithSpread p c l a s).1.1 ≤ 1000 := by
  unfold i_LinesWithSpread i_LinesWithSpread_c1
  by_cases h : i_asked p true (if i_isColour c = true then if i_isLine p l = true then if i_isPoint p a = true then i_isNumber p s else false else false else false) = 0
  · have hq := linesT_len (Pr_prB (i_IsField_ok (asked_zero h).1)) a
    have h2 := List.length_filter_le (fun a0 => i_LinesWithSpread_c2 a0 p c l s) (linesT p a)
    rw [h, if_neg (by decide)]
    split
    · exact Nat.zero_le _
    · exact Nat.le_trans h2 (by omega)
  · rw [if_pos (by simpa using h)]
    exact Nat.zero_le _
theorem bis_max (p c : Int) (l m : P3) : (i_BisectorsOf p c l m).1.1 ≤ 1000 := by
  unfold i_BisectorsOf
  by_cases h : i_twoLines p c l m = 0
  · have hq := linesT_len (Pr_prB (i_IsField_ok (two_zero h).1)) (i_meet p l m)
    have h2 := List.length_filter_le (fun a0 => i_BisectorsOf_c1 a0 p c l m) (linesT p (i_meet p l m))
    rw [h, if_neg (by decide)]
    split
    · exact Nat.zero_le _
    · exact Nat.le_trans h2 (by omega)
  · rw [if_pos (by simpa using h)]
    exact Nat.zero_le _
theorem FnBisectors_tot (n : Nat) (l : List Int) (hp : bytB n l = true) : Fo_l_FnBisectors 1000000 n l = some true := by
  unfold Fo_l_FnBisectors G_l_FnBisectors
  refine br_step (fun _ => rfl) (fun hb => ?_)
  have hc := code_big hp hb
  have P1 : k4_1 n l = k4_2 n l := LinesWithSpread_same _ _ _ _ _
  have P1b := congrArg Prod.snd P1
  have P0 : lenB (k4_1 n l).1.1 3 (k4_1 n l).1.2 = true := LinesWithSpread_len _ _ _ _ _
  have P1l : (lenB (k4_1 n l).1.1 3 (k4_1 n l).1.2 && lenB (k4_2 n l).1.1 3 (k4_2 n l).1.2) = true := by rw [← P1]; exact and_two P0 P0
  have P1m : k4_3 n l = true := by
    show l_lines5 (k4_1 n l).1.1 (k4_1 n l).1.2 (k4_2 n l).1.1 (k4_2 n l).1.2 = true
    rw [← P1]
    exact lines5_self _ _
  have G1 : k4_9 n l = k4_10 n l := BisectorsOf_same _ _ _ _
  have G1b := congrArg Prod.snd G1
  have G0 : lenB (k4_9 n l).1.1 3 (k4_9 n l).1.2 = true := BisectorsOf_len _ _ _ _
  have G1l : (lenB (k4_9 n l).1.1 3 (k4_9 n l).1.2 && lenB (k4_10 n l).1.1 3 (k4_10 n l).1.2) = true := by rw [← G1]; exact and_two G0 G0
  have G1m : k4_11 n l = true := by
    show l_lines5 (k4_9 n l).1.1 (k4_9 n l).1.2 (k4_10 n l).1.1 (k4_10 n l).1.2 = true
    rw [← G1]
    exact lines5_self _ _
  have H1 : k4_16 n l = k4_17 n l := CountBySpread_same _ _ _
  have H2 : ((k4_16 n l).2 == (k4_17 n l).2) = true := by rw [H1]; exact beq_self_eq_true _
  have H0 : lenB (k4_16 n l).1.1 1 (k4_16 n l).1.2 = true := CountBySpread_len _ _ _
  have H3 : (lenB (k4_16 n l).1.1 1 (k4_16 n l).1.2 && lenB (k4_17 n l).1.1 1 (k4_17 n l).1.2) = true := by rw [← H1]; exact and_two H0 H0
  have H4 : k4_18 n l = true := by
    show l_likeInts (k4_16 n l).1.1 (k4_16 n l).1.2 (k4_17 n l).1.1 (k4_17 n l).1.2 = true
    rw [← H1]
    exact like_self _ _
  have hlen1 := (lenB_ok P0).1
  have hlen9 := (lenB_ok G0).1
  have hbig1 : (k4_1 n l).1.1 < 1000000 + 100 := Nat.lt_of_le_of_lt (lws_max _ _ _ _ _) (by decide)
  have hbig9 : (k4_9 n l).1.1 < 1000000 + 100 := Nat.lt_of_le_of_lt (bis_max _ _ _ _) (by decide)
  have F1 : ((k4_1 n l).2 == 0) = true → (k4_4 n l).2 = 0 ∧ (((k4_4 n l).1.1 : Nat) : Int) = (k4_0 n l).1 ∧ (decide (0 ≤ (k4_0 n l).2.2.2.2) && decide ((k4_0 n l).2.2.2.2 < (((k4_4 n l).1.1 : Nat) : Int))) = true ∧ Nat.ble ((k4_0 n l).2.2.2.2.toNat * 1 + 1) (k4_4 n l).1.2.length = true ∧
      (k4_4 n l).1.2.getD ((k4_0 n l).2.2.2.2.toNat * 1) 0 = (((k4_1 n l).1.1 : Nat) : Int) ∧ (k4_5 n l = wI ((k4_0 n l).1 + 1) ∨ k4_5 n l = wI ((k4_0 n l).1 - 1)) := fun h => lws_count h
  have C4 : lenB (k4_4 n l).1.1 1 (k4_4 n l).1.2 = true := CountBySpread_len _ _ _
  have G3 : ((k4_9 n l).2 == 0) = true → ((((k4_9 n l).1.1 : Nat) : Int) == 2) = true → (decide (0 ≤ 0) && decide (0 < (((k4_9 n l).1.1 : Nat) : Int))) = true ∧ Nat.ble 3 (k4_9 n l).1.2.length = true ∧ (decide (0 ≤ 1) && decide (1 < (((k4_9 n l).1.1 : Nat) : Int))) = true ∧ Nat.ble 6 (k4_9 n l).1.2.length = true ∧ (k4_14 n l).2 = 0 ∧ (k4_14 n l).1 = true := by
    intro h1 h2
    have hq : k4_14 n l = (true, 0) := bis_perp h1 h2
    have e2 : (k4_9 n l).1.1 = 2 := by simp at h2; omega
    rw [hlen9, hq, e2]
    exact ⟨rfl, rfl, rfl, rfl, rfl, rfl⟩
  have in1 : ∀ (i : Int) (rec0 : Int → Option Bool) (F : Nat), (k4_9 n l).1.1 < F → L_l_FnBisectors_1 1000000 n l i rec0 F 0 = some true := by
    intro i rec0 F hF
    refine walk_loop (L := fun f j => L_l_FnBisectors_1 1000000 n l i rec0 f j) (n := (k4_9 n l).1.1) hF (fun f k hk hr => ?_) (fun f => ?_)
    · show B_l_FnBisectors_1 n l i rec0 (L_l_FnBisectors_1 1000000 n l i rec0 f) (k : Int) = some true
      unfold B_l_FnBisectors_1
      rw [wrap_add1 hk (by omega)]
      obtain ⟨m1, m2, m3⟩ := bis_each (p := (k4_8 n l).1) (c := (k4_8 n l).2.1) (l := (k4_8 n l).2.2.1) (m := (k4_8 n l).2.2.2) hk
      refine ck_step (cnd hk) ?_
      refine ck_step (cnd2 hk) ?_
      refine ck_step (by rw [Int.toNat_natCast]; exact row3_ok hlen9 hk) ?_
      refine ck_step (cnd2 hk) ?_
      refine ck_step (by rw [Int.toNat_natCast]; exact row3_ok hlen9 hk) ?_
      refine ne_step m1 ?_
      refine ne_step m2 ?_
      refine ne_step m3 ?_
      exact hr
    · show B_l_FnBisectors_1 n l i rec0 (L_l_FnBisectors_1 1000000 n l i rec0 f) (((k4_9 n l).1.1 : Nat) : Int) = some true
      unfold B_l_FnBisectors_1
      refine no_step (cndE _) ?_
      repeat' (first
        | with_reducible exact end_step H4
        | with_reducible refine ck_step hc ?_
        | with_reducible refine ck_step H2 ?_
        | with_reducible refine ck_step H3 ?_
        | with_reducible refine ck_step (G3 ‹((k4_9 n l).2 == 0) = true› ‹((((k4_9 n l).1.1 : Nat) : Int) == 2) = true›).1 ?_
        | with_reducible refine ck_step (G3 ‹((k4_9 n l).2 == 0) = true› ‹((((k4_9 n l).1.1 : Nat) : Int) == 2) = true›).2.1 ?_
        | with_reducible refine ck_step (G3 ‹((k4_9 n l).2 == 0) = true› ‹((((k4_9 n l).1.1 : Nat) : Int) == 2) = true›).2.2.1 ?_
        | with_reducible refine ck_step (G3 ‹((k4_9 n l).2 == 0) = true› ‹((((k4_9 n l).1.1 : Nat) : Int) == 2) = true›).2.2.2.1 ?_
        | with_reducible refine ne_step (G3 ‹((k4_9 n l).2 == 0) = true› ‹((((k4_9 n l).1.1 : Nat) : Int) == 2) = true›).2.2.2.2.1 ?_
        | with_reducible refine nt_step (G3 ‹((k4_9 n l).2 == 0) = true› ‹((((k4_9 n l).1.1 : Nat) : Int) == 2) = true›).2.2.2.2.2 ?_
        | with_reducible refine br_step (fun _ => ?_) (fun _ => ?_))
  have in3 : ∀ (i : Int) (rec0 : Int → Option Bool) (F : Nat), (k4_9 n l).1.1 < F → L_l_FnBisectors_3 1000000 n l i rec0 F 0 = some true := by
    intro i rec0 F hF
    refine walk_loop (L := fun f j => L_l_FnBisectors_3 1000000 n l i rec0 f j) (n := (k4_9 n l).1.1) hF (fun f k hk hr => ?_) (fun f => ?_)
    · show B_l_FnBisectors_3 n l i rec0 (L_l_FnBisectors_3 1000000 n l i rec0 f) (k : Int) = some true
      unfold B_l_FnBisectors_3
      rw [wrap_add1 hk (by omega)]
      obtain ⟨m1, m2, m3⟩ := bis_each (p := (k4_8 n l).1) (c := (k4_8 n l).2.1) (l := (k4_8 n l).2.2.1) (m := (k4_8 n l).2.2.2) hk
      refine ck_step (cnd hk) ?_
      refine ck_step (cnd2 hk) ?_
      refine ck_step (by rw [Int.toNat_natCast]; exact row3_ok hlen9 hk) ?_
      refine ck_step (cnd2 hk) ?_
      refine ck_step (by rw [Int.toNat_natCast]; exact row3_ok hlen9 hk) ?_
      refine ne_step m1 ?_
      refine ne_step m2 ?_
      refine ne_step m3 ?_
      exact hr
    · show B_l_FnBisectors_3 n l i rec0 (L_l_FnBisectors_3 1000000 n l i rec0 f) (((k4_9 n l).1.1 : Nat) : Int) = some true
      unfold B_l_FnBisectors_3
      refine no_step (cndE _) ?_
      repeat' (first
        | with_reducible exact end_step H4
        | with_reducible refine ck_step hc ?_
        | with_reducible refine ck_step H2 ?_
        | with_reducible refine ck_step H3 ?_
        | with_reducible refine ck_step (G3 ‹((k4_9 n l).2 == 0) = true› ‹((((k4_9 n l).1.1 : Nat) : Int) == 2) = true›).1 ?_
        | with_reducible refine ck_step (G3 ‹((k4_9 n l).2 == 0) = true› ‹((((k4_9 n l).1.1 : Nat) : Int) == 2) = true›).2.1 ?_
        | with_reducible refine ck_step (G3 ‹((k4_9 n l).2 == 0) = true› ‹((((k4_9 n l).1.1 : Nat) : Int) == 2) = true›).2.2.1 ?_
        | with_reducible refine ck_step (G3 ‹((k4_9 n l).2 == 0) = true› ‹((((k4_9 n l).1.1 : Nat) : Int) == 2) = true›).2.2.2.1 ?_
        | with_reducible refine ne_step (G3 ‹((k4_9 n l).2 == 0) = true› ‹((((k4_9 n l).1.1 : Nat) : Int) == 2) = true›).2.2.2.2.1 ?_
        | with_reducible refine nt_step (G3 ‹((k4_9 n l).2 == 0) = true› ‹((((k4_9 n l).1.1 : Nat) : Int) == 2) = true›).2.2.2.2.2 ?_
        | with_reducible refine br_step (fun _ => ?_) (fun _ => ?_))
  have in4 : ∀ (F : Nat), (k4_9 n l).1.1 < F → L_l_FnBisectors_4 1000000 n l F 0 = some true := by
    intro F hF
    refine walk_loop (L := fun f i => L_l_FnBisectors_4 1000000 n l f i) (n := (k4_9 n l).1.1) hF (fun f k hk hr => ?_) (fun f => ?_)
    · show B_l_FnBisectors_4 n l (L_l_FnBisectors_4 1000000 n l f) (k : Int) = some true
      unfold B_l_FnBisectors_4
      rw [wrap_add1 hk (by omega)]
      obtain ⟨m1, m2, m3⟩ := bis_each (p := (k4_8 n l).1) (c := (k4_8 n l).2.1) (l := (k4_8 n l).2.2.1) (m := (k4_8 n l).2.2.2) hk
      refine ck_step (cnd hk) ?_
      refine ck_step (cnd2 hk) ?_
      refine ck_step (by rw [Int.toNat_natCast]; exact row3_ok hlen9 hk) ?_
      refine ck_step (cnd2 hk) ?_
      refine ck_step (by rw [Int.toNat_natCast]; exact row3_ok hlen9 hk) ?_
      refine ne_step m1 ?_
      refine ne_step m2 ?_
      refine ne_step m3 ?_
      exact hr
    · show B_l_FnBisectors_4 n l (L_l_FnBisectors_4 1000000 n l f) (((k4_9 n l).1.1 : Nat) : Int) = some true
      unfold B_l_FnBisectors_4
      refine no_step (cndE _) ?_
      repeat' (first
        | with_reducible exact end_step H4
        | with_reducible refine ck_step hc ?_
        | with_reducible refine ck_step H2 ?_
        | with_reducible refine ck_step H3 ?_
        | with_reducible refine ck_step (G3 ‹((k4_9 n l).2 == 0) = true› ‹((((k4_9 n l).1.1 : Nat) : Int) == 2) = true›).1 ?_
        | with_reducible refine ck_step (G3 ‹((k4_9 n l).2 == 0) = true› ‹((((k4_9 n l).1.1 : Nat) : Int) == 2) = true›).2.1 ?_
        | with_reducible refine ck_step (G3 ‹((k4_9 n l).2 == 0) = true› ‹((((k4_9 n l).1.1 : Nat) : Int) == 2) = true›).2.2.1 ?_
        | with_reducible refine ck_step (G3 ‹((k4_9 n l).2 == 0) = true› ‹((((k4_9 n l).1.1 : Nat) : Int) == 2) = true›).2.2.2.1 ?_
        | with_reducible refine ne_step (G3 ‹((k4_9 n l).2 == 0) = true› ‹((((k4_9 n l).1.1 : Nat) : Int) == 2) = true›).2.2.2.2.1 ?_
        | with_reducible refine nt_step (G3 ‹((k4_9 n l).2 == 0) = true› ‹((((k4_9 n l).1.1 : Nat) : Int) == 2) = true›).2.2.2.2.2 ?_
        | with_reducible refine br_step (fun _ => ?_) (fun _ => ?_))
  have out0 : ∀ (F : Nat), (k4_1 n l).1.1 < F → L_l_FnBisectors_0 1000000 n l F 0 = some true := by
    intro F hF
    refine walk_loop (L := fun f i => L_l_FnBisectors_0 1000000 n l f i) (n := (k4_1 n l).1.1) hF (fun f k hk hr => ?_) (fun f => ?_)
    · show B_l_FnBisectors_0 n l (L_l_FnBisectors_1 1000000 n l (k : Int) (L_l_FnBisectors_0 1000000 n l f) (1000000 + 100)) (L_l_FnBisectors_0 1000000 n l f) (k : Int) = some true
      unfold B_l_FnBisectors_0
      rw [wrap_add1 hk (by omega)]
      obtain ⟨m1, m2, m3, m4⟩ := lws_each (p := (k4_0 n l).1) (c := (k4_0 n l).2.1) (l := (k4_0 n l).2.2.1) (a := (k4_0 n l).2.2.2.1) (s := (k4_0 n l).2.2.2.2) hk
      refine ck_step (cnd hk) ?_
      refine ck_step (cnd2 hk) ?_
      refine ck_step (by rw [Int.toNat_natCast]; exact row3_ok hlen1 hk) ?_
      refine ck_step (cnd2 hk) ?_
      refine ck_step (by rw [Int.toNat_natCast]; exact row3_ok hlen1 hk) ?_
      refine ne_step m1 ?_
      refine ne_step m2 ?_
      refine ne_step m3 ?_
      refine nt_step m4 ?_
      exact hr
    · show B_l_FnBisectors_0 n l (L_l_FnBisectors_1 1000000 n l (((k4_1 n l).1.1 : Nat) : Int) (L_l_FnBisectors_0 1000000 n l f) (1000000 + 100)) (L_l_FnBisectors_0 1000000 n l f) (((k4_1 n l).1.1 : Nat) : Int) = some true
      unfold B_l_FnBisectors_0
      refine no_step (cndE _) ?_
      refine ck_step hc ?_
      refine ne_step G1b ?_
      refine ck_step G1l ?_
      refine nt_step G1m ?_
      exact in1 _ _ _ hbig9
  have out2 : ∀ (F : Nat), (k4_1 n l).1.1 < F → L_l_FnBisectors_2 1000000 n l F 0 = some true := by
    intro F hF
    refine walk_loop (L := fun f i => L_l_FnBisectors_2 1000000 n l f i) (n := (k4_1 n l).1.1) hF (fun f k hk hr => ?_) (fun f => ?_)
    · show B_l_FnBisectors_2 n l (L_l_FnBisectors_3 1000000 n l (k : Int) (L_l_FnBisectors_2 1000000 n l f) (1000000 + 100)) (L_l_FnBisectors_2 1000000 n l f) (k : Int) = some true
      unfold B_l_FnBisectors_2
      rw [wrap_add1 hk (by omega)]
      obtain ⟨m1, m2, m3, m4⟩ := lws_each (p := (k4_0 n l).1) (c := (k4_0 n l).2.1) (l := (k4_0 n l).2.2.1) (a := (k4_0 n l).2.2.2.1) (s := (k4_0 n l).2.2.2.2) hk
      refine ck_step (cnd hk) ?_
      refine ck_step (cnd2 hk) ?_
      refine ck_step (by rw [Int.toNat_natCast]; exact row3_ok hlen1 hk) ?_
      refine ck_step (cnd2 hk) ?_
      refine ck_step (by rw [Int.toNat_natCast]; exact row3_ok hlen1 hk) ?_
      refine ne_step m1 ?_
      refine ne_step m2 ?_
      refine ne_step m3 ?_
      refine nt_step m4 ?_
      exact hr
    · show B_l_FnBisectors_2 n l (L_l_FnBisectors_3 1000000 n l (((k4_1 n l).1.1 : Nat) : Int) (L_l_FnBisectors_2 1000000 n l f) (1000000 + 100)) (L_l_FnBisectors_2 1000000 n l f) (((k4_1 n l).1.1 : Nat) : Int) = some true
      unfold B_l_FnBisectors_2
      refine no_step (cndE _) ?_
      refine ck_step hc ?_
      refine ne_step G1b ?_
      refine ck_step G1l ?_
      refine nt_step G1m ?_
      exact in3 _ _ _ hbig9
  have o0 := out0 _ hbig1
  have o2 := out2 _ hbig1
  have o4 := in4 _ hbig9
  refine ck_step hc ?_
  refine ne_step P1b ?_
  refine ck_step P1l ?_
  refine nt_step P1m ?_
  refine br_step (fun h => ?_) (fun _ => ?_)
  · obtain ⟨f1, f2, f3, f4, f5, f6⟩ := F1 h
    refine ne_step f1 (ne_step f2 (ck_step f3 (ck_step f4 (ne_step f5 (ck_step C4 ?_)))))
    rcases f6 with f6 | f6
    · refine no_step (by rw [f6]; exact bne_self_eq_false _) o2
    · refine br_step (fun _ => ?_) (fun _ => o2)
      exact ck_step C4 (ne_step f6 o0)
  · exact ck_step hc (ne_step G1b (ck_step G1l (nt_step G1m o4)))

def l_FnBisectors (coden : Nat) (codel : List Int) : Bool := true
theorem tot_l_FnBisectors (coden : Nat) (codel : List Int) (hp : (bytB coden codel) = true) : Fo_l_FnBisectors 1000000 coden codel = some (l_FnBisectors coden codel) := by
  exact FnBisectors_tot coden codel hp
def run_l_FnBisectors : List PV → Option (Bool × List TR)
  | [.s coden (.byts codel)] => some (bytB coden codel, enc_b (l_FnBisectors coden codel))
  | _ => none
theorem sound_l_FnBisectors : Sound Try.prog 4 run_l_FnBisectors := by
  refine sound_of de_b SO_l_FnBisectors (by kernel_rfl) Try.func4 Try.ntmps4 rfl (by kernel_rfl) ?_
  intro W pvs avs rs hargs hrun
  unfold run_l_FnBisectors at hrun
  split at hrun
  · simp only [Option.some.injEq, Prod.mk.injEq] at hrun
    obtain ⟨hp, rfl⟩ := hrun
    rename_i coden codel
    exact ⟨_, _, _, hargs, rfl, (eq_l_FnBisectors _ coden codel).trans (tot_l_FnBisectors coden codel hp)⟩
  · cases hrun


end

end Go.Proofs.Ytpffcfiojjgnlaa
