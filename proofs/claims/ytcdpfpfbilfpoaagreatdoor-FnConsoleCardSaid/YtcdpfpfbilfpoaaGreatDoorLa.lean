import Derived.Test.YtcdpfpfbilfpoaaGreatDoorTb
import Derived.Handy
import Derived.Shelf.Strings.OnBuilder
import Derived.Shelf.Strconv.Itoa4
import Derived.Shelf.Strings.Search3
import Derived.Shelf.Strings.Count
import Derived.Shelf.Strings.Split
import Derived.Test.YtcdpfpfbilfpoaaGreatDoorProg
set_option linter.unusedSimpArgs false
set_option linter.unusedVariables false
namespace Go.Proofs.YtcdpfpfbilfpoaaGreatDoor
open Go.RowKit Tryz
section
open Go.Shelf
def Zpe : Go.Shelf.Ren := ⟨fun | 156 => 165 | 165 => 212 | 166 => 213 | 169 => 214 | 240 => 245 | 241 => 246 | 276 => 254 | 277 => 255 | n => n, fun | 31 => 55 | 9 => 9 | 3 => 3 | 4 => 4 | 0 => 0 | 20 => 20 | 72 => 200 | 76 => 204 | 70 => 198 | 37 => 32 | 75 => 203 | 127 => 225 | 164 => 231 | 5 => 5 | 80 => 206 | n => n, fun | n => n⟩
theorem ZEZ : Go.Proofs.Lays.n156 prog Zpe := {
 mixed := by kernel_rfl
 f156 := func165.trans (congrArg some (by kernel_rfl))
 f165 := func212.trans (congrArg some (by kernel_rfl))
 f166 := func213.trans (congrArg some (by kernel_rfl))
 f169 := func214.trans (congrArg some (by kernel_rfl))
 f240 := func245.trans (congrArg some (by kernel_rfl))
 f241 := func246.trans (congrArg some (by kernel_rfl))
 f276 := func254.trans (congrArg some (by kernel_rfl))
 f277 := func255.trans (congrArg some (by kernel_rfl))
 t0 := underlying0
 a0 := isAgg0
 z0 := sizeOf0
 v0 := zeroValue0
 t3 := underlying3
 a3 := isAgg3
 z3 := sizeOf3
 v3 := zeroValue3
 t4 := underlying4
 a4 := isAgg4
 z4 := sizeOf4
 v4 := zeroValue4
 t9 := underlying9
 a9 := isAgg9
 z9 := sizeOf9
 v9 := zeroValue9
 t20 := underlying20
 a20 := isAgg20
 z20 := sizeOf20
 v20 := zeroValue20
 t31 := underlying55
 a31 := isAgg55
 z31 := sizeOf55
 v31 := zeroValue55
 t37 := underlying32
 a37 := isAgg32
 z37 := sizeOf32
 v37 := zeroValue32
 t70 := underlying198
 a70 := isAgg198
 z70 := sizeOf198
 v70 := zeroValue198
 t72 := underlying200
 a72 := isAgg200
 z72 := sizeOf200
 v72 := zeroValue200
 t75 := underlying203
 a75 := isAgg203
 z75 := sizeOf203
 v75 := zeroValue203
 t76 := underlying204
 a76 := isAgg204
 z76 := sizeOf204
 v76 := zeroValue204
 t127 := underlying225
 a127 := isAgg225
 z127 := sizeOf225
 v127 := zeroValue225
 t164 := underlying231
 a164 := isAgg231
 z164 := sizeOf231
 v164 := zeroValue231 }
theorem ZfC : Builder.Extra prog Zpe := {
 sizeBuilder := by kernel_rfl
 liesBuilder := by kernel_rfl
 t5 := underlying5
 a5 := isAgg5
 z5 := sizeOf5
 v5 := zeroValue5
 infoByte := by kernel_rfl
 cellsByte := by kernel_rfl
 sizeByte := by kernel_rfl
 neB5 := by decide }
open Go.RowKit in
theorem Zog (a : Option Addr) (c : Nat) (sep : ByteArray) (w : World) :
  Calls prog 165 #[.slice a 0 c, .string sep] w fun e w' => e = .returned (.string ⟨#[]⟩) /\ w' = w := Any.strings_Join_none ZEZ ZfC a c sep w
open Go.RowKit in
theorem ZBe (bk o c : Nat) (xs : List ByteArray) (sep : ByteArray) (w : World) (Zki : ∀ (j : Nat) x, xs[j]? = some x -> w.cell? ⟨bk, o + j, none⟩ = some (.string x)) (hbk : bk < w.heap.size) (hN : xs.length <= 140737488355328) (hcap : xs.length <= c) (Z4X : (Lib.join (xs.map (·.data.toList)) sep.data.toList).length <= 140737488355328) :
  Calls prog 165 #[.slice (some ⟨bk, o, none⟩) xs.length c, .string sep] w fun e w' => e = .returned (.string ⟨(Lib.join (xs.map (·.data.toList)) sep.data.toList).toArray⟩) /\ Below w.heap.size w w' := Any.strings_Join ZEZ ZfC bk o c xs sep w Zki hbk hN hcap Z4X
def ZDK : Go.Shelf.Ren := ⟨fun | 173 => 140 | 246 => 178 | 283 => 218 | 284 => 219 | 285 => 220 | 286 => 221 | 129 => 248 | 317 => 247 | 318 => 249 | 319 => 250 | 320 => 251 | 337 => 256 | 338 => 257 | n => n, fun | 2 => 2 | 3 => 3 | 9 => 9 | 4 => 4 | 171 => 210 | 0 => 0 | 53 => 75 | 37 => 32 | 5 => 5 | 173 => 213 | 212 => 227 | 51 => 222 | 20 => 20 | 213 => 228 | 46 => 82 | 232 => 235 | 233 => 236 | n => n, fun | 17 => 3 | 18 => 4 | 19 => 5 | n => n⟩
theorem ZMQ : Go.Proofs.Lays.n173 prog ZDK := {
 mixed := by kernel_rfl
 f129 := func248.trans (congrArg some (by kernel_rfl))
 f173 := func140.trans (congrArg some (by kernel_rfl))
 f246 := func178.trans (congrArg some (by kernel_rfl))
 f283 := func218.trans (congrArg some (by kernel_rfl))
 f284 := func219.trans (congrArg some (by kernel_rfl))
 f285 := func220.trans (congrArg some (by kernel_rfl))
 f286 := func221.trans (congrArg some (by kernel_rfl))
 f317 := func247.trans (congrArg some (by kernel_rfl))
 f318 := func249.trans (congrArg some (by kernel_rfl))
 f319 := func250.trans (congrArg some (by kernel_rfl))
 f320 := func251.trans (congrArg some (by kernel_rfl))
 f337 := func256.trans (congrArg some (by kernel_rfl))
 f338 := func257.trans (congrArg some (by kernel_rfl))
 t0 := underlying0
 a0 := isAgg0
 z0 := sizeOf0
 v0 := zeroValue0
 t2 := underlying2
 a2 := isAgg2
 z2 := sizeOf2
 v2 := zeroValue2
 t3 := underlying3
 a3 := isAgg3
 z3 := sizeOf3
 v3 := zeroValue3
 t4 := underlying4
 a4 := isAgg4
 z4 := sizeOf4
 v4 := zeroValue4
 t5 := underlying5
 a5 := isAgg5
 z5 := sizeOf5
 v5 := zeroValue5
 t9 := underlying9
 a9 := isAgg9
 z9 := sizeOf9
 v9 := zeroValue9
 t20 := underlying20
 a20 := isAgg20
 z20 := sizeOf20
 v20 := zeroValue20
 t37 := underlying32
 a37 := isAgg32
 z37 := sizeOf32
 v37 := zeroValue32
 t46 := underlying82
 a46 := isAgg82
 z46 := sizeOf82
 v46 := zeroValue82
 t51 := underlying222
 a51 := isAgg222
 z51 := sizeOf222
 v51 := zeroValue222
 t53 := underlying75
 a53 := isAgg75
 z53 := sizeOf75
 v53 := zeroValue75
 t171 := underlying210
 a171 := isAgg210
 z171 := sizeOf210
 v171 := zeroValue210
 t173 := underlying213
 a173 := isAgg213
 z173 := sizeOf213
 v173 := zeroValue213
 t212 := underlying227
 a212 := isAgg227
 z212 := sizeOf227
 v212 := zeroValue227
 t213 := underlying228
 a213 := isAgg228
 z213 := sizeOf228
 t232 := underlying235
 a232 := isAgg235
 z232 := sizeOf235
 v232 := zeroValue235
 t233 := underlying236
 a233 := isAgg236
 z233 := sizeOf236
 v233 := zeroValue236
 g17 := by kernel_rfl
 g18 := by kernel_rfl
 g19 := by kernel_rfl }
open Go.RowKit Go.Sort Go.Lib in
theorem Zf9 (i : Nat) (hi : i < 100) (w : World) :
  Calls prog 140 #[.int .i64 i, .int .i64 10] w fun e w' => e = .returned (.string ⟨(Lib.decDigits i).toArray⟩) /\ w' = w := Any.strconv_FormatInt_10_small ZMQ i hi w
def ZDJ : Go.Shelf.Ren := ⟨fun | 146 => 31 | 221 => 53 | 268 => 102 | 138 => 103 | 143 => 104 | 195 => 161 | 197 => 162 | 218 => 163 | 219 => 164 | 260 => 207 | 217 => 208 | 225 => 209 | 224 => 210 | 267 => 211 | 266 => 243 | 314 => 244 | n => n, fun | 9 => 9 | 31 => 55 | 3 => 3 | 4 => 4 | 0 => 0 | 105 => 176 | 21 => 21 | 5 => 5 | 46 => 82 | 119 => 218 | 139 => 221 | 138 => 220 | 146 => 223 | 51 => 222 | n => n, fun | 1 => 0 | 3 => 1 | 4 => 2 | n => n⟩
theorem ZMP : Go.Proofs.Lays.n146 prog ZDJ := {
 mixed := by kernel_rfl
 f138 := func103.trans (congrArg some (by kernel_rfl))
 f143 := func104.trans (congrArg some (by kernel_rfl))
 f146 := func31.trans (congrArg some (by kernel_rfl))
 f195 := func161.trans (congrArg some (by kernel_rfl))
 f197 := func162.trans (congrArg some (by kernel_rfl))
 f217 := func208.trans (congrArg some (by kernel_rfl))
 f218 := func163.trans (congrArg some (by kernel_rfl))
 f219 := func164.trans (congrArg some (by kernel_rfl))
 f221 := func53.trans (congrArg some (by kernel_rfl))
 f224 := func210.trans (congrArg some (by kernel_rfl))
 f225 := func209.trans (congrArg some (by kernel_rfl))
 f260 := func207.trans (congrArg some (by kernel_rfl))
 f266 := func243.trans (congrArg some (by kernel_rfl))
 f267 := func211.trans (congrArg some (by kernel_rfl))
 f268 := func102.trans (congrArg some (by kernel_rfl))
 f314 := func244.trans (congrArg some (by kernel_rfl))
 t0 := underlying0
 a0 := isAgg0
 z0 := sizeOf0
 v0 := zeroValue0
 t3 := underlying3
 a3 := isAgg3
 z3 := sizeOf3
 v3 := zeroValue3
 t4 := underlying4
 a4 := isAgg4
 z4 := sizeOf4
 v4 := zeroValue4
 t5 := underlying5
 a5 := isAgg5
 z5 := sizeOf5
 v5 := zeroValue5
 t9 := underlying9
 a9 := isAgg9
 z9 := sizeOf9
 v9 := zeroValue9
 t21 := underlying21
 a21 := isAgg21
 z21 := sizeOf21
 v21 := zeroValue21
 t31 := underlying55
 a31 := isAgg55
 z31 := sizeOf55
 v31 := zeroValue55
 t46 := underlying82
 a46 := isAgg82
 z46 := sizeOf82
 v46 := zeroValue82
 t51 := underlying222
 a51 := isAgg222
 z51 := sizeOf222
 v51 := zeroValue222
 t105 := underlying176
 a105 := isAgg176
 z105 := sizeOf176
 v105 := zeroValue176
 t119 := underlying218
 a119 := isAgg218
 z119 := sizeOf218
 t138 := underlying220
 a138 := isAgg220
 z138 := sizeOf220
 v138 := zeroValue220
 t139 := underlying221
 a139 := isAgg221
 z139 := sizeOf221
 v139 := zeroValue221
 t146 := underlying223
 a146 := isAgg223
 z146 := sizeOf223
 v146 := zeroValue223
 g1 := by kernel_rfl
 g3 := by kernel_rfl
 g4 := by kernel_rfl }
end
section
open Go.Shelf
theorem ZO7 (c : UInt8) (r : List UInt8) : ∀ x : List UInt8, c ∉ x -> Go.Lib.indexByte (x ++ c :: r) c = (x.length : Int)
 | [], _ => by simp [Go.Lib.indexByte]
 | b :: x, h => by
  have h1 : (b == c) = false := beq_eq_false_iff_ne.2 fun e => h (by rw [e]; simp)
  have ih := ZO7 c r x (fun q => h (by simp [q]))
  rw [List.cons_append, Go.Lib.indexByte, h1, ih]
  have h2 : ((x.length : Int) == -1) = false := beq_eq_false_iff_ne.2 (by omega)
  rw [h2]
  simp
theorem spK (c : UInt8) : ∀ (k : Nat) (l : List UInt8), l.count c = k -> Go.Lib.splitK [c] 0 k l = spL c l
 | 0, l, h => by
  rw [ZBO (List.count_eq_zero.1 h)]
  rfl
 | k + 1, l, h => by
  rcases ZnW c l with ⟨h1, _⟩ | ⟨x, r, h1, h2, h3⟩
  ·rw [List.count_eq_zero.2 h1] at h
   cases h
  ·have hk : r.count c = k := by
    rw [h2, List.count_append, List.count_eq_zero.2 h1, List.count_cons_self] at h
    omega
   have hi : Go.Lib.index l [c] = (x.length : Int) := by rw [Go.Lib.index_one, h2, ZO7 c r x h1]
   rw [h3]
   unfold Go.Lib.splitK
   rw [hi, if_neg (by first | (simp; done) | (simp; omega)), Int.toNat_natCast, Nat.add_zero, h2]
   have e1 : (x ++ c :: r).take x.length = x := by simp
   have e2 : (x ++ c :: r).drop (x.length + [c].length) = r := by simp
   rw [e1, e2, spK c k r hk]
theorem ZQa (s : ByteArray) (c : UInt8) : Go.Lib.countB s ⟨#[c]⟩ = (toL s).count c := by
 show Go.Lib.count s.data.toList [c] = _
 rw [Go.Lib.count_one]
 rfl
theorem ZBQ (s : ByteArray) (c : UInt8) : Go.Lib.splitB ⟨#[c]⟩ 0 (Go.Lib.countB s ⟨#[c]⟩) s = (spL c (toL s)).map bs := by
 have e := Go.Lib.splitB_data ⟨#[c]⟩ 0 (Go.Lib.countB s ⟨#[c]⟩) s
 have k : Go.Lib.splitK [c] 0 (Go.Lib.countB s ⟨#[c]⟩) (toL s) = spL c (toL s) := spK c _ _ (ZQa s c).symm
 have e2 : (Go.Lib.splitB ⟨#[c]⟩ 0 (Go.Lib.countB s ⟨#[c]⟩) s).map toL = spL c (toL s) := e.trans k
 rw [<- e2, List.map_map]
 exact (List.map_id _).symm
theorem ZD7 {P : Program} {ρ : Ren} (L : Lays.n146 P ρ) (hi9 : (P.info? (ρ.t 9)).map (fun i => (i.zero, i.size, i.bytes)) = some (some (.string ByteArray.empty), 1, 16)) (s : ByteArray) (ch : UInt8) (w : World)
  (hs : s.size < 4294967281) :
  Calls P (ρ.f 146) #[.string s, .string ⟨#[ch]⟩] w fun e w' =>
   e = .returned (.slice (some ⟨w.heap.size, 0, none⟩) (Go.Lib.countB s ⟨#[ch]⟩ + 1) (Go.Lib.countB s ⟨#[ch]⟩ + 1)) /\ w' = w.alloc (.cells ((Go.Lib.splitB ⟨#[ch]⟩ 0 (Go.Lib.countB s ⟨#[ch]⟩) s).map Value.string).toArray (ρ.t 9)) := by
 have h1 : 1 <= (⟨#[ch]⟩ : ByteArray).size := Nat.le_refl 1
 have hle := Go.Lib.countB_le ⟨#[ch]⟩ h1 s.size s (Nat.le_refl _)
 have Z4X := Go.Lib.splitB_all ⟨#[ch]⟩ h1 0 _ s rfl
 have hC : Calls P (ρ.f 138) #[.string s, .string ⟨#[ch]⟩] w fun e w' => e = .returned (.int .i64 (Go.Lib.countB s ⟨#[ch]⟩)) /\ w' = w :=
  (Any.strings_Count_one { L with } s ch w).mono fun e w' ⟨he, hw⟩ => ⟨by rw [he]; show _ = Ending.returned (Value.int .i64 ((Go.Lib.count s.data.toList [ch] : Nat) : Int)); rw [Go.Lib.count_one]; rfl, hw⟩
 have hI : ∀ (x : ByteArray) (c : Array Value), x.size <= s.size -> Calls P (ρ.f 143) #[.string x, .string ⟨#[ch]⟩] (w.alloc (.cells c (ρ.t 9))) fun e w' => e = .returned (.int .i64 (Go.Lib.indexB x ⟨#[ch]⟩)) /\ w' = w.alloc (.cells c (ρ.t 9)) := fun x c _ =>
  (Any.strings_Index_one { L with } x ch _).mono fun e w' ⟨he, hw⟩ => ⟨by rw [he]; show _ = Ending.returned (Value.int .i64 (Go.Lib.index x.data.toList [ch])); rw [Go.Lib.index_one], hw⟩
 have c := Any.strings_genSplit_core { L with } hi9 s ⟨#[ch]⟩ 0 (-1) (Go.Lib.countB s ⟨#[ch]⟩ + 1) w hs h1 (Nat.zero_le _) hI hC (by decide) (by decide) (by rw [if_pos (by decide)]; omega)
 rw [Nat.add_sub_cancel, Z4X] at c
 have e2 : Go.Lib.cellsOf (Go.Lib.splitB ⟨#[ch]⟩ 0 (Go.Lib.countB s ⟨#[ch]⟩) s) (Go.Lib.countB s ⟨#[ch]⟩ + 1) = ((Go.Lib.splitB ⟨#[ch]⟩ 0 (Go.Lib.countB s ⟨#[ch]⟩) s).map Value.string).toArray := by rw [<- Z4X]; exact Go.Lib.cellsOf_full _
 rw [e2] at c
 have t3 := L.t3; have t9 := L.t9; have t31 := L.t31
 have a3 := L.a3; have a9 := L.a9; have a31 := L.a31
 have z3 := L.z3; have v3 := L.v3; have z9 := L.z9; have v9 := L.v9; have z31 := L.z31; have v31 := L.v31
 have e221 : ∀ args w, (callFunc (ρ.f 221) args).run P w = .ok (.enter (ρ.f 221) args) w := enters_of L.f221 (by kernel_rfl) rfl
 go_enter L.f146, Body.n146_ntmps ρ
 go_wp2_with (go_at_fn (ρ.f 221); refine c.mono ?_; rintro e w' ⟨rfl, hw⟩; rw [hw])
 go_ret
 exact ⟨rfl, rfl⟩
theorem ZwK (s : ByteArray) (ch : UInt8) (w : World) (hs : s.size < 4294967281) :
  Calls prog 31 #[.string s, .string ⟨#[ch]⟩] w fun e w' =>
   e = .returned (.slice (some ⟨w.heap.size, 0, none⟩) (spL ch (toL s)).length (spL ch (toL s)).length) /\ w' = w.alloc (.cells (((spL ch (toL s)).map bs).map Value.string).toArray 9) := by
 have h := ZD7 ZMP (by kernel_rfl) s ch w hs
 have Z4X := Go.Lib.splitB_all ⟨#[ch]⟩ (Nat.le_refl 1) 0 _ s rfl
 rw [ZBQ, List.length_map] at Z4X
 rw [ZBQ, <- Z4X] at h
 exact h
theorem ZNO : ∀ u : Nat, Go.Lib.decDigits u = decL u := by
 intro u
 induction u using Nat.strongRecOn with
 | _ u ih =>
  unfold Go.Lib.decDigits
  by_cases h : u < 10
  ·rw [dif_pos h, Zdl h]
  ·rw [dif_neg h, ZmF h, ih (u / 10) (by omega)]
theorem Zv2 (sep : List UInt8) : ∀ L : List (List UInt8), Go.Lib.join L sep = jn sep L
 | [] => rfl
 | [x] => Go.Lib.join_one x sep
 | x :: y :: r => by
  have ih := Zv2 sep (y :: r)
  rw [Go.Lib.join_cons] at ih
  rw [Go.Lib.join_cons]
  show x ++ Go.Lib.joinTail sep (y :: r) = x ++ sep ++ jn sep (y :: r)
  rw [<- ih]
  simp [Go.Lib.joinTail]
def Zfq : RunP
 | [.v (.int .i64 n), .v (.int .i64 base)] => some (ZnV n base, Z9l (Z7S n base))
 | _ => none
theorem Ztc : Sound prog 140 Zfq := by
 intro W pvs avs rs hg hargs hrun
 unfold Zfq at hrun
 split at hrun
 ·simp only [Option.some.injEq, Prod.mk.injEq] at hrun
  obtain ⟨hp, rfl⟩ := hrun
  rename_i n base
  match avs, hargs with
  | [a, b], ⟨h1, h2, _⟩ =>
   obtain rfl : a = .int .i64 n := h1
   obtain rfl : b = .int .i64 base := h2
   unfold ZnV num1 at hp
   simp only [Bool.and_eq_true, decide_eq_true_eq, beq_iff_eq] at hp
   obtain ⟨⟨h3, h4⟩, rfl⟩ := hp
   have c := Zf9 n.toNat (by omega) W
   rw [Int.toNat_of_nonneg h3] at c
   refine c.mono fun e W' ⟨he, hw⟩ => ⟨_, he, ?_, by rw [hw]; exact World.grownBy.refl W none⟩
   show Value.string ⟨(Go.Lib.decDigits n.toNat).toArray⟩ = Value.string (Z01 n)
   rw [ZNO]
   rfl
 ·cases hrun
theorem ZHZ {w w' : World} (h : Go.RowKit.Below w.heap.size w w') (row : Option Nat) : w.grownBy w' row := ⟨h.os, h.tape, h.output, h.size, fun k hk _ => h.block k hk⟩
def ZqA : RunP
 | [.s n (.strs l), .v (.string sep)] => some (ZGT n l sep, Z9l (ZOS n l sep))
 | _ => none
theorem ZHf : Sound prog 165 ZqA := by
 intro W pvs avs rs hg hargs hrun
 unfold ZqA at hrun
 split at hrun
 ·simp only [Option.some.injEq, Prod.mk.injEq] at hrun
  obtain ⟨hp, rfl⟩ := hrun
  rename_i n l sep
  match avs, hargs with
  | [a, b], ⟨h1, h2, _⟩ =>
   obtain rfl : b = .string sep := h2
   have hp' := hp
   unfold ZGT txB lenT at hp'
   simp only [Bool.and_eq_true] at hp'
   obtain ⟨⟨g1, g2, g3⟩, g4⟩ := hp'
   have hl : l.length = n := Nat.eq_of_beq_eq_true g1
   have hn : n <= 100000 := Nat.le_of_ble_eq_true g3
   have hs : sep.size <= 10 := Nat.le_of_ble_eq_true g4
   obtain ⟨_, hv⟩ := (show Z3i W none a n (.strs l) from h1)
   rcases hv with ⟨rfl, rfl, _⟩ | ⟨g, o, cap, rfl, hc, ⟨_, hb⟩, hcell⟩
   ·obtain rfl := List.length_eq_zero_iff.1 hl
    exact (Zog none 0 sep W).mono fun e W' ⟨he, hw⟩ => ⟨_, he, rfl, by rw [hw]; exact World.grownBy.refl W none⟩
   ·subst hl
    have hb2 : (Go.Lib.join (l.map (·.data.toList)) sep.data.toList).length <= 140737488355328 := by
     rw [Zv2]
     have key := ZGS (sep := sep.data.toList) (M := 200) (by exact hs) (l.map (·.data.toList)) (fun x hx => by
      obtain ⟨y, hy, rfl⟩ := List.mem_map.1 hx
      exact Nat.le_of_ble_eq_true (List.all_eq_true.1 g2 y hy))
     rw [List.length_map] at key
     omega
    refine (ZBe g o cap l sep W (fun j x hx => hcell j (.string x) ?_) hb (by omega) hc hb2).mono fun e W' ⟨he, hw⟩ => ⟨_, he, ?_, ZHZ hw none⟩
    ·show (l.map Value.string)[j]? = some (.string x)
     rw [List.getElem?_map, hx]
     rfl
    ·show Value.string ⟨(Go.Lib.join (l.map (·.data.toList)) sep.data.toList).toArray⟩ = Value.string (bs (jn (toL sep) (l.map toL)))
     rw [Zv2]
     rfl
 ·cases hrun
def Znf : RunP
 | [.v (.string s), .v (.string sep)] => some (ZnY s sep, ZAp (Z0l s sep))
 | _ => none
theorem ZDU : Sound prog 31 Znf := by
 intro W pvs avs rs hg hargs hrun
 unfold Znf at hrun
 split at hrun
 ·simp only [Option.some.injEq, Prod.mk.injEq] at hrun
  obtain ⟨hp, rfl⟩ := hrun
  rename_i s sep
  match avs, hargs with
  | [a, b], ⟨h1, h2, _⟩ =>
   obtain rfl : a = .string s := h1
   obtain rfl : b = .string sep := h2
   unfold ZnY at hp
   simp only [Bool.and_eq_true] at hp
   have hs := Nat.le_of_ble_eq_true hp.1
   obtain ⟨c, rfl⟩ := Go.Lib.one_byte sep (Nat.eq_of_beq_eq_true hp.2)
   refine (ZwK s c W (by omega)).mono fun e W' ⟨he, hw⟩ => ⟨_, he, ?_, by rw [hw]; exact World.grownBy_alloc W _ none⟩
   have Z4X := ZnX c (toL s)
   have hz : (toL s).length <= 4294967280 := by rw [<- ZX]; exact hs
   refine ⟨True.intro, ?_, .inr ⟨W.heap.size, (spL c (toL s)).length, (((spL c (toL s)).map bs).map Value.string).toArray, rfl, Nat.le_refl _, ?_, Nat.le_refl _, ?_, ?_, ?_⟩⟩
   ·show (((spL c (toL s)).map bs).map Value.string).length = _
    simp [Z0l, sepB]
   ·rw [hw]
    exact Deep.blk_alloc_new W _
   ·unfold maxLen
    omega
   ·simp
   ·show (((spL c (toL s)).map bs).map Value.string).take ((spL c (toL s)).length * 1) = ((spL c (toL s)).map bs).map Value.string
    rw [List.take_of_length_le (by simp)]
 ·cases hrun
end
theorem ZQm (text : ByteArray) (w : World) (h : 4000 < text.size) : Calls prog 44 #[.string text] w fun e w' => e = .returned (.tuple #[.slice none 0 0, .bool false]) /\ w' = w := by
 go_enter func44, ntmps44
 go_wp2
 all_goals go_returns
 exact ⟨rfl, rfl⟩
theorem ZPb (text : ByteArray) (w : World) (h : ¬ 4000 < text.size) (L : List (List UInt8)) (hL : spL 10 (toL text) = L) (q : List UInt8) (hq : L[L.length - 1]? = some q) (hn : 1 <= L.length) (hb : L.length <= 5000) : Calls prog 44 #[.string text] w fun e w' => e = .returned (.tuple #[.slice (some ⟨w.heap.size, 0, none⟩) (if q = [] then L.length - 1 else L.length) L.length, .bool (Nat.ble (if q = [] then L.length - 1 else L.length) 40)]) /\ w' = w.alloc (.cells ((L.map bs).map Value.string).toArray 9) := by
 have c := ZwK text 10 w (by omega)
 rw [hL] at c
 have hcell : (w.alloc (.cells ((L.map bs).map Value.string).toArray 9)).cell? ⟨w.heap.size, 0 + (L.length - 1), none⟩ = some (.string (bs q)) := by
  unfold World.cell?
  rw [Deep.blk_alloc_new]
  simp [hq]
 have hbl : ∀ k : Nat, decide ((k : Int) <= 40) = Nat.ble k 40 := fun k => by
  by_cases hk : k <= 40
  ·rw [Nat.ble_eq_true_of_le hk]
   simp
   omega
  ·have : Nat.ble k 40 = false := Bool.eq_false_iff.2 fun e => hk (Nat.le_of_ble_eq_true e)
   rw [this]
   simp
   omega
 go_enter func44, ntmps44
 go_wp2_with fail
 refine c.mono ?_
 rintro e w' ⟨rfl, hw⟩
 subst hw
 dsimp only
 go_wp2
 all_goals go_returns
 all_goals first
  | (exfalso; simp_all; done)
  | exact ⟨by rw [<- hbl]; rfl, by first | rfl | simp⟩
theorem ZPa (L : List (List UInt8)) : lnsN L <= L.length := by
 unfold lnsN
 split <;> omega
def ZiG : RunP
 | [.v (.string text)] => some (ZGY text, ZK3 (Z0Q text))
 | _ => none
theorem Zym : Sound prog 44 ZiG := by
 intro W pvs avs rs hg hargs hrun
 unfold ZiG at hrun
 split at hrun
 ·simp only [Option.some.injEq, Prod.mk.injEq] at hrun
  obtain ⟨hp, rfl⟩ := hrun
  rename_i text
  match avs, hargs with
  | [a], ⟨h1, _⟩ =>
   obtain rfl : a = .string text := h1
   by_cases h : 4000 < text.size
   ·refine (ZQm text W h).mono fun e W' ⟨he, hw⟩ => ⟨_, he, ?_, by rw [hw]; exact World.grownBy.refl W none⟩
    unfold Z0Q
    rw [if_pos h]
    exact ⟨[.slice none 0 0, .bool false], rfl, ⟨⟨True.intro, rfl, .inl ⟨rfl, rfl⟩⟩, rfl, True.intro⟩, by simp [TApart, SOff, Z2Q]⟩
   ·have hne := ZvI 10 (toL text)
    have Z4X := ZnX 10 (toL text)
    rw [<- ZX] at Z4X
    have hpos : 1 <= (spL 10 (toL text)).length := by
     cases hL : spL 10 (toL text) with
     | nil => exact absurd hL hne
     | cons x r => simp
    have hq : (spL 10 (toL text))[(spL 10 (toL text)).length - 1]? = some ((spL 10 (toL text)).getD ((spL 10 (toL text)).length - 1) []) := by
     rw [List.getD_eq_getElem?_getD, List.getElem?_eq_getElem (by omega)]
     rfl
    have c := ZPb text W h (spL 10 (toL text)) rfl _ hq hpos (by omega)
    refine c.mono fun e W' ⟨he, hw⟩ => ⟨_, he, ?_, by rw [hw]; exact World.grownBy_alloc W _ none⟩
    unfold Z0Q
    rw [if_neg h]
    have hle := ZPa (spL 10 (toL text))
    refine ⟨[.slice (some ⟨W.heap.size, 0, none⟩) (lnsN (spL 10 (toL text))) (spL 10 (toL text)).length, .bool (Nat.ble (lnsN (spL 10 (toL text))) 40)], rfl, ⟨⟨True.intro, ?_, .inr ⟨W.heap.size, (spL 10 (toL text)).length, (((spL 10 (toL text)).map bs).map Value.string).toArray, rfl, Nat.le_refl _, ?_, hle, ?_, ?_, ?_⟩⟩, rfl, True.intro⟩, by simp [TApart, SOff, Z2Q]⟩
    ·show ((((spL 10 (toL text)).take (lnsN (spL 10 (toL text)))).map bs).map Value.string).length = _
     simp
     omega
    ·rw [hw]
     exact Deep.blk_alloc_new W _
    ·unfold maxLen
     omega
    ·simp
    ·show (((spL 10 (toL text)).map bs).map Value.string).take (lnsN (spL 10 (toL text)) * 1) = (((spL 10 (toL text)).take (lnsN (spL 10 (toL text)))).map bs).map Value.string
     rw [Nat.mul_one, List.map_take, List.map_take]
 ·cases hrun

end Go.Proofs.YtcdpfpfbilfpoaaGreatDoor
