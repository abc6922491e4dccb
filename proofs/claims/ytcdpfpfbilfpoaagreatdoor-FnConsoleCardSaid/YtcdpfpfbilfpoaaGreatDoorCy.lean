import Derived.WalkKit
import Derived.WalkSpells
import Derived.WalkLawsBesides
import Derived.Orders
import Derived.Maps.AppendAt
import Derived.Deep.OwnRows
import Derived.Laws.OwnMore
import Derived.LoopN
import Derived.Laws.BytesString
import Derived.Laws.Strings
set_option linter.unusedSimpArgs false
set_option linter.unusedVariables false
namespace Go.Proofs.YtcdpfpfbilfpoaaGreatDoor
open Go.RowKit
def gvars : List (List Value) := []
inductive Cells
 | ints (l : List Int)
 | byts (l : List Int)
 | strs (l : List ByteArray)
 | vals (l : List Value)
def Cells.len : Cells -> Nat
 | .ints l => l.length
 | .byts l => l.length
 | .strs l => l.length
 | .vals l => l.length
def Cells.get : Cells -> Nat -> Value
 | .ints l, i => .int .i64 (l.getD i 0)
 | .byts l, i => .int .u8 (l.getD i 0)
 | .strs l, i => .string (l.getD i ByteArray.empty)
 | .vals l, i => l.getD i undef
def Cells.toVals : Cells -> List Value
 | .ints l => l.map (Value.int .i64)
 | .byts l => l.map (Value.int .u8)
 | .strs l => l.map Value.string
 | .vals l => l
def Z2k : List Value -> Option (List Int)
 | [] => some []
 | .int .i64 n :: l => match Z2k l with | some m => some (n :: m) | none => none
 | _ => none
def Z4c : List Value -> Option (List Int)
 | [] => some []
 | .int .u8 n :: l => match Z4c l with | some m => some (n :: m) | none => none
 | _ => none
def Z4i : List Value -> Option (List ByteArray)
 | [] => some []
 | .string n :: l => match Z4i l with | some m => some (n :: m) | none => none
 | _ => none
def cellsOf (l : List Value) : Cells := match Z2k l with | some m => .ints m | none => match Z4c l with | some m => .byts m | none => match Z4i l with | some m => .strs m | none => .vals l
def Cells.okB : Cells -> Bool
 | .ints _ => true
 | .byts _ => true
 | .strs _ => true
 | .vals l => l.all (·.oneCell')
def Cells.put : Cells -> Nat -> Value -> Option Cells
 | .ints l, i, .int .i64 n => some (.ints (l.set i n))
 | .byts l, i, .int .u8 n => some (.byts (l.set i n))
 | .strs l, i, .string n => some (.strs (l.set i n))
 | .vals l, i, .string s => some (.vals (l.set i (.string s)))
 | .vals l, i, .bool b => some (.vals (l.set i (.bool b)))
 | _, _, _ => none
def Cells.puts : Cells -> Nat -> List Value -> Option Cells
 | c, _, [] => some c
 | c, i, v :: l => match c.put i v with | some c' => c'.puts (i + 1) l | none => none
def Cells.app : Cells -> Cells -> Option Cells
 | .ints a, .ints b => some (.ints (a ++ b))
 | .byts a, .byts b => some (.byts (a ++ b))
 | .ints [], .byts b => some (.byts b)
 | .byts a, .ints [] => some (.byts a)
 | .strs a, .strs b => some (.strs (a ++ b))
 | .ints [], .strs b => some (.strs b)
 | .strs a, .ints [] => some (.strs a)
 | .vals a, .vals b => some (.vals (a ++ b))
 | .ints [], .vals b => some (.vals b)
 | .vals a, .ints [] => some (.vals a)
 | _, _ => none
def Cells.cut (c : Cells) (lo n : Nat) : Cells := match c with
 | .ints l => .ints ((l.drop lo).take n)
 | .byts l => .byts ((l.drop lo).take n)
 | .strs l => .strs ((l.drop lo).take n)
 | .vals l => .vals ((l.drop lo).take n)
inductive TI
 | v (x : Value)
 | r (id : Nat)
inductive SV
 | val (x : Value)
 | ptr (id off : Nat)
 | row (id : Nat)
 | sub (id off n sz : Nat)
 | clo (f : Nat) (caps : List Nat)
 | fn (g : List Value -> Option (Bool × Value))
 | tup (l : List TI)
 | agr (l : List TI)
 | junk
inductive Blk
 | box (elem : TypeId) (cells : List SV)
 | row (elem : TypeId) (sz n : Nat) (c : Cells)
 | ros (n : Nat) (c : Cells)
 | rop (cells : List SV)
structure FSt where
 slot : Nat -> SV
 heap : Nat -> Option Blk
inductive PV
 | v (x : Value)
 | s (n : Nat) (c : Cells)
 | f (g : List Value -> Option (Bool × Value))
 | p (c : List Value)
 | ps (n : Nat) (c : Cells)
 | pf (g : List Value -> Option (Bool × Value))
inductive TR
 | v (x : Value)
 | s (elem : TypeId) (sz n : Nat) (c : Cells)
inductive Ex
 | normal
 | exit (id : Nat)
 | ret
abbrev MRun := TypeId -> Nat -> Nat -> Cells -> List Value -> Option (Bool × Value × Cells)
inductive BC
 | v (x : Value)
 | s (n : Nat) (c : Cells)
abbrev PRun := TypeId -> List BC -> List PV -> Option (Bool × List Value × List BC)
abbrev BRun := List PV -> Option (Bool × TypeId × List Value)
inductive MFn
 | row (run : MRun)
 | box (run : PRun)
 | src (run : BRun)
 | cap (run : PRun)
structure Sums where
 f : Nat -> Option (List PV -> Option (Bool × List TR))
 m : Nat -> Option MFn
 k : Bool
def Zt {α : Type} (P : Program) : Sem α -> Option α
 | .pure a => some a
 | .program k => Zt P (k P)
 | _ => none
def FSt.ev (s : FSt) : Operand -> SV
 | .tmp t => s.slot t
 | .const v => .val v
 | .global _ => .junk
 | .func f => .clo f []
def SV.vals : List SV -> Option (List Value)
 | [] => some []
 | .val x :: l => match SV.vals l with | some m => some (x :: m) | none => none
 | _ => none
def SV.isVal : SV -> Bool
 | .val _ => true
 | _ => false
def FSt.evV (s : FSt) (x : Operand) : Value := match s.ev x with | .val v => v | _ => undef
structure Out where
 chk : Bool
 v : SV
 news : List (Nat × Blk)
 upd : Option (Nat × Blk)
 drop : Option Nat
def Out.pure (chk : Bool) (v : SV) : Out := ⟨chk, v, [], none, none⟩
def nilS : Value := .slice none 0 0
def Zn4 (P : Program) (s : FSt) (o : Oper) : Option Out :=
 if (o.op.operands.toList.all fun x => (s.ev x).isVal) = true then
  match Zt P (execOp s.evV o) with
  | some (.value v) => some (.pure true (.val v))
  | _ => none
 else none
def eqL : List Int -> List Int -> Bool
 | [], [] => true
 | [a], [b] => a == b
 | a :: l, b :: m => a == b && eqL l m
 | _, _ => false
def ZGb (l m : List Value) : Option Bool := match Z2k l, Z2k m with
 | some a, some b => some (eqL a b)
 | _, _ => none
def Zv1 (P : Program) (t : TypeId) : Option Nat := match P.underlying t with
 | some (.array n e) => match P.underlying e, Zt P (sizeOf e) with
  | some (.int _), some 1 => some n
  | _, _ => none
 | _ => none
def szB (P : Program) (t : TypeId) (k : Nat) : Bool := match Zt P (sizeOf t) with
 | some k' => Nat.beq k k'
 | none => false
def ZAV (g : TypeId -> Option Nat) : List Field -> Nat -> Option Nat
 | [], o => some o
 | f :: l, o => if (Nat.beq f.offset o && (f.name != "_")) = true then (match g f.type with
  | some k => ZAV g l (o + k)
  | none => none) else none
def Zsf (P : Program) : Nat -> TypeId -> Option Nat
 | 0, _ => none
 | d + 1, t => match P.underlying t with
  | some (.int _) => if szB P t 1 = true then some 1 else none
  | some (.array n e) => match Zsf P d e with
   | some k => if (szB P t (n * k) && szB P e k) = true then some (n * k) else none
   | none => none
  | some (.struct fs) => if P.stoodInHeld t = false then (match ZAV (Zsf P d) fs.toList 0 with
   | some k => if szB P t k = true then some k else none
   | none => none) else none
  | _ => none
def ZK2 (P : Program) (e : TypeId) : Cells := match Zt P (zeroValue e) with
 | some (.string _) => .strs []
 | _ => .ints []
def ZAa (P : Program) (e : TypeId) (l : List Value) : Cells := match l with
 | [] => ZK2 P e
 | l => cellsOf l
def ZJ9 (P : Program) (s : FSt) (o : Oper) (op : BinOp) (t : TypeId) (x y : Operand) : Option Out :=
 match op, s.ev x, s.ev y with
 | .add, .val (.string a), .val (.string b) => some (.pure (Nat.ble (a.size + b.size) 9223372036854775807) (.val (.string (a ++ b))))
 | .quo, .val (.int k a), .val (.int k' b) => if (k = k') then some (.pure (!(b == 0)) (.val (.int k (k.wrap (a.tdiv b))))) else none
 | .rem, .val (.int k a), .val (.int k' b) => if (k = k') then some (.pure (!(b == 0)) (.val (.int k (a.tmod b)))) else none
 | .eql, .val (.agg a), .val (.agg b) => match Zv1 P t, ZGb a.toList b.toList with
  | some n, some r => if (Nat.beq a.size n && Nat.beq b.size n) = true then some (.pure true (.val (.bool r))) else none
  | none, some r => match Zsf P 4 t, Zt P (isAgg t) with
   | some k, some true => if (Nat.beq a.size k && Nat.beq b.size k && !(P.eqGuardType P.depth t)) = true then some (.pure true (.val (.bool r))) else none
   | _, _ => none
  | _, _ => none
 | .neq, .val (.agg a), .val (.agg b) => match Zv1 P t, ZGb a.toList b.toList with
  | some n, some r => if (Nat.beq a.size n && Nat.beq b.size n) = true then some (.pure true (.val (.bool (!r)))) else none
  | none, some r => match Zsf P 4 t, Zt P (isAgg t) with
   | some k, some true => if (Nat.beq a.size k && Nat.beq b.size k && !(P.eqGuardType P.depth t)) = true then some (.pure true (.val (.bool (!r)))) else none
   | _, _ => none
  | _, _ => none
 | _, _, _ => Zn4 P s o
def ld (H : Nat -> Option Blk) (agg : Bool) (size id off : Nat) : Option Out :=
 match H id with
 | some (.box _ cells) | some (.rop cells) =>
  if agg = true then
   match SV.vals ((cells.drop off).take size) with
   | some l => if Nat.beq l.length size = true then some (.pure true (.val (.agg l.toArray))) else none
   | none => none
  else match cells[off]? with
   | some v => some (.pure true v)
   | none => none
 | some (.row _ _ _ c) | some (.ros _ c) =>
  if agg = true then some (.pure (Nat.ble (off + size) c.len) (.val (.agg ((List.range size).map fun j => c.get (off + j)).toArray)))
  else some (.pure (Nat.ble (off + 1) c.len) (.val (c.get off)))
 | none => none
def upd1 (y c : SV) (b : Bool) : SV := match y, c with
 | .val (.int k v), .val (.int k' x) => if k = k' then .val (.int k (bif b then v else x)) else bif b then y else c
 | _, _ => bif b then y else c
def set1 (y : SV) (off : Nat) : List SV -> Nat -> List SV
 | [], _ => []
 | c :: l, j => upd1 y c (Nat.beq off j) :: set1 y off l (j + 1)
def ZHd : List SV -> Nat -> List SV -> List SV
 | l, _, [] => l
 | l, i, v :: vs => ZHd (set1 v i l 0) (i + 1) vs
def tiSV : TI -> SV
 | .v x => .val x
 | .r id => .row id
def SV.parts (x : SV) : List SV := match x with
 | .val v => v.cells.toList.map .val
 | .agr l => l.map tiSV
 | x => [x]
def SV.keeps : SV -> Bool
 | .val (.agg _) => false
 | .val (.tuple _) => false
 | .val _ => true
 | .tup _ => false
 | .agr _ => false
 | .junk => false
 | _ => true
def st (H : Nat -> Option Blk) (size id off : Nat) (x : SV) : Option Out :=
 if (Nat.beq x.parts.length size && x.parts.all SV.keeps) = true then
  match H id with
  | some (.box e cells) =>
   some ⟨Nat.ble (off + size) cells.length, .val undef, [], some (id, .box e (ZHd cells off x.parts)), none⟩
  | some (.row e sz n c) =>
   match x with
   | .val v => match c.puts off v.cells.toList with
    | some c' => some ⟨Nat.ble (off + size) c.len, .val undef, [], some (id, .row e sz n c'), none⟩
    | none => none
   | _ => none
  | _ => none
 else none
def ZyZ (t : TypeId) (len : Nat) (parts : Array (Nat × Value)) : Sem (TypeId × Nat × Array Value) := do
 let .slice elem <- underlying t | stuck "buildSlice: slice type expected"
 let size <- sizeOf elem
 if len * size > 2 ^ 24 then unsupported (.resourceLimit "buildSlice: more than 2^24 cells")
 let zero <- if len * size = 0 then pure #[] else do pure (<- zeroValue elem).cells
 let some cells := Instr.fill (fun i => some (i * size, size)) ((Array.range (len * size)).map (zero[· % zero.size]!)) parts.toList
  | stuck "buildSlice: a part of the wrong size"
 pure (elem, size, cells)
def PVof (H : Nat -> Option Blk) (S : Nat -> List Nat -> Option (List Value -> Option (Bool × Value))) : SV -> Option PV
 | .val (.slice none 0 0) => some (.s 0 (.ints []))
 | .val x => some (.v x)
 | .row id => match H id with
  | some (.row _ _ n c) => some (.s n c)
  | some (.ros n c) => some (.s n c)
  | _ => none
 | .sub id off n sz => match H id with
  | some (.row _ _ _ c) => some (.s n (c.cut off (n * sz)))
  | some (.ros _ c) => some (.s n (c.cut off (n * sz)))
  | some (.box _ cells) => match SV.vals ((cells.drop off).take (n * sz)) with
   | some l => if (Nat.beq l.length (n * sz) && (cellsOf l).okB) = true then some (.s n (cellsOf l)) else none
   | none => none
  | _ => none
 | .clo f caps => match S f caps with
  | some g => some (.f g)
  | none => none
 | .fn g => some (.f g)
 | _ => none
def Zpc (H : Nat -> Option Blk) (id : Nat) : Option PV := match H id with
 | some (.box _ [.row i]) => match H i with
  | some (.row _ _ n c) => some (.ps n c)
  | some (.ros n c) => some (.ps n c)
  | _ => none
 | some (.rop [.row i]) => match H i with
  | some (.row _ _ n c) => some (.ps n c)
  | some (.ros n c) => some (.ps n c)
  | _ => none
 | some (.box _ [.fn g]) => some (.pf g)
 | some (.rop [.fn g]) => some (.pf g)
 | some (.box _ cells) => match SV.vals cells with | some l => some (.p l) | none => none
 | some (.rop cells) => match SV.vals cells with | some l => some (.p l) | none => none
 | _ => none
def Z2m {α β : Type} (f : α -> Option β) : List α -> Option (List β)
 | [] => some []
 | a :: l => match f a with
  | some b => match Z2m f l with | some m => some (b :: m) | none => none
  | none => none
def ZhF (S : Sums) (H : Nat -> Option Blk) (f : Nat) (caps : List Nat) : Option (List Value -> Option (Bool × Value)) :=
 match S.f f, Z2m (Zpc H) caps with
 | some run, some cs => some fun args => match run (args.map PV.v ++ cs) with
  | some (c, [.v r]) => some (c, r)
  | _ => none
 | _, _ => none
def Z77 : Nat -> List TR -> List (Nat × Blk) × List TI
 | _, [] => ([], [])
 | i, .v x :: l => let r := Z77 (i + 1) l; (r.1, .v x :: r.2)
 | i, .s e sz n c :: l => let r := Z77 (i + 1) l; ((i, .row e sz n c) :: r.1, .r i :: r.2)
def maxI (x y : Int) : Int := if y > x then y else x
def minI (x y : Int) : Int := if y < x then y else x
def isV : TR -> Bool
 | .v _ => true
 | _ => false
def Zza (d : Nat) (c : Bool) (rs : List TR) : Option Out :=
 if (Nat.ble rs.length 4 || rs.all isV) = true then
  match (Z77 (4 * d) rs).2 with
  | [.r i] => some ⟨c, .row i, (Z77 (4 * d) rs).1, none, none⟩
  | l => some ⟨c, .tup l, (Z77 (4 * d) rs).1, none, none⟩
 else none
def Zq8 : List TR -> Option Value
 | [.v x] => some x
 | _ => none
def Zll (d : Option Nat) (c : Bool) (rs : List TR) : Option Out :=
 match d with
 | none => match rs with
  | [.v _] => some (.pure c .junk)
  | [] => some (.pure c .junk)
  | _ => none
 | some d => match Zq8 rs with
  | some x => some (.pure c (.val x))
  | none => Zza d c rs
def ZLN (z : Value) (k : Nat) : Cells := match z with
 | .int .i64 a => .ints (List.replicate k a)
 | .int .u8 a => .byts (List.replicate k a)
 | .string a => .strs (List.replicate k a)
 | z => .vals (List.replicate k z)
def ZLO (z : Value) (sz k : Nat) : Option Cells := match sz with
 | 1 => if z.oneCell' = true then some (ZLN z k) else none
 | sz => match Z2k z.cells.toList with
  | some zs => if (zs.all (fun x => x == 0) && Nat.beq zs.length sz) = true then some (.ints (List.replicate (k * sz) 0)) else none
  | none => none
def ZOT (i : TypeInfo) : Bool := match i.zero with
 | some z => Nat.beq z.cells.size i.size
 | none => false
def Z9Q (P : Program) (s : FSt) (d : Nat) (t : TypeId) (a x : SV) : Option Out :=
 match P.underlying t with
 | some (.slice e) =>
  match Zt P (typeInfo e) with
  | some i =>
   if (Nat.ble 1 i.size && Nat.ble i.bytes 1000 && ZOT i) = true then
    match PVof s.heap (fun _ _ => none) x with
    | some (.s m c2) =>
     match a with
     | .val (.slice none 0 0) => some ⟨Nat.ble 0 m && Nat.ble m 2000000 && Nat.beq c2.len (m * i.size), .row (4 * d), [(4 * d, .row e i.size m c2)], none, none⟩
     | .row id => match s.heap id with
      | some (.row e' sz n c1) => if (Nat.beq e e' && Nat.beq sz i.size && Nat.ble 2 id) = true then
        match c1.app c2 with
        | some c => some ⟨Nat.ble 0 m && Nat.ble (n + m) 2000000 && Nat.beq c2.len (m * i.size), .row (4 * d), [(4 * d, .row e sz (n + m) c)], none, some id⟩
        | none => none
       else none
      | _ => none
     | _ => none
    | _ => none
   else none
  | none => none
 | _ => none
def ZgQ (S : Sums) : Operand -> Option MFn
 | .func g => S.m g
 | .tmp _ => bif S.k then some (.cap fun _ _ _ => none) else none
 | _ => none
def bcOf (H : Nat -> Option Blk) : SV -> Option BC
 | .val x => some (.v x)
 | .row id => match H id with
  | some (.ros n c) => some (.s n c)
  | _ => none
 | _ => none
def pvB (H : Nat -> Option Blk) : SV -> Option PV
 | .val x => some (.v x)
 | .row id => match H id with
  | some (.ros n c) => some (.s n c)
  | some (.row _ _ n c) => some (.s n c)
  | _ => none
 | _ => none
def Zpj : List BC -> List BC -> Bool
 | [], [] => true
 | .v _ :: l, .v _ :: m => Zpj l m
 | .s _ _ :: l, .s _ _ :: m => Zpj l m
 | _, _ => false
def Zjh : List SV -> List BC -> List SV
 | _ :: l, .v x :: m => .val x :: Zjh l m
 | x :: l, .s _ _ :: m => x :: Zjh l m
 | _, _ => []
def retV : List Value -> SV
 | [x] => .val x
 | l => .tup (l.map TI.v)
def Zdh (s : FSt) (run : PRun) : List SV -> Option Out
 | .ptr id 0 :: xs => match s.heap id with
  | some (.box e cells) => match Z2m (bcOf s.heap) cells, Z2m (pvB s.heap) xs with
   | some bcs, some pvs => match run e bcs pvs with
    | some (ok, rs, bcs') => if Zpj bcs bcs' = true then some ⟨ok, retV rs, [], some (id, .box e (Zjh cells bcs')), none⟩ else none
    | none => none
   | _, _ => none
  | _ => none
 | _ => none
def ZBR (s : FSt) (d : Option Nat) (run : BRun) : List SV -> Option Out
 | [.row id] => match s.heap id, d with
  | some (.ros n c), some d => match run [.s n c] with
   | some (ok, e, vals) => some ⟨ok, .ptr (4 * d) 0, [(4 * d, .box e (.row id :: vals.map SV.val))], none, none⟩
   | none => none
  | _, _ => none
 | _ => none
def ZBB (s : FSt) (run : MRun) : List SV -> Option Out
 | .row id :: xs => match s.heap id, SV.vals xs with
  | some (.row e sz n c), some vs => match run e sz n c vs with
   | some (ok, r, c') => some ⟨ok, .val r, [], some (id, .row e sz n c'), none⟩
   | none => none
  | _, _ => none
 | _ => none
def ZA9 (S : Sums) (s : FSt) : SV -> List SV -> Option Out
 | .clo g [ib], xs => match S.m g with
  | some (.cap run) => match s.heap ib with
   | some (.box _ [.ptr id 0]) => Zdh s run (.ptr id 0 :: xs)
   | _ => none
  | _ => none
 | _, _ => none
def ZOo (S : Sums) (s : FSt) (d : Option Nat) (fv : SV) : MFn -> List SV -> Option Out
 | .row run => ZBB s run
 | .box run => Zdh s run
 | .src run => ZBR s d run
 | .cap _ => ZA9 S s fv
def ZOq (places : Array (Nat × Nat)) (i : Nat) : Bool := match places[i]? with
 | some (o, _) => Nat.ble 1 o
 | none => false
def ZpJ (P : Program) (s : FSt) (t : TypeId) : List (Nat × Operand) -> Option Out
 | (i, x) :: rest => match s.ev x with
  | .row id =>
    if (rest.all fun q => (s.ev q.2).isVal) = true then
     match P.underlying t with
     | some (.struct fields) => match Zt P (fields.mapM fun f => do pure (f.offset, <- sizeOf f.type)), Zt P (zeroValue t) with
      | some places, some z => match places[i]? with
       | some (0, 1) => if (rest.all fun q => ZOq places q.1) = true then
         match Instr.fill (places[·]?) z.cells (rest.map fun q => (q.1, s.evV q.2)) with
         | some cells => if Nat.ble 1 z.cells.size = true then some (.pure true (.agr (.r id :: (cells.toList.drop 1).map TI.v))) else none
         | none => none
        else none
       | _ => none
      | _, _ => none
     | _ => none
    else none
  | _ => none
 | [] => none
def ZmP : Operand -> Option Nat
 | .global g => some g
 | _ => none
def gload (P : Program) (t : TypeId) (g : Nat) : Option Out := match gvars[g]?, Zt P (isAgg t), Zt P (sizeOf t) with
 | some vals, some true, some sz => if Nat.beq vals.length sz = true then some (.pure true (.val (.agg vals.toArray))) else none
 | some [v], some false, some _ => some (.pure true (.val v))
 | _, _, _ => none
def Zc8 (s : FSt) (d : Int) : Option Operand -> Option Int
 | none => some d
 | some x => match s.ev x with
  | .val (.int .i64 k) => some k
  | _ => none
def ZeB (P : Program) (s : FSt) (id : Nat) (lo hi : Option Operand) (e : TypeId) : Option Out :=
 match Zt P (sizeOf e), s.heap id with
 | some sz, some (.row _ _ n _) => match Zc8 s 0 lo, Zc8 s (n : Int) hi with
  | some l, some h => some (.pure (decide (0 <= l) && decide (l <= h) && decide (h <= (n : Int))) (.sub id (l.toNat * sz) (h.toNat - l.toNat) sz))
  | _, _ => none
 | some sz, some (.ros n _) => match Zc8 s 0 lo, Zc8 s (n : Int) hi with
  | some l, some h => some (.pure (decide (0 <= l) && decide (l <= h) && decide (h <= (n : Int))) (.sub id (l.toNat * sz) (h.toNat - l.toNat) sz))
  | _, _ => none
 | _, _ => none
def ZeC (s : FSt) (b : ByteArray) (lo hi : Option Operand) : Option Out :=
 match Zc8 s 0 lo, Zc8 s (b.size : Int) hi with
 | some l, some h => some (.pure (decide (0 <= l) && decide (l <= h) && decide (h <= (b.size : Int))) (.val (.string (b.extract l.toNat h.toNat))))
 | _, _ => none
def ZFl (l : List Int) : ByteArray := l.foldl (fun s n => s.push (UInt8.ofNat n.toNat)) ByteArray.empty
def ZJx (P : Program) (s : FSt) (t u : TypeId) (id : Nat) : Option Out := match P.underlying t, P.underlying u with
 | some (.slice e), some .string => match P.underlying e, s.heap id with
  | some (.int .u8), some (.row _ _ n (.byts l)) => some (.pure (Nat.beq l.length n) (.val (.string (ZFl l))))
  | _, _ => none
 | _, _ => none
def Z3j (P : Program) (S : Sums) (s : FSt) (o : Oper) : Option Out :=
 match o.op with
 | .move x | .assign x => some (.pure true (s.ev x))
 | .pick c a b => match s.ev c with
  | .val (.bool t) => match t with
   | true => some (.pure true (s.ev a))
   | false => some (.pure true (s.ev b))
  | _ => none
 | .alloc e => match o.dst, Zt P (zeroValue e) with
  | some d, some z => some ⟨true, .ptr (4 * d) 0, [(4 * d, .box e (z.cells.toList.map .val))], none, none⟩
  | _, _ => none
 | .box e x => match o.dst, s.ev x with
  | _, .junk => none
  | some d, _ => some ⟨true, .ptr (4 * d) 0, [(4 * d, .box e (s.ev x).parts)], none, none⟩
  | none, _ => none
 | .buildSlice t len parts => match o.dst with
  | some d => if (parts.toList.all fun x => (s.ev x.2).isVal) = true then
    match Zt P (ZyZ t len (parts.map fun (i, x) => (i, s.evV x))) with
    | some (e, sz, cells) => if (Nat.beq cells.size (len * sz) && Nat.ble len 2000000 && (ZAa P e cells.toList).okB) = true then some ⟨true, .row (4 * d), [(4 * d, .row e sz len (ZAa P e cells.toList))], none, none⟩ else none
    | none => none
   else none
  | none => none
 | .load t x => match ZmP x with
  | some g => gload P t g
  | none => match s.ev x, Zt P (isAgg t), Zt P (sizeOf t) with
   | .ptr id off, some a, some sz => ld s.heap a sz id off
   | _, _, _ => none
 | .store t x y => match o.dst with
  | some _ => none
  | none => match s.ev x, Zt P (sizeOf t) with
   | .ptr id off, some sz => st s.heap sz id off (s.ev y)
   | _, _ => none
 | .binOp op t x y _ => ZJ9 P s o op t x y
 | .unOp .. | .field .. => Zn4 P s o
 | .convert t u x => match s.ev x with
  | .row id => ZJx P s t u id
  | _ => Zn4 P s o
 | .build t ps => match ZpJ P s t ps.toList with
  | some r => some r
  | none => Zn4 P s o
 | .makeFunc (.func f) first captured =>
  if Nat.beq first.size 0 = true then
  match Z2m (fun x => match s.ev x with | .ptr id 0 => some id | _ => none) captured.toList with
  | some l => some (.pure true (.clo f l))
  | none => none
  else none
 | .makeSlice t x y => match o.dst, s.ev x, s.ev y, P.underlying t with
  | some d, .val (.int .i64 n), .val (.int .i64 m), some (.slice e) => match Zt P (sizeOf e), Zt P (zeroValue e), Zt P (typeInfo e) with
   | some sz, some z, some i => match ZLO z sz n.toNat with
    | some c => if Nat.ble i.bytes 1000 = true then some ⟨decide (0 <= n) && decide (n <= 2000000) && n == m, .row (4 * d), [(4 * d, .row e sz n.toNat c)], none, none⟩ else none
    | none => none
   | _, _, _ => none
  | _, _, _, _ => none
 | .fieldAddr t x f => match s.ev x, P.underlying t with
  | .ptr id off, some (.struct fs) => match fs[f]? with
   | some fd => match Zt P (sizeOf fd.type) with
    | some sz => if Nat.ble 1 sz = true then some (.pure true (.ptr id (off + fd.offset))) else none
    | none => none
   | none => none
  | _, _ => none
 | .indexAddr t x i => match s.ev x, s.ev i, P.underlying t with
  | .ptr id off, .val (.int _ n), some (.array len e) => match Zt P (sizeOf e) with
   | some sz => some (.pure (decide (0 <= n) && decide (n < (len : Int))) (.ptr id (off + n.toNat * sz)))
   | none => none
  | .row id, .val (.int _ n), some (.slice e) => match s.heap id, Zt P (sizeOf e) with
   | some (.row _ _ len _), some sz => some (.pure (decide (0 <= n) && decide (n < (len : Int))) (.ptr id (n.toNat * sz)))
   | some (.ros len _), some sz => some (.pure (decide (0 <= n) && decide (n < (len : Int))) (.ptr id (n.toNat * sz)))
   | _, _ => none
  | .sub id off len _, .val (.int _ n), some (.slice e) => match Zt P (sizeOf e) with
   | some sz => some (.pure (decide (0 <= n) && decide (n < (len : Int))) (.ptr id (off + n.toNat * sz)))
   | none => none
  | _, _, _ => none
 | .index t x i => match s.ev x, s.ev i, P.underlying t with
  | .val (.agg cs), .val (.int _ n), some (.array len e) => match Zt P (sizeOf e) with
   | some sz => match Zt P (part e cs (n.toNat * sz)) with
    | some v => some (.pure (decide (0 <= n) && decide (n < (len : Int))) (.val v))
    | none => none
   | none => none
  | .val (.string b), .val (.int _ n), some .string => some (.pure (decide (0 <= n) && decide (n < (b.size : Int))) (.val (.int .u8 (b.data.getD n.toNat 0).toNat)))
  | _, _, _ => none
 | .slice t x lo hi mx => match s.ev x, lo, hi, mx, P.underlying t with
  | .ptr id off, none, none, none, some (.array n e) => match Zt P (sizeOf e) with
   | some sz => some (.pure true (.sub id off n sz))
   | none => none
  | .ptr id off, none, some hx, none, some (.array n e) => match s.ev hx with
   | .val hv => match Zt P (Instr.sliceBounds false n n none (some hv) none), Zt P (sizeOf e) with
    | some (0, h, m), some sz => if Nat.ble h m = true then some (.pure true (.sub id off h sz)) else none
    | _, _ => none
   | _ => none
  | .row id, none, none, none, some (.slice e) => match Zt P (sizeOf e) with
   | some _ => match s.heap id with
    | some (.row ..) => some (.pure true (.row id))
    | some (.ros ..) => some (.pure true (.row id))
    | _ => none
   | none => none
  | .row id, lo, hi, none, some (.slice e) => ZeB P s id lo hi e
  | .val (.string b), lo, hi, none, some .string => ZeC s b lo hi
  | _, _, _, _, _ => none
 | .nilCheck x => match s.ev x with
  | .ptr id off => some (.pure true (.ptr id off))
  | _ => none
 | .sliceToArrayPointer t x => match s.ev x, P.underlying t with
  | .row id, some (.array len _) => match s.heap id with
   | some (.row _ _ m _) => some (.pure (Nat.ble len m && Nat.ble 1 m) (.ptr id 0))
   | some (.ros m _) => some (.pure (Nat.ble len m && Nat.ble 1 m) (.ptr id 0))
   | _ => none
  | _, _ => none
 | .extract x i => match s.ev x with
  | .tup l => match l[i]? with
   | some (.v v) => some (.pure true (.val v))
   | some (.r id) => some (.pure true (.row id))
   | none => none
  | _ => none
 | .call c => match c.callee with
  | .value f => match ZgQ S f with
   | some run => ZOo S s o.dst (s.ev f) run (c.args.toList.map s.ev)
   | none => match s.ev f with
    | .clo g caps => match S.f g, Z2m (fun x => PVof s.heap (ZhF S s.heap) (s.ev x)) c.args.toList, Z2m (Zpc s.heap) caps with
     | some run, some args, some cs => match run (args ++ cs) with
      | some (ok, rs) => Zll o.dst ok rs
      | none => none
     | _, _, _ => none
    | .fn g => match SV.vals (c.args.toList.map s.ev) with
     | some args => match g args with
      | some (ok, r) => Zll o.dst ok [.v r]
      | none => none
     | none => none
    | _ => none
  | .builtin .len => match c.args.toList.map s.ev, c.argTypes.toList with
   | [.val (.string b)], [t] => match P.underlying t with
    | some .string => some (.pure true (.val (.int .i64 b.size)))
    | _ => none
   | [.row id], [t] => match s.heap id, P.underlying t with
    | some (.row _ _ n _), some (.slice _) => some (.pure true (.val (.int .i64 n)))
    | some (.ros n _), some (.slice _) => some (.pure true (.val (.int .i64 n)))
    | _, _ => none
   | [.sub _ _ n _], [t] => match P.underlying t with
    | some (.slice _) => some (.pure true (.val (.int .i64 n)))
    | _ => none
   | _, _ => none
  | .builtin .max => match c.args.toList.map s.ev with
   | [.val (.int .i64 x), .val (.int .i64 y)] => some (.pure true (.val (.int .i64 (maxI x y))))
   | _ => none
  | .builtin .min => match c.args.toList.map s.ev with
   | [.val (.int .i64 x), .val (.int .i64 y)] => some (.pure true (.val (.int .i64 (minI x y))))
   | _ => none
  | .builtin .append => match o.dst, c.args.toList.map s.ev, c.argTypes.toList with
   | some d, [a, x], [t, u] => if Nat.beq t u = true then Z9Q P s d t a x else none
   | _, _, _ => none
  | _ => none
 | _ => none
def FSt.put (s : FSt) (d : Option Nat) (v : SV) : FSt := match d with
 | none => s
 | some d => { s with slot := fun t => bif Nat.beq t d then v else s.slot t }
def Zcd (id : Nat) (l : List TI) : Bool := l.any fun | .r i => Nat.beq i id | _ => false
def Z1L (id : Nat) : SV -> SV
 | .ptr i o => bif Nat.beq i id then .junk else .ptr i o
 | .row i => bif Nat.beq i id then .junk else .row i
 | .sub i o n z => bif Nat.beq i id then .junk else .sub i o n z
 | .clo f l => bif l.any (Nat.beq id) then .junk else .clo f l
 | .tup l => bif Zcd id l then .junk else .tup l
 | .agr l => bif Zcd id l then .junk else .agr l
 | v => v
def ZmV (id : Nat) : Blk -> Blk
 | .box e l => .box e (l.map (Z1L id))
 | .rop l => .rop (l.map (Z1L id))
 | b => b
def FSt.kill (s : FSt) (id : Nat) : FSt where
 slot := fun t => Z1L id (s.slot t)
 heap := fun x => bif Nat.beq x id then none else match s.heap x with | some b => some (ZmV id b) | none => none
def FSt.set (s : FSt) (id : Nat) (b : Blk) : FSt := { s with heap := fun x => bif Nat.beq x id then some b else s.heap x }
def FSt.fresh (s : FSt) : List (Nat × Blk) -> Bool
 | [] => true
 | (i, _) :: l => match s.heap i with | some _ => false | none => s.fresh l
def FSt.news (s : FSt) : List (Nat × Blk) -> FSt
 | [] => s
 | (i, b) :: l => (s.set i b).news l
def FSt.dropped (s : FSt) : Option Nat -> FSt
 | some id => s.kill id
 | none => s
def FSt.upd (s : FSt) : Option (Nat × Blk) -> FSt
 | some (id, b) => s.set id b
 | none => s
def FSt.apply (s : FSt) (d : Option Nat) (o : Out) : FSt := (((s.dropped o.drop).news o.news).upd o.upd).put d o.v
def Z0F (n : Nat) : Option Nat -> Bool
 | some d => Nat.ble (d + 1) n
 | none => true
def Z4t (ops : List Oper) (s : FSt) (o : Oper) : Option Bool := match o.guard with
 | none => some true
 | some (j, w) => match ops[j]? with
  | some q => match q.dst with
   | some d => match s.slot d with
    | .val (.bool b) => some (b == w)
    | .val (.tuple _) => some false
    | _ => none
   | none => none
  | none => none
def storeAt (o : Oper) : Option Nat := match o.op with | .store _ (.tmp x) _ => some x | .load _ (.tmp x) => some x | _ => none
def isSt (o : Oper) : Bool := match o.op with | .store .. => true | _ => false
def loadAt (o : Oper) : Bool := match o.op with | .load _ (.tmp _) => true | _ => false
def ZOl (ops : List Oper) (x : Nat) : Bool := ops.any fun q => match q.dst with | some d => Nat.beq d x | none => false
def ZeG (S : Sums) (o : Oper) : Option Operand := match o.op with
 | .call c => match c.callee with
  | .value f => match ZgQ S f with
   | some (.box _) => c.args.toList.head?
   | _ => none
  | _ => none
 | _ => none
def ZB5 (S : Sums) (o : Oper) : Bool := match ZeG S o with | some _ => true | none => false
def ZFk (P : Program) (o : Oper) : Option TypeId := match o.op with
 | .call c => match c.argTypes.toList with
  | t :: _ => match P.underlying t with
   | some (.pointer e) => some e
   | _ => none
  | [] => none
 | _ => none
def crowded (ops : List Oper) (o : Oper) : Bool := match storeAt o with
 | some x => !(ZOl ops x) && ops.any fun q => match storeAt q with
  | some y => (isSt o || isSt q) && (!(Nat.beq x y) && !(ZOl ops y))
  | none => false
 | none => false
def farB (P : Program) (S : Sums) (ops : List Oper) (e : TypeId) : Bool := ops.all fun q => bif ZB5 S q then (match ZFk P q with | some e' => !(Nat.beq e e') | none => false) else true
def loose (ops : List Oper) (o q : Oper) : Bool := match o.dst with
 | some d => q.after.toList.any fun e => !(Region.binds .any e) && (match ops[e.on]? with
  | some z => (match z.dst with | some d' => Nat.beq d' d | none => false)
  | none => false)
 | none => false
def mixB (ops : List Oper) (o q : Oper) : Bool := match storeAt o, storeAt q with
 | some x, some y => loadAt o && isSt q && (!(Nat.beq x y) && loose ops o q)
 | _, _ => false
def ZgO (o : Oper) : Bool := match o.op with
 | .call c => match c.callee with
  | .builtin .append => true
  | _ => false
 | _ => false
def ZGQ (o : Oper) : Bool := match o.op with
 | .buildSlice .. => true
 | _ => false
def bare (o : Oper) : Bool := match o.guard with
 | none => true
 | some _ => false
def ZKE (o q : Oper) : List Oper -> Bool
 | [] => false
 | z :: l => match o.dst, z.dst, q.dst with
  | some d, some d', some e => bif Nat.beq d d' then l.any fun y => (match y.dst with | some e' => Nat.beq e e' | none => false) else ZKE o q l
  | _, _, _ => ZKE o q l
def ZLI (ops : List Oper) (o q : Oper) : Bool := ZgO o && ((loadAt q || ZGQ q) && (bare o && bare q && ZKE o q ops))
def mixH (ops : List Oper) (o : Oper) (s : FSt) (x : Nat) : Bool :=
 bif loadAt o then ops.all fun q => bif mixB ops o q then (match storeAt q, s.slot x with
  | some y, .ptr i _ => !(Nat.beq i (4 * y))
  | _, _ => false) else true
 else bif ops.any (fun z => mixB ops z o) then (match s.slot x with
  | .ptr i _ => Nat.beq i (4 * x)
  | _ => false) else true
def ZpK (o : Oper) (s : FSt) : SV := match o.op with
 | .call c => match c.args.toList with
  | a :: _ => s.ev a
  | [] => .junk
 | _ => .junk
def ZF1 (ops : List Oper) (o : Oper) (s : FSt) : Bool :=
 bif ZgO o then ops.all fun q => bif ZGQ q && ZLI ops o q then (match q.dst, ZpK o s with
  | some d, .row id => !(Nat.beq id (4 * d))
  | some _, .val _ => true
  | _, _ => false) else true
 else true
def ZhK (P : Program) (S : Sums) (ops : List Oper) (o : Oper) (s : FSt) : Bool := match storeAt o with
 | some x => (bif crowded ops o then (match s.slot x with | .ptr i _ => Nat.beq i (4 * x) | _ => false) else true) && (bif loadAt o && ops.any (ZB5 S) then (match s.slot x with | .ptr i _ => (match s.heap i with | some (.box e _) => farB P S ops e | some _ => true | none => false) | _ => false) else true)
 | none => match ZeG S o with
  | some x => match s.ev x with
   | .ptr i _ => match s.heap i, ZFk P o with
    | some (.box e _), some e' => Nat.beq e e'
    | _, _ => false
   | _ => false
  | none => true
def Zjf (ops : List Oper) (o : Oper) (s : FSt) : Bool := match storeAt o with
 | some x => mixH ops o s x
 | none => ZF1 ops o s
def Z5p (P : Program) (S : Sums) (ops : List Oper) (o : Oper) (s : FSt) : Bool := Zjf ops o s && ZhK P S ops o s
def chkH (P : Program) (S : Sums) (ops : List Oper) (o : Oper) (s : FSt) (c : Bool) : Bool := bif Z5p P S ops o s then c else false
theorem ZrR {P : Program} {S : Sums} {ops : List Oper} {o : Oper} {s : FSt} {c : Bool} (h : chkH P S ops o s c = true) : c = true /\ Z5p P S ops o s = true := by
 unfold chkH at h
 cases hh : Z5p P S ops o s
 ·rw [hh] at h; cases h
 ·rw [hh] at h; exact ⟨h, rfl⟩
def Z0W (P : Program) (S : Sums) (n : Nat) (ops : List Oper) (o : Oper) (s : FSt) : Option Out :=
 match Z4t ops s o with
 | none => none
 | some w => if Z0F n o.dst = true then
   if w = true then match Z3j P S s o with
    | none => none
    | some r => if chkH P S ops o s r.chk = true then some r else none
   else some (.pure true (.val undef))
  else none
def step (P : Program) (S : Sums) (n : Nat) (ops : List Oper) (o : Oper) (s : FSt) : Option FSt :=
 match Z0W P S n ops o s with
 | none => none
 | some r => if s.fresh r.news = true then some (s.apply o.dst r) else none
def guards (ops : List Oper) (i : Nat) : Bool := ops.any fun o => match o.guard with | some (j, _) => Nat.beq j i | none => false
def regK {α : Type} (P : Program) (S : Sums) (n : Nat) (ops : List Oper) : Nat -> List Oper -> FSt -> (FSt -> Option α) -> Option α
 | _, [], s, k => k s
 | i, o :: l, s, k => match Z4t ops s o with
  | none => none
  | some w => if Z0F n o.dst = true then
    if w = true then match Z3j P S s o with
     | none => none
     | some r => if chkH P S ops o s r.chk = true then (if s.fresh r.news = true then
        (match guards ops i, r.v with
        | true, .val (.bool b) => if b = true then regK P S n ops (i + 1) l (s.apply o.dst { r with v := .val (.bool true) }) k else regK P S n ops (i + 1) l (s.apply o.dst { r with v := .val (.bool false) }) k
        | _, _ => regK P S n ops (i + 1) l (s.apply o.dst r) k) else none) else none
    else regK P S n ops (i + 1) l (s.put o.dst (.val undef)) k
   else none
structure Tab where
 slots : List SV
 heap : List (Nat × Blk)
def look : List (Nat × Blk) -> Nat -> Option Blk
 | [], _ => none
 | (i, b) :: l, x => bif Nat.beq x i then some b else look l x
def Tab.st (t : Tab) : FSt := ⟨fun i => t.slots.getD i .junk, look t.heap⟩
def Zc7 (H : Nat -> Option Blk) : List Nat -> List (Nat × Blk)
 | [] => []
 | i :: l => match H i with | some b => (i, b) :: Zc7 H l | none => Zc7 H l
def Zdu (l : List Nat) : SV -> SV
 | .ptr i o => bif l.any (Nat.beq i) then .ptr i o else .junk
 | .row i => bif l.any (Nat.beq i) then .row i else .junk
 | .sub i o n z => bif l.any (Nat.beq i) then .sub i o n z else .junk
 | .clo f q => bif q.all (fun i => l.any (Nat.beq i)) then .clo f q else .junk
 | .tup _ => .junk
 | .agr _ => .junk
 | v => v
def ZmU (l : List Nat) : Blk -> Blk
 | .box e q => .box e (q.map (Zdu l))
 | .rop q => .rop (q.map (Zdu l))
 | b => b
def ownB : Blk -> Bool
 | .box .. => true
 | .row .. => true
 | _ => false
def ZPY (H : Nat -> Option Blk) (i : Nat) : Bool := match H i with
 | some b => ownB b
 | none => false
def Zkf : Code -> List Oper
 | .region _ ops _ => ops.toList
 | .seq a b => Zkf a ++ Zkf b
 | .cond _ a b => Zkf a ++ Zkf b
 | .block _ a => Zkf a
 | .loop a => Zkf a
 | _ => []
def apOp (o : Oper) : Option Nat := match o.op with
 | .call c => match c.callee with
  | .builtin .append => match c.args.toList with
   | .tmp t :: _ => some t
   | _ => none
  | _ => none
 | _ => none
def mvOp (o : Oper) : Option (Nat × Nat) := match o.op, o.dst with
 | .move (.tmp t), some d => some (d, t)
 | .assign (.tmp t), some d => some (d, t)
 | _, _ => none
def ZNv (m : List (Nat × Nat)) (a : List Nat) : List Nat := a ++ (m.filter fun x => a.any (Nat.beq x.1) && !(a.any (Nat.beq x.2))).map (·.2)
def ZOZ (o : Oper) : Option Nat := match o.op with
 | .call c => match c.callee with
  | .value _ => o.dst
  | _ => none
 | _ => none
def appS (c : Code) : List Nat :=
 let l := Zkf c
 let m := l.filterMap mvOp
 let cs := l.filterMap ZOZ
 ZNv m (ZNv m (l.filterMap apOp)) ++ (m.filter fun x => cs.any (Nat.beq x.2)).map (·.1)
def ZLs (b : Nat) : SV -> Bool
 | .row i => Nat.beq i b
 | _ => false
def Zsm (s : FSt) (ap : List Nat) (i : Nat) (x : SV) : SV := match x with
 | .row b => bif ZPY s.heap b then (match ap.find? fun j => ZLs b (s.slot j) with
   | some j => bif Nat.beq i j then .row b else .junk
   | none => .row b) else .row b
 | x => x
def FSt.tab (s : FSt) (ap : List Nat) (n : Nat) : Tab :=
 let hp := Zc7 s.heap (List.range (4 * n))
 let l := hp.map (·.1)
 ⟨(List.range n).map fun i => Zsm s ap i (Zdu l (s.slot i)), hp.map fun x => (x.1, ZmU l x.2)⟩
def ZgZ (a b : Nat) : SV -> SV
 | .row i => bif Nat.beq i a then .row b else .row i
 | .sub i o n z => bif Nat.beq i a then .junk else .sub i o n z
 | .ptr i o => bif Nat.beq i a then .junk else .ptr i o
 | .clo f l => bif l.any (Nat.beq a) then .junk else .clo f l
 | .tup l => bif Zcd a l then .junk else .tup l
 | .agr l => bif Zcd a l then .junk else .agr l
 | v => v
def renB (a b : Nat) : Blk -> Blk
 | .box e l => .box e (l.map (ZgZ a b))
 | .rop l => .rop (l.map (ZgZ a b))
 | c => c
def FSt.ren (s : FSt) (a b : Nat) : FSt := match s.heap a, s.heap b with
 | some (.row e z n c), none => { slot := fun t => ZgZ a b (s.slot t), heap := fun x => bif Nat.beq x b then some (.row e z n c) else bif Nat.beq x a then none else match s.heap x with | some q => some (renB a b q) | none => none }
 | _, _ => s
def renOne (x : SV) (i : Nat) (s : FSt) : FSt := match x with
 | .row b => match s.slot i with
  | .row a => bif Nat.beq a b || Nat.ble a 1 then s else s.ren a b
  | _ => s
 | _ => s
def renAll : List SV -> Nat -> FSt -> FSt
 | [], _, s => s
 | x :: l, i, s => renAll l (i + 1) (renOne x i s)
def ZJv (s : FSt) (b : Nat) : List SV -> Nat -> Bool
 | [], _ => false
 | x :: l, j => (ZLs b x && ZLs b (s.slot j)) || ZJv s b l (j + 1)
def ZOu (s : FSt) (a : Nat) : Bool := match s.heap a with
 | some (.row ..) => true
 | _ => false
def freedAt (all : List SV) (s : FSt) (i : Nat) : SV -> FSt
 | .row b => match s.slot i, s.heap b with
  | .row a, some (.row ..) => bif Nat.ble 2 b && !(Nat.beq a b) && ZOu s a && !(ZJv s b all 0) then s.kill b else s
  | _, _ => s
 | _ => s
def freed (all : List SV) : List SV -> Nat -> FSt -> FSt
 | [], _, s => s
 | x :: l, i, s => freed all l (i + 1) (freedAt all s i x)
def ZfZ (l : List Nat) (s : FSt) : List SV -> Nat -> List SV
 | [], _ => []
 | x :: t, i => (match x with | .junk => .junk | _ => Zdu l (s.slot i)) :: ZfZ l s t (i + 1)
def Zz4 (l : List Nat) : List Nat :=
 let m := bif l.any (Nat.beq 0) then l else 0 :: l
 bif m.any (Nat.beq 1) then m else 1 :: m
def Tab.norm (t : Tab) (s : FSt) : Tab :=
 let l := Zz4 (t.heap.map (·.1))
 let s' := renAll t.slots 0 (freed t.slots t.slots 0 s)
 ⟨ZfZ l s' t.slots 0, (Zc7 s'.heap l).map fun x => (x.1, ZmU l x.2)⟩
def kSeq {α : Type} (next : FSt -> Option α) (k : Ex -> FSt -> Option α) : Ex -> FSt -> Option α := fun e s => match e with
 | .normal => next s
 | .exit i => k (.exit i) s
 | .ret => k .ret s
def Z0g {α : Type} (id : Nat) (k : Ex -> FSt -> Option α) : Ex -> FSt -> Option α := fun e s => match e with
 | .normal => k .normal s
 | .exit i => bif Nat.beq i id then k .normal s else k (.exit i) s
 | .ret => k .ret s
def ZBd {α : Type} (rc : Tab -> Option α) (t : Tab) (k : Ex -> FSt -> Option α) : Ex -> FSt -> Option α := fun e s => match e with
 | .normal => rc (t.norm s)
 | .exit i => k (.exit i) s
 | .ret => k .ret s
def Z1u {α : Type} (body : FSt -> (Ex -> FSt -> Option α) -> Option α) : Nat -> Tab -> (Ex -> FSt -> Option α) -> Option α
 | 0, _, _ => none
 | f + 1, t, k => body t.st (ZBd (fun t' => Z1u body f t' k) t k)
def Z9S : Code -> Nat
 | .exit id => id + 1
 | .seq a b => bif Nat.beq (Z9S a) 0 then Z9S b else Z9S a
 | .cond _ a b => bif Nat.beq (Z9S a) 0 then Z9S b else Z9S a
 | .block _ a => Z9S a
 | .loop a => Z9S a
 | _ => 0
def Z6b (N : Nat) (cs : List Nat) (a : Code) : Nat := bif cs.any (Nat.beq (Z9S a)) then 200 else N
def remade (o : Oper) : Option Nat := match o.op, o.dst with
 | .alloc _, some d => some d
 | .box _ _, some d => some d
 | _, _ => none
def FSt.clr (s : FSt) : List Oper -> FSt
 | [] => s
 | o :: l => match remade o with
  | some d => match s.heap (4 * d) with
   | some _ => bif Nat.ble 1 d then (s.kill (4 * d)).clr l else s.clr l
   | none => s.clr l
  | none => s.clr l
def exec {α : Type} (P : Program) (S : Sums) (n : Nat) (fu : Code -> Nat) : Code -> FSt -> (Ex -> FSt -> Option α) -> Option α
 | .skip, s, k => k .normal s
 | .region _ ops _, s, k => regK P S n ops.toList 0 ops.toList (s.clr ops.toList) (k .normal)
 | .seq a b, s, k => exec P S n fu a s (kSeq (fun s' => exec P S n fu b s' k) k)
 | .cond c x y, s, k => match s.ev c with
  | .val (.bool b) => if b = true then exec P S n fu x s k else exec P S n fu y s k
  | _ => none
 | .block id a, s, k => exec P S n fu a s (Z0g id k)
 | .loop a, s, k => Z1u (exec P S n fu a) (fu a) (s.tab (appS a) n) k
 | .exit id, s, k => k (.exit id) s
 | .ret, s, k => k .ret s
 | _, _, _ => none
def ZME : Nat -> PV -> SV
 | _, .v x => .val x
 | i, .s _ _ => .row (4 * i)
 | _, .f g => .fn g
 | i, .p _ => .ptr (4 * i) 0
 | i, .ps _ _ => .ptr (4 * i) 0
 | i, .pf _ => .ptr (4 * i) 0
def ZN : Nat -> List PV -> List (Nat × Blk)
 | _, [] => []
 | i, .s n c :: l => (4 * i, .ros n c) :: ZN (i + 1) l
 | i, .p c :: l => (4 * i, .rop (c.map .val)) :: ZN (i + 1) l
 | i, .ps n c :: l => (4 * i, .rop [.row (4 * i + 1)]) :: (4 * i + 1, .ros n c) :: ZN (i + 1) l
 | i, .pf g :: l => (4 * i, .rop [.fn g]) :: ZN (i + 1) l
 | i, _ :: l => ZN (i + 1) l
def Z3o : Nat -> List PV -> List SV
 | _, [] => []
 | i, a :: l => ZME i a :: Z3o (i + 1) l
def ZG9 (args : List PV) : FSt := Tab.st ⟨Z3o 0 args, ZN 0 args⟩
def ZF4 (P : Program) (ty : TypeId) (x : Value) : Option TR := match x with
 | .slice none 0 0 => match P.underlying ty with
  | some (.slice e) => match Zt P (sizeOf e) with
   | some sz => some (.s e sz 0 (.ints []))
   | none => none
  | _ => none
 | x => some (.v x)
def zipT : List ResultVar -> List TypeId -> List (ResultVar × TypeId)
 | [], _ => []
 | x :: l, [] => (x, 0) :: zipT l []
 | x :: l, t :: ts => (x, t) :: zipT l ts
def Zna (P : Program) (s : FSt) (q : ResultVar × TypeId) : Option TR := match q.1 with
 | .tmp t => match s.slot t with
  | .val x => ZF4 P q.2 x
  | .row id => match s.heap id with
   | some (.row e sz n c) => some (.s e sz n c)
   | _ => none
  | _ => none
 | .cell a t => match s.slot a, Zt P (isAgg t), Zt P (sizeOf t) with
  | .ptr id off, some ag, some sz => match ld s.heap ag sz id off with
   | some o => if o.chk = true then (match o.v with
    | .val x => ZF4 P q.2 x
    | .row id => match s.heap id with
     | some (.row e sz n c) => some (.s e sz n c)
     | _ => none
    | _ => none) else none
   | none => none
  | _, _, _ => none
def Zcj (P : Program) (s : FSt) : ResultVar -> Option Nat
 | .tmp t => match s.slot t with
  | .row id => some id
  | _ => none
 | .cell a t => match s.slot a, Zt P (isAgg t), Zt P (sizeOf t) with
  | .ptr id off, some ag, some sz => match ld s.heap ag sz id off with
   | some o => match o.v with
    | .row id => some id
    | _ => none
   | none => none
  | _, _, _ => none
def ZaF : List (Option Nat) -> Bool
 | [] => true
 | some i :: l => (l.all fun j => match j with | some k => !(Nat.beq i k) | none => true) && ZaF l
 | none :: l => ZaF l
def finish (P : Program) (fn : Func) (e : Ex) (s : FSt) : Option (List TR) := match e with
 | .exit _ => none
 | _ => if ZaF (fn.results.toList.map (Zcj P s)) = true then Z2m (Zna P s) (zipT fn.results.toList fn.resultTypes.toList) else none
def Code.sub : List Nat -> Code -> Code
 | [], c => c
 | 0 :: l, .seq a _ => Code.sub l a
 | _ :: l, .seq _ b => Code.sub l b
 | 1 :: l, .cond _ a _ => Code.sub l a
 | _ :: l, .cond _ _ b => Code.sub l b
 | _ :: l, .block _ a => Code.sub l a
 | _ :: l, .loop a => Code.sub l a
 | _, _ => .skip
def ZS (P : Program) (f : Nat) : Code := match P.funcs[f]? with
 | some fn => match fn.body with
  | some c => c
  | none => .refuse ""
 | none => .refuse ""
def ZLp {α : Type} (P : Program) (fn : Func) (dec : List TR -> Option α) (e : Ex) (s : FSt) : Option α := match finish P fn e s with
 | some rs => dec rs
 | none => none
def finT {α : Type} (P : Program) (f : Nat) (dec : List TR -> Option α) (e : Ex) (s : FSt) : Option α := match P.funcs[f]? with
 | some fn => ZLp P fn dec e s
 | none => none
def ZmO {α : Type} (P : Program) (S : Sums) (f n : Nat) (fu : Code -> Nat) (dec : List TR -> Option α) (args : List PV) : Option α :=
 if Nat.ble args.length n = true then exec P S n fu (ZS P f) (ZG9 args) (finT P f dec) else none

theorem Z5w {α : Type} {P : Program} : ∀ {s : Sem α} {v : α}, Zt P s = some v -> ∀ w, s.run P w = .ok v w
 | .pure a, v, h, w => by simp only [Zt, Option.some.injEq] at h; subst h; rfl
 | .program k, v, h, w => Z5w (s := k P) (by simpa only [Zt] using h) w
 | .load .., _, h, _ => by simp [Zt] at h
 | .store .., _, h, _ => by simp [Zt] at h
 | .new .., _, h, _ => by simp [Zt] at h
 | .shape .., _, h, _ => by simp [Zt] at h
 | .freeze .., _, h, _ => by simp [Zt] at h
 | .frozen .., _, h, _ => by simp [Zt] at h
 | .getObj .., _, h, _ => by simp [Zt] at h
 | .setObj .., _, h, _ => by simp [Zt] at h
 | .choose .., _, h, _ => by simp [Zt] at h
 | .sys .., _, h, _ => by simp [Zt] at h
 | .mark .., _, h, _ => by simp [Zt] at h
 | .halt .., _, h, _ => by simp [Zt] at h
theorem nbeq {x y : Nat} (h : x ≠ y) : Nat.beq x y = false := by
 cases hb : Nat.beq x y
 ·rfl
 ·exact absurd (Nat.eq_of_beq_eq_true hb) h
def All2 {α β : Type} (R : α -> β -> Prop) : List α -> List β -> Prop
 | [], [] => True
 | a :: l, b :: m => R a b /\ All2 R l m
 | _, _ => False
section
variable {α β : Type} {R Q : α -> β -> Prop}
theorem All2.mono (h : ∀ a b, R a b -> Q a b) : ∀ {l : List α} {m : List β}, All2 R l m -> All2 Q l m
 | [], [], _ => True.intro
 | _ :: _, _ :: _, ⟨a, b⟩ => ⟨h _ _ a, All2.mono h b⟩
theorem All2.len : ∀ {l : List α} {m : List β}, All2 R l m -> l.length = m.length
 | [], [], _ => rfl
 | _ :: _, _ :: _, ⟨_, b⟩ => by simp [All2.len b]
theorem All2.get : ∀ {l : List α} {m : List β}, All2 R l m -> ∀ {i : Nat} {a : α}, l[i]? = some a -> ∃ b, m[i]? = some b /\ R a b
 | [], [], _, i, a, h => by simp at h
 | _ :: _, y :: _, ⟨p, q⟩, 0, a, h => by
  simp at h; subst h; exact ⟨y, by simp, p⟩
 | _ :: _, _ :: _, ⟨p, q⟩, i + 1, a, h => by
  simp at h; simpa using All2.get q h
theorem All2.set : ∀ {l : List α} {m : List β}, All2 R l m -> ∀ (i : Nat) {a : α} {b : β}, R a b -> All2 R (l.set i a) (m.set i b)
 | [], [], _, _, _, _, _ => True.intro
 | _ :: _, _ :: _, ⟨_, q⟩, 0, _, _, h => ⟨h, q⟩
 | _ :: _, _ :: _, ⟨p, q⟩, i + 1, _, _, h => ⟨p, All2.set q i h⟩
theorem All2.drop : ∀ {l : List α} {m : List β}, All2 R l m -> ∀ (i : Nat), All2 R (l.drop i) (m.drop i)
 | _, _, h, 0 => h
 | [], [], _, i + 1 => True.intro
 | _ :: _, _ :: _, ⟨_, q⟩, i + 1 => All2.drop q i
theorem All2.take : ∀ {l : List α} {m : List β}, All2 R l m -> ∀ (i : Nat), All2 R (l.take i) (m.take i)
 | l, m, h, 0 => by simp [All2]
 | [], [], _, i + 1 => True.intro
 | _ :: _, _ :: _, ⟨p, q⟩, i + 1 => ⟨p, All2.take q i⟩
theorem All2.app : ∀ {l : List α} {m : List β} {l' : List α} {m' : List β}, All2 R l m -> All2 R l' m' -> All2 R (l ++ l') (m ++ m')
 | [], [], _, _, _, h => h
 | _ :: _, _ :: _, _, _, ⟨p, q⟩, h => ⟨p, All2.app q h⟩
theorem All2.mapL {γ : Type} (f : γ -> α) : ∀ {l : List γ} {m : List β}, All2 (fun c b => R (f c) b) l m -> All2 R (l.map f) m
 | [], [], _ => True.intro
 | _ :: _, _ :: _, ⟨p, q⟩ => ⟨p, All2.mapL f q⟩
theorem All2.of_map (f : α -> β) : ∀ (l : List α), (∀ a ∈ l, R a (f a)) -> All2 R l (l.map f)
 | [], _ => True.intro
 | a :: l, h => ⟨h a (by simp), All2.of_map f l fun b hb => h b (by simp [hb])⟩
end
theorem Zeu {α β : Type} {f : α -> Option β} : ∀ {l : List α} {m : List β}, Z2m f l = some m -> All2 (fun a b => f a = some b) l m
 | [], m, h => by simp only [Z2m, Option.some.injEq] at h; subst h; exact True.intro
 | a :: l, m, h => by
  simp only [Z2m] at h
  split at h
  ·rename_i b hb
   split at h
   ·rename_i m' hm
    simp only [Option.some.injEq] at h; subst h
    exact ⟨hb, Zeu hm⟩
   ·cases h
  ·cases h
def atOf : Value -> Option (Nat × Nat)
 | .pointer (some ⟨b, o, none⟩) => some (b, o)
 | .slice (some ⟨b, o, none⟩) _ _ => some (b, o)
 | _ => none
def Z2Q (v : Value) : Option Nat := match atOf v with | some (b, _) => some b | none => none
def Cells.ok : Cells -> Prop
 | .ints _ => True
 | .byts _ => True
 | .strs _ => True
 | .vals l => ∀ u ∈ l, u.oneCell' = true
theorem Cells.ok_one {c : Cells} (h : c.ok) : ∀ u ∈ c.toVals, u.oneCell' = true := by
 cases c with
 | ints l =>
  intro u hu
  obtain ⟨n, _, rfl⟩ := List.mem_map.1 hu
  rfl
 | byts l =>
  intro u hu
  obtain ⟨n, _, rfl⟩ := List.mem_map.1 hu
  rfl
 | strs l =>
  intro u hu
  obtain ⟨n, _, rfl⟩ := List.mem_map.1 hu
  rfl
 | vals l => exact h
theorem Cells.len_toVals (c : Cells) : c.toVals.length = c.len := by cases c <;> simp [Cells.toVals, Cells.len]
theorem Cells.get_toVals (c : Cells) {i : Nat} (h : i < c.len) : c.toVals[i]? = some (c.get i) := by
 cases c with
 | ints l =>
  have h' : i < l.length := h
  simp [Cells.toVals, Cells.get, h', List.getD_eq_getElem?_getD]
 | byts l =>
  have h' : i < l.length := h
  simp [Cells.toVals, Cells.get, h', List.getD_eq_getElem?_getD]
 | strs l =>
  have h' : i < l.length := h
  simp [Cells.toVals, Cells.get, h', List.getD_eq_getElem?_getD]
 | vals l =>
  have h' : i < l.length := h
  simp [Cells.toVals, Cells.get, h', List.getD_eq_getElem?_getD]
abbrev MV := Option (Value × Option Value)
def mB : MV -> Option Nat
 | some v => Z2Q v.1
 | none => none
def Z3i (W : World) (M : Option Nat) (v : Value) (n : Nat) (c : Cells) : Prop :=
 c.ok /\ ((v = .slice none 0 0 /\ n = 0 /\ c.toVals = []) \/ ∃ g o cap, v = .slice (some ⟨g, o, none⟩) n cap /\ n <= cap /\ (M ≠ some g /\ g < W.heap.size) /\ ∀ j u, c.toVals[j]? = some u -> W.cell? ⟨g, o + j, none⟩ = some u)
def ZPG (r : Value) (off n : Nat) (q : Option Addr) (cap : Nat) : Prop :=
 (q = none /\ n = 0 /\ cap = 0) \/ ∃ g o o', atOf r = some (g, o) /\ q = some ⟨g, o', none⟩ /\ n <= cap /\ (0 < n -> o' = o + off)
def ZL3 (P : Program) (W : World) (M : Option Nat) (v : Value) (g : List Value -> Option (Bool × Value)) : Prop :=
 ∃ (f : Nat) (caps : Array Value), v = .func (.func f) #[] caps /\ (∀ (args : Array Value) (w : World), (callFunc f args).run P w = .ok (.enter f args) w) /\
  ∀ w, W.grownBy w M -> ∀ args r, g args = some (true, r) -> Calls P f (args.toArray ++ caps) w fun e w' => e = .returned r /\ w.grownBy w' none
def TIRel (ρ : Nat -> Value) (H : Nat -> Option Blk) : TI -> Value -> Prop
 | .v x, v => v = x
 | .r id, v => (H id).isSome = true /\ v = ρ id
def CapRel (ρ : Nat -> Value) (H : Nat -> Option Blk) (id : Nat) (v : Value) : Prop :=
 (H id).isSome = true /\ ∃ g o, atOf (ρ id) = some (g, o) /\ v = .pointer (some ⟨g, o, none⟩)
section
variable (P : Program) (W : World) (M : MV)
def Rel (ρ : Nat -> Value) (H : Nat -> Option Blk) : SV -> Value -> Prop
 | .val x, v => v = x
 | .ptr id off, v => (H id).isSome = true /\ ∃ g o, atOf (ρ id) = some (g, o) /\ v = .pointer (some ⟨g, o + off, none⟩)
 | .row id, v => (H id).isSome = true /\ v = ρ id
 | .sub id off n _, v => (H id).isSome = true /\ ∃ q cap, v = .slice q n cap /\ ZPG (ρ id) off n q cap
 | .clo f l, v => ∃ vs : List Value, v = .func (.func f) #[] vs.toArray /\ All2 (CapRel ρ H) l vs
 | .fn g, v => ZL3 P W (mB M) v g
 | .tup l, v => ∃ vs : List Value, v = .tuple vs.toArray /\ All2 (TIRel ρ H) l vs
 | .agr l, v => ∃ vs : List Value, v = .agg vs.toArray /\ All2 (TIRel ρ H) l vs
 | .junk, _ => True
def Own (g : Nat) : Prop := W.heap.size <= g \/ mB M = some g
def BRel (w : World) (ρ : Nat -> Value) (H : Nat -> Option Blk) (id : Nat) : Blk -> Prop
 | .box e cells => ∃ g cs, ρ id = .pointer (some ⟨g, 0, none⟩) /\ Own W M g /\ w.heap[g]? = some (.cells cs e (0, 0)) /\ All2 (Rel P W M ρ H) cells cs.toList
 | .row e sz n c => c.ok /\ w.ownsRow 0 e sz (ρ id) n c.toVals /\ ∀ g, Z2Q (ρ id) = some g -> Own W M g
 | .ros n c => Z3i W (mB M) (ρ id) n c
 | .rop cells => ∃ g o, ρ id = .pointer (some ⟨g, o, none⟩) /\ mB M ≠ some g /\ ∀ j v, cells[j]? = some v -> ∃ u, W.cell? ⟨g, o + j, none⟩ = some u /\ Rel P W M ρ H v u
structure R (n : Nat) (s : FSt) (a : Act) (w : World) (ρ : Nat -> Value) : Prop where
 grown : W.grownBy w (mB M)
 size : a.tmps.size = n
 defers : a.defers = []
 slots : ∀ t, Rel P W M ρ s.heap (s.slot t) (a.tmps.getD t undef)
 heap : ∀ id b, s.heap id = some b -> BRel P W M w ρ s.heap id b
 apart : ∀ i j bi bj g, i ≠ j -> s.heap i = some bi -> s.heap j = some bj -> ownB bi = true -> ownB bj = true -> Z2Q (ρ i) = some g -> Z2Q (ρ j) ≠ some g
 fix : ∀ v, M = some v -> 0 < n /\ ((s.heap 0).isSome = true /\ ρ 0 = v.1) /\ ∀ u, v.2 = some u -> (s.heap 1).isSome = true /\ ρ 1 = u
end
section
variable {P : Program} {W : World} {M : MV} {n : Nat} {s : FSt} {a : Act} {w : World} {ρ ρ' : Nat -> Value} {H H' : Nat -> Option Blk}
theorem TIRel.mono (h : ∀ id, (H id).isSome = true -> (H' id).isSome = true /\ ρ' id = ρ id) {x : TI} {v : Value} (k : TIRel ρ H x v) : TIRel ρ' H' x v := by
 cases x with
 | v x => exact k
 | r id => exact ⟨(h id k.1).1, by rw [(h id k.1).2]; exact k.2⟩
theorem CapRel.mono (h : ∀ id, (H id).isSome = true -> (H' id).isSome = true /\ ρ' id = ρ id) {x : Nat} {v : Value} (k : CapRel ρ H x v) : CapRel ρ' H' x v :=
 ⟨(h x k.1).1, by rw [(h x k.1).2]; exact k.2⟩
theorem Rel.mono (h : ∀ id, (H id).isSome = true -> (H' id).isSome = true /\ ρ' id = ρ id) {x : SV} {v : Value} (k : Rel P W M ρ H x v) : Rel P W M ρ' H' x v := by
 cases x with
 | val x => exact k
 | ptr id off => exact ⟨(h id k.1).1, by rw [(h id k.1).2]; exact k.2⟩
 | row id => exact ⟨(h id k.1).1, by rw [(h id k.1).2]; exact k.2⟩
 | sub id off m z => exact ⟨(h id k.1).1, by rw [(h id k.1).2]; exact k.2⟩
 | clo f l => exact ⟨k.choose, k.choose_spec.1, k.choose_spec.2.mono fun _ _ => CapRel.mono h⟩
 | fn g => exact k
 | tup l => exact ⟨k.choose, k.choose_spec.1, k.choose_spec.2.mono fun _ _ => TIRel.mono h⟩
 | agr l => exact ⟨k.choose, k.choose_spec.1, k.choose_spec.2.mono fun _ _ => TIRel.mono h⟩
 | junk => exact k
theorem BRel.mono (h : ∀ id, (H id).isSome = true -> (H' id).isSome = true /\ ρ' id = ρ id) {id : Nat} {b : Blk} (hid : ρ' id = ρ id) (k : BRel P W M w ρ H id b) : BRel P W M w ρ' H' id b := by
 cases b with
 | box e cells =>
  obtain ⟨g, cs, h1, h2, h3, h4⟩ := k
  exact ⟨g, cs, by rw [hid]; exact h1, h2, h3, h4.mono fun _ _ => Rel.mono h⟩
 | row e sz m c =>
  obtain ⟨h1, h2, h3⟩ := k
  exact ⟨h1, by rw [hid]; exact h2, by rw [hid]; exact h3⟩
 | ros m c => simp only [BRel] at k ⊢; rw [hid]; exact k
 | rop cells =>
  obtain ⟨g, o, h1, h2, h3⟩ := k
  refine ⟨g, o, by rw [hid]; exact h1, h2, fun j v hv => ?_⟩
  obtain ⟨u, hu, hr⟩ := h3 j v hv
  exact ⟨u, hu, hr.mono h⟩
theorem Z9Z {e sz m : Nat} {v : Value} {xs : List Value} {b : Nat} (h : w.ownsRow b e sz v m xs) : v.ownBlock = Z2Q v := by
 rcases h.2 with ⟨rfl, _⟩ | ⟨g, cap, cur, rfl, _⟩ <;> rfl
theorem BRel.grown {w' : World} {row : Option Nat} {id : Nat} {b : Blk} (k : BRel P W M w ρ H id b) (hg : w.grownBy w' row) (hne : ownB b = true -> ∀ g, Z2Q (ρ id) = some g -> row ≠ some g) : BRel P W M w' ρ H id b := by
 cases b with
 | box e cells =>
  obtain ⟨g, cs, h1, h2, h3, h4⟩ := k
  refine ⟨g, cs, h1, h2, ?_, h4⟩
  rw [hg.block g (Array.getElem?_eq_some_iff.1 h3).1 (fun e => hne rfl g (by rw [h1]; rfl) e.symm)]
  exact h3
 | row e sz m c =>
  obtain ⟨h1, h2, h3⟩ := k
  refine ⟨h1, h2.kept hg ?_, h3⟩
  rw [Z9Z h2]
  cases ho : Z2Q (ρ id) with
  | none => exact .inl rfl
  | some g => exact .inr fun e => hne rfl g ho e.symm
 | ros m c => exact k
 | rop cells => exact k
theorem ZH1 {id : Nat} {b : Blk} (k : BRel P W M w ρ H id b) (hb : ownB b = true) {g : Nat} (hg : Z2Q (ρ id) = some g) : g < w.heap.size := by
 cases b with
 | box e cells =>
  obtain ⟨g', cs, h1, h2, h3, h4⟩ := k
  rw [h1] at hg
  obtain rfl : g' = g := by simpa [Z2Q, atOf] using hg
  exact (Array.getElem?_eq_some_iff.1 h3).1
 | row e sz m c => exact (k.2.1.lt g (by rw [Z9Z k.2.1]; exact hg)).2
 | ros m c => cases hb
 | rop cells => cases hb
theorem Zbg {w' : World} {row : Option Nat} (h : W.grownBy w (mB M)) (k : w.grownBy w' row) (hr : ∀ g, row = some g -> Own W M g) : W.grownBy w' (mB M) :=
 ⟨k.os.trans h.os, k.tape.trans h.tape, k.output.trans h.output, Nat.le_trans h.size k.size, fun i hi hne => by
  rw [k.block i (Nat.lt_of_lt_of_le hi h.size) (fun e => ?_), h.block i hi hne]
  rcases hr i e.symm with h1 | h1
  ·omega
  ·exact hne h1.symm⟩
theorem R.ext (h : R P W M n s a w ρ) {w' : World} (hg : w.grownBy w' none) : R P W M n s a w' ρ where
 grown := Zbg h.grown hg (fun _ e => by cases e)
 size := h.size
 defers := h.defers
 slots := h.slots
 heap := fun id b hb => (h.heap id b hb).grown hg (fun _ _ _ e => by cases e)
 apart := h.apart
 fix := h.fix
theorem ZON (a : Act) (d t : Nat) (v : Value) (hd : d < a.tmps.size) : (a.put (some d) v).tmps.getD t undef = if t = d then v else a.tmps.getD t undef := by
 unfold Act.put
 by_cases e : t = d
 ·subst e
  simp [hd]
 ·simp only [Array.getD_eq_getD_getElem?, Array.getElem?_setIfInBounds_ne (fun h => e h.symm), if_neg e]
theorem R.put (h : R P W M n s a w ρ) {d : Option Nat} {x : SV} {v : Value} (hd : Z0F n d = true) (hx : d = none \/ Rel P W M ρ s.heap x v) : R P W M n (s.put d x) (a.put d v) w ρ := by
 cases d with
 | none => exact h
 | some d =>
  have hd' : d < a.tmps.size := by
   rw [h.size]; simp [Z0F] at hd; omega
  refine ⟨h.grown, by simpa [Act.put] using h.size, h.defers, fun t => ?_, h.heap, h.apart, h.fix⟩
  rw [ZON a d t v hd']
  show Rel P W M ρ s.heap (bif Nat.beq t d then x else s.slot t) _
  by_cases e : t = d
  ·subst e
   simp only [if_true]
   have : Nat.beq t t = true := by simp
   rw [this]
   rcases hx with hx | hx
   ·cases hx
   ·exact hx
  ·rw [if_neg e]
   have : Nat.beq t d = false := nbeq e
   rw [this]
   exact h.slots t
theorem R.new (h : R P W M n s a w ρ) {i : Nat} {b : Blk} {v : Value} (hi : s.heap i = none) (hb : BRel P W M w (fun x => if x = i then v else ρ x) (s.set i b).heap i b)
  (hap : ownB b = true -> ∀ g, Z2Q v = some g -> ∀ j bj, s.heap j = some bj -> ownB bj = true -> Z2Q (ρ j) ≠ some g) : R P W M n (s.set i b) a w (fun x => if x = i then v else ρ x) := by
 have hm : ∀ id, (s.heap id).isSome = true -> ((s.set i b).heap id).isSome = true /\ (fun x => if x = i then v else ρ x) id = ρ id := by
  intro id hid
  have hne : id ≠ i := by rintro rfl; rw [hi] at hid; cases hid
  have : Nat.beq id i = false := nbeq hne
  exact ⟨by simp only [FSt.set, this, cond_false]; exact hid, if_neg hne⟩
 have hheap : ∀ id c, (s.set i b).heap id = some c -> (id = i /\ c = b) \/ (id ≠ i /\ s.heap id = some c) := by
  intro id c hc
  by_cases e : id = i
  ·subst e
   have : Nat.beq id id = true := by simp
   simp only [FSt.set, this, cond_true, Option.some.injEq] at hc
   exact .inl ⟨rfl, hc.symm⟩
  ·have : Nat.beq id i = false := nbeq e
   simp only [FSt.set, this, cond_false] at hc
   exact .inr ⟨e, hc⟩
 refine ⟨h.grown, h.size, h.defers, fun t => (h.slots t).mono hm, fun id c hc => ?_, fun x y bx by_ g hxy hx hy ox oy gx => ?_, fun v0 hv0 => ?_⟩
 rotate_right
 ·obtain ⟨f1, f2, f3⟩ := h.fix v0 hv0
  exact ⟨f1, ⟨(hm 0 f2.1).1, (hm 0 f2.1).2.trans f2.2⟩, fun u hu => ⟨(hm 1 (f3 u hu).1).1, (hm 1 (f3 u hu).1).2.trans (f3 u hu).2⟩⟩
 ·rcases hheap id c hc with ⟨rfl, rfl⟩ | ⟨hne, hc⟩
  ·exact hb
  ·exact (h.heap id c hc).mono hm (if_neg hne)
 ·rcases hheap x bx hx with ⟨rfl, rfl⟩ | ⟨hnx, hx'⟩ <;> rcases hheap y by_ hy with ⟨rfl, rfl⟩ | ⟨hny, hy'⟩
  ·exact absurd rfl hxy
  ·simp only [if_true] at gx
   simp only [if_neg hny]
   exact hap ox g gx y by_ hy' oy
  ·simp only [if_true]
   simp only [if_neg hnx] at gx
   intro gy
   exact hap oy g gy x bx hx' ox gx
  ·simp only [if_neg hnx] at gx
   simp only [if_neg hny]
   exact h.apart x y bx by_ g hxy hx' hy' ox oy gx
theorem R.write (h : R P W M n s a w ρ) {i : Nat} {b b' : Blk} {w' : World} {g : Nat} (hi : s.heap i = some b) (hob : ownB b = true) (hob' : ownB b' = true) (hgi : Z2Q (ρ i) = some g) (hown : Own W M g) (hg : w.grownBy w' (some g))
  (hb : BRel P W M w' ρ s.heap i b') : R P W M n (s.set i b') a w' ρ := by
 have hm : ∀ id, (s.heap id).isSome = true -> ((s.set i b').heap id).isSome = true /\ ρ id = ρ id := by
  intro id hid
  refine ⟨?_, rfl⟩
  show (bif Nat.beq id i then some b' else s.heap id).isSome = true
  cases Nat.beq id i
  ·exact hid
  ·rfl
 have hheap : ∀ id c, (s.set i b').heap id = some c -> (id = i /\ c = b') \/ (id ≠ i /\ s.heap id = some c) := by
  intro id c hc
  by_cases e : id = i
  ·subst e
   have : Nat.beq id id = true := by simp
   simp only [FSt.set, this, cond_true, Option.some.injEq] at hc
   exact .inl ⟨rfl, hc.symm⟩
  ·have : Nat.beq id i = false := nbeq e
   simp only [FSt.set, this, cond_false] at hc
   exact .inr ⟨e, hc⟩
 refine ⟨Zbg h.grown hg (fun x e => by cases e; exact hown), h.size, h.defers, fun t => (h.slots t).mono hm, fun id c hc => ?_, fun x y bx by_ g' hxy hx hy ox oy gx => ?_, fun v0 hv0 => ⟨(h.fix v0 hv0).1, ⟨(hm 0 (h.fix v0 hv0).2.1.1).1, (h.fix v0 hv0).2.1.2⟩, fun u hu => ⟨(hm 1 ((h.fix v0 hv0).2.2 u hu).1).1, ((h.fix v0 hv0).2.2 u hu).2⟩⟩⟩
 ·rcases hheap id c hc with ⟨rfl, rfl⟩ | ⟨hne, hc⟩
  ·exact hb.mono hm rfl
  ·refine ((h.heap id c hc).grown hg fun oc g' hg' e => ?_).mono hm rfl
   cases e
   exact h.apart i id b c g (Ne.symm hne) hi hc hob oc hgi hg'
 ·rcases hheap x bx hx with ⟨rfl, rfl⟩ | ⟨hnx, hx'⟩ <;> rcases hheap y by_ hy with ⟨rfl, rfl⟩ | ⟨hny, hy'⟩
  ·exact absurd rfl hxy
  ·exact h.apart _ _ _ _ g' hxy hi hy' hob oy gx
  ·exact h.apart _ _ _ _ g' hxy hx' hi ox hob gx
  ·exact h.apart _ _ _ _ g' hxy hx' hy' ox oy gx
end

def GOK (W : World) : Prop := gvars.length <= W.heap.size /\ ∀ g vals, gvars[g]? = some vals -> ∀ j u, vals[j]? = some u -> W.cell? ⟨g, j, none⟩ = some u
def Base (W : World) (M : MV) : Prop := GOK W /\ ∀ g, mB M = some g -> gvars.length <= g
theorem GOK.grown {W w : World} {row : Option Nat} (h : GOK W) (hg : W.grownBy w row) (hr : ∀ g, row = some g -> gvars.length <= g) : GOK w :=
 ⟨Nat.le_trans h.1 hg.size, fun g vals hv j u hu => World.grownBy.cell hg (h.2 g vals hv j u hu) fun e => by
  have h1 := hr g e.symm
  have h2 := (List.getElem?_eq_some_iff.1 hv).1
  omega⟩
def Callable (P : Program) (f : Nat) : Prop := ∀ (args : Array Value) (w : World), (callFunc f args).run P w = .ok (.enter f args) w
def Z7T (P : Program) (W : World) : PV -> Value -> Prop
 | .v x, a => a = x
 | .s n c, a => Z3i W none a n c
 | .f g, a => ZL3 P W none a g
 | .p l, a => ∃ g o, a = .pointer (some ⟨g, o, none⟩) /\ ∀ j u, l[j]? = some u -> W.cell? ⟨g, o + j, none⟩ = some u
 | .ps n c, a => ∃ g o v, a = .pointer (some ⟨g, o, none⟩) /\ W.cell? ⟨g, o, none⟩ = some v /\ Z3i W none v n c
 | .pf f, a => ∃ g o v, a = .pointer (some ⟨g, o, none⟩) /\ W.cell? ⟨g, o, none⟩ = some v /\ ZL3 P W none v f
def TRel (W W' : World) : TR -> Value -> Prop
 | .v x, v => v = x
 | .s e sz n c, v => c.ok /\ W'.ownsRow W.heap.size e sz v n c.toVals
def SOff (g : Nat) : List TR -> List Value -> Prop
 | .s _ _ _ _ :: l, v :: vs => Z2Q v ≠ some g /\ SOff g l vs
 | .v _ :: l, _ :: vs => SOff g l vs
 | _, _ => True
def TApart : List TR -> List Value -> Prop
 | .s _ _ _ _ :: l, v :: vs => (∀ g, Z2Q v = some g -> SOff g l vs) /\ TApart l vs
 | _ :: l, _ :: vs => TApart l vs
 | _, _ => True
def Zpu (W W' : World) (rs : List TR) (rv : Value) : Prop := match rs with
 | [r] => TRel W W' r rv
 | rs => ∃ vs : List Value, rv = .tuple vs.toArray /\ All2 (TRel W W') rs vs /\ TApart rs vs
def Sound (P : Program) (g : Nat) (run : List PV -> Option (Bool × List TR)) : Prop :=
 ∀ (W : World) (pvs : List PV) (avs : List Value) (rs : List TR), GOK W -> All2 (Z7T P W) pvs avs -> run pvs = some (true, rs) ->
  Calls P g avs.toArray W fun e W' => ∃ rv, e = .returned rv /\ Zpu W W' rs rv /\ W.grownBy W' none
def ZNm (P : Program) (g : Nat) (run : MRun) : Prop :=
 ∀ (W : World) (e : TypeId) (sz n : Nat) (c : Cells) (v : Value) (vs : List Value) (r : Value) (c' : Cells), GOK W -> (∀ g, Z2Q v = some g -> gvars.length <= g) -> c.ok -> W.ownsRow 0 e sz v n c.toVals -> run e sz n c vs = some (true, r, c') ->
  Calls P g (v :: vs).toArray W fun x W' => x = .returned r /\ c'.ok /\ W'.ownsRow 0 e sz v n c'.toVals /\ W.grownBy W' (Z2Q v)
def BCRel (W : World) (b : Nat) : BC -> Value -> Prop
 | .v x, a => a = x
 | .s n c, a => Z3i W (some b) a n c
def ArgB (W : World) (b : Nat) : PV -> Value -> Prop
 | .v x, a => a = x
 | .s n c, a => Z3i W (some b) a n c
 | _, _ => False
def newC : List BC -> List Value -> List Value
 | .v x :: l, _ :: m => x :: newC l m
 | .s _ _ :: l, u :: m => u :: newC l m
 | _, _ => []
def Zpi : List Value -> Value
 | [x] => x
 | l => .tuple l.toArray
def Zag (P : Program) (g : Nat) (run : PRun) : Prop :=
 ∀ (W : World) (e : TypeId) (b : Nat) (cs : Array Value) (bcs : List BC) (pvs : List PV) (avs rs : List Value) (bcs' : List BC), GOK W -> gvars.length <= b -> W.heap[b]? = some (.cells cs e (0, 0)) -> All2 (BCRel W b) bcs cs.toList -> All2 (ArgB W b) pvs avs ->
  run e bcs pvs = some (true, rs, bcs') -> Zpj bcs bcs' = true -> Calls P g (.pointer (some ⟨b, 0, none⟩) :: avs).toArray W fun y W' => y = .returned (Zpi rs) /\ W'.heap[b]? = some (.cells (newC bcs' cs.toList).toArray e (0, 0)) /\ W.grownBy W' (some b)
def ZFT (P : Program) (g : Nat) (run : PRun) : Prop :=
 ∀ (W : World) (e : TypeId) (b g' o' : Nat) (cs : Array Value) (bcs : List BC) (pvs : List PV) (avs rs : List Value) (bcs' : List BC), GOK W -> gvars.length <= b -> W.heap[b]? = some (.cells cs e (0, 0)) -> W.cell? ⟨g', o', none⟩ = some (.pointer (some ⟨b, 0, none⟩)) -> g' ≠ b -> All2 (BCRel W b) bcs cs.toList -> All2 (ArgB W b) pvs avs ->
  run e bcs pvs = some (true, rs, bcs') -> Zpj bcs bcs' = true -> Calls P g (avs ++ [Value.pointer (some ⟨g', o', none⟩)]).toArray W fun y W' => y = .returned (Zpi rs) /\ W'.heap[b]? = some (.cells (newC bcs' cs.toList).toArray e (0, 0)) /\ W.grownBy W' (some b)
def ZFS (P : Program) (g : Nat) (run : BRun) : Prop :=
 ∀ (W : World) (n : Nat) (c : Cells) (v : Value) (e : TypeId) (vals : List Value), GOK W -> Z3i W none v n c -> run [.s n c] = some (true, e, vals) ->
  Calls P g [v].toArray W fun y W' => ∃ b, y = .returned (.pointer (some ⟨b, 0, none⟩)) /\ W.heap.size <= b /\ W'.heap[b]? = some (.cells (v :: vals).toArray e (0, 0)) /\ W.grownBy W' none
def ZFU (P : Program) (g : Nat) : MFn -> Prop
 | .row run => ZNm P g run
 | .box run => Zag P g run
 | .src run => ZFS P g run
 | .cap run => ZFT P g run
def Ze (P : Program) (S : Sums) : Prop := (∀ g run, S.f g = some run -> Callable P g /\ Sound P g run) /\ ∀ g run, S.m g = some run -> Callable P g /\ ZFU P g run
def Zc6 (P : Program) (S : Sums) (W : World) (M : MV) : Prop := Ze P S /\ Base W M
section
variable {P : Program} {W : World} {M : MV} {n : Nat} {s : FSt} {a : Act} {w w' : World} {ρ ρ' : Nat -> Value} {H H' : Nat -> Option Blk}
theorem R.gok (h : R P W M n s a w ρ) (hB : Base W M) : GOK w := hB.1.grown h.grown hB.2
theorem Own.far (hB : Base W M) {g : Nat} (h : Own W M g) : gvars.length <= g := by
 rcases h with h | h
 ·exact Nat.le_trans hB.1.1 h
 ·exact hB.2 g h
theorem R.ev (h : R P W M n s a w ρ) (x : Operand) : Rel P W M ρ s.heap (s.ev x) (a.eval x) := by
 cases x with
 | tmp t => exact h.slots t
 | const v => exact rfl
 | global g => exact True.intro
 | func f => exact ⟨[], rfl, True.intro⟩
theorem R.extOff (h : R P W M n s a w ρ) {row : Option Nat} (hg : w.grownBy w' row) (hr : ∀ g, row = some g -> Own W M g /\ ∀ j bj, s.heap j = some bj -> ownB bj = true -> Z2Q (ρ j) ≠ some g) : R P W M n s a w' ρ where
 grown := Zbg h.grown hg fun g e => (hr g e).1
 size := h.size
 defers := h.defers
 slots := h.slots
 heap := fun id b hb => (h.heap id b hb).grown hg fun ob g hgo e => (hr g e).2 id b hb ob hgo
 apart := h.apart
 fix := h.fix
theorem ZG0 {l : List Nat} {id : Nat} (h : l.any (Nat.beq id) = false) {i : Nat} (hi : i ∈ l) : i ≠ id := by
 rintro rfl
 have := List.any_eq_false.1 h i hi
 simp at this
theorem ZuZ {id i : Nat} (h : i ≠ id) : (s.kill id).heap i = match s.heap i with | some b => some (ZmV id b) | none => none := by
 show (bif Nat.beq i id then none else _) = _
 rw [nbeq h, cond_false]
 all_goals (cases s.heap i <;> rfl)
theorem Z4R {id i : Nat} (h : i ≠ id) (hl : (s.heap i).isSome = true) : ((s.kill id).heap i).isSome = true := by
 rw [ZuZ h]
 cases hs : s.heap i with
 | none => rw [hs] at hl; cases hl
 | some b => rfl
theorem All2.memMono {α β : Type} {R Q : α -> β -> Prop} : ∀ {l : List α} {m : List β}, (∀ a ∈ l, ∀ b, R a b -> Q a b) -> All2 R l m -> All2 Q l m
 | [], [], _, _ => True.intro
 | a :: l, b :: m, h, ⟨p, q⟩ => ⟨h a (by simp) b p, All2.memMono (fun x hx => h x (by simp [hx])) q⟩
theorem Rel.kill {id : Nat} {x : SV} {v : Value} (k : Rel P W M ρ s.heap x v) : Rel P W M ρ (s.kill id).heap (Z1L id x) v := by
 cases x with
 | val x => exact k
 | ptr i off =>
  by_cases e : i = id
  ·subst e; simp only [Z1L, show Nat.beq i i = true by simp, cond_true]; exact True.intro
  ·simp only [Z1L, nbeq e, cond_false]; exact ⟨Z4R e k.1, k.2⟩
 | row i =>
  by_cases e : i = id
  ·subst e; simp only [Z1L, show Nat.beq i i = true by simp, cond_true]; exact True.intro
  ·simp only [Z1L, nbeq e, cond_false]; exact ⟨Z4R e k.1, k.2⟩
 | sub i off m z =>
  by_cases e : i = id
  ·subst e; simp only [Z1L, show Nat.beq i i = true by simp, cond_true]; exact True.intro
  ·simp only [Z1L, nbeq e, cond_false]; exact ⟨Z4R e k.1, k.2⟩
 | clo f l =>
  simp only [Z1L]
  cases hb : l.any (Nat.beq id) with
  | true => exact True.intro
  | false =>
   obtain ⟨vs, h1, h2⟩ := k
   exact ⟨vs, h1, h2.memMono fun i hi b hc => ⟨Z4R (ZG0 hb hi) hc.1, hc.2⟩⟩
 | fn g => exact k
 | tup l =>
  simp only [Z1L]
  cases hb : Zcd id l with
  | true => exact True.intro
  | false =>
   obtain ⟨vs, h1, h2⟩ := k
   refine ⟨vs, h1, h2.memMono fun i hi b hc => ?_⟩
   cases i with
   | v x => exact hc
   | r j =>
    refine ⟨Z4R ?_ hc.1, hc.2⟩
    rintro rfl
    have := List.any_eq_false.1 hb _ hi
    simp at this
 | agr l =>
  simp only [Z1L]
  cases hb : Zcd id l with
  | true => exact True.intro
  | false =>
   obtain ⟨vs, h1, h2⟩ := k
   refine ⟨vs, h1, h2.memMono fun i hi b hc => ?_⟩
   cases i with
   | v x => exact hc
   | r j =>
    refine ⟨Z4R ?_ hc.1, hc.2⟩
    rintro rfl
    have := List.any_eq_false.1 hb _ hi
    simp at this
 | junk => exact k
theorem ZF9 (id : Nat) (b : Blk) : ownB (ZmV id b) = ownB b := by cases b <;> rfl
theorem All2.mapBoth {α β : Type} {R Q : α -> β -> Prop} {f : α -> α} (h : ∀ a b, R a b -> Q (f a) b) : ∀ {l : List α} {m : List β}, All2 R l m -> All2 Q (l.map f) m
 | [], [], _ => True.intro
 | _ :: _, _ :: _, ⟨p, q⟩ => ⟨h _ _ p, All2.mapBoth h q⟩
theorem BRel.kill {id i : Nat} {b : Blk} (k : BRel P W M w ρ s.heap i b) : BRel P W M w ρ (s.kill id).heap i (ZmV id b) := by
 cases b with
 | box e cells =>
  obtain ⟨g, cs, h1, h2, h3, h4⟩ := k
  exact ⟨g, cs, h1, h2, h3, h4.mapBoth fun x y (k : Rel P W M ρ s.heap x y) => k.kill⟩
 | row e sz m c => exact k
 | ros m c => exact k
 | rop cells =>
  obtain ⟨g, o, h1, h2, h3⟩ := k
  refine ⟨g, o, h1, h2, fun j v hv => ?_⟩
  rw [List.getElem?_map] at hv
  cases hc : cells[j]? with
  | none => rw [hc] at hv; cases hv
  | some x =>
   rw [hc] at hv
   obtain rfl : Z1L id x = v := by simpa using hv
   obtain ⟨u, hu, hr⟩ := h3 j x hc
   exact ⟨u, hu, hr.kill⟩
theorem ZmW {id j : Nat} {bj : Blk} (h : (s.kill id).heap j = some bj) : j ≠ id /\ ∃ b, s.heap j = some b /\ bj = ZmV id b := by
 by_cases e : j = id
 ·subst e
  simp only [FSt.kill, show Nat.beq j j = true by simp, cond_true] at h
  cases h
 ·rw [ZuZ e] at h
  cases hs : s.heap j with
  | none => rw [hs] at h; cases h
  | some b => rw [hs] at h; exact ⟨e, b, rfl, by simpa using h.symm⟩
theorem R.kill (h : R P W M n s a w ρ) (id : Nat) (hid : id ≠ 0 /\ id ≠ 1) : R P W M n (s.kill id) a w ρ where
 grown := h.grown
 size := h.size
 defers := h.defers
 slots := fun t => (h.slots t).kill
 heap := fun j bj hb => by
  obtain ⟨_, b, hs, rfl⟩ := ZmW hb
  exact (h.heap j b hs).kill
 apart := fun i j bi bj g hij hi hj oi oj gi => by
  obtain ⟨_, b, hs, rfl⟩ := ZmW hi
  obtain ⟨_, b', hs', rfl⟩ := ZmW hj
  rw [ZF9] at oi oj
  exact h.apart i j b b' g hij hs hs' oi oj gi
 fix := fun v hv => ⟨(h.fix v hv).1, ⟨Z4R (Ne.symm hid.1) (h.fix v hv).2.1.1, (h.fix v hv).2.1.2⟩, fun u hu => ⟨Z4R (Ne.symm hid.2) ((h.fix v hv).2.2 u hu).1, ((h.fix v hv).2.2 u hu).2⟩⟩
theorem ZHa {B : Option Nat} {v : Value} {m : Nat} {c : Cells} (h : Z3i w B v m c) {w' : World} (hg : w.grownBy w' B) : Z3i w' none v m c := by
 refine ⟨h.1, ?_⟩
 rcases h.2 with h0 | ⟨g, o, cap, h1, h2, h3, h4⟩
 ·exact .inl h0
 ·exact .inr ⟨g, o, cap, h1, h2, ⟨by simp, Nat.lt_of_lt_of_le h3.2 hg.size⟩, fun j u hu => World.grownBy.cell hg (h4 j u hu) (fun e => h3.1 e.symm)⟩
theorem ZKR {b e sz m : Nat} {v : Value} {c : Cells} (ho : c.ok) (h : w.ownsRow b e sz v m c.toVals) : Z3i w none v m c := by
 refine ⟨ho, ?_⟩
 rcases h.2 with ⟨h0, h1⟩ | ⟨g, cap, cur, rfl, hb, hg, hc, hm, hz, hx⟩
 ·exact .inl ⟨h0, h1, by have := h.1; rw [h1] at this; simpa using this⟩
 ·refine .inr ⟨g, 0, cap, rfl, hc, ⟨by simp, (Array.getElem?_eq_some_iff.1 hg).1⟩, fun j u hu => ?_⟩
  have := h.cells (g := g) rfl j u hu
  have e : (⟨g, 0, none⟩ : Addr).add j = ⟨g, 0 + j, none⟩ := by unfold Addr.add; split <;> simp_all
  rwa [e] at this
theorem Zkt (h : R P W M n s a w ρ) {id m : Nat} {c : Cells} (hb : s.heap id = some (.ros m c)) : Z3i w none (ρ id) m c := ZHa (h.heap id _ hb) h.grown
theorem ZiD (h : R P W M n s a w ρ) {id e sz m : Nat} {c : Cells} (hb : s.heap id = some (.row e sz m c)) : Z3i w none (ρ id) m c := ZKR (h.heap id _ hb).1 (h.heap id _ hb).2.1
theorem Zo1 : ∀ {l : List SV} {m vs : List Value}, SV.vals l = some vs -> All2 (Rel P W M ρ H) l m -> m = vs
 | [], [], vs, h, _ => by simpa [SV.vals] using h
 | .val x :: l, b :: m, vs, h, ⟨p, q⟩ => by
  simp only [SV.vals] at h
  split at h
  ·rename_i l' hl
   simp only [Option.some.injEq] at h
   subst h
   rw [Zo1 hl q, show b = x from p]
  ·cases h
 | .ptr .. :: _, _ :: _, _, h, _ => by simp [SV.vals] at h
 | .row .. :: _, _ :: _, _, h, _ => by simp [SV.vals] at h
 | .sub .. :: _, _ :: _, _, h, _ => by simp [SV.vals] at h
 | .clo .. :: _, _ :: _, _, h, _ => by simp [SV.vals] at h
 | .fn .. :: _, _ :: _, _, h, _ => by simp [SV.vals] at h
 | .tup .. :: _, _ :: _, _, h, _ => by simp [SV.vals] at h
 | .junk :: _, _ :: _, _, h, _ => by simp [SV.vals] at h
theorem ZhM : ∀ {l : List Value} {m : List Int}, Z2k l = some m -> l = m.map (Value.int .i64)
 | [], m, h => by simp only [Z2k, Option.some.injEq] at h; subst h; rfl
 | .int .i64 x :: l, m, h => by
  simp only [Z2k] at h
  split at h
  ·rename_i m' hm
   simp only [Option.some.injEq] at h
   subst h
   rw [ZhM hm]
   rfl
  ·cases h
 | .int .i8 _ :: _, _, h => by simp [Z2k] at h
 | .int .i16 _ :: _, _, h => by simp [Z2k] at h
 | .int .i32 _ :: _, _, h => by simp [Z2k] at h
 | .int .u8 _ :: _, _, h => by simp [Z2k] at h
 | .int .u16 _ :: _, _, h => by simp [Z2k] at h
 | .int .u32 _ :: _, _, h => by simp [Z2k] at h
 | .int .u64 _ :: _, _, h => by simp [Z2k] at h
 | .bool _ :: _, _, h => by simp [Z2k] at h
 | .float _ _ :: _, _, h => by simp [Z2k] at h
 | .complex _ _ _ :: _, _, h => by simp [Z2k] at h
 | .string _ :: _, _, h => by simp [Z2k] at h
 | .pointer _ :: _, _, h => by simp [Z2k] at h
 | .slice _ _ _ :: _, _, h => by simp [Z2k] at h
 | .map _ :: _, _, h => by simp [Z2k] at h
 | .chan _ :: _, _, h => by simp [Z2k] at h
 | .func _ _ _ :: _, _, h => by simp [Z2k] at h
 | .nilFunc :: _, _, h => by simp [Z2k] at h
 | .iface _ _ :: _, _, h => by simp [Z2k] at h
 | .nilIface :: _, _, h => by simp [Z2k] at h
 | .agg _ :: _, _, h => by simp [Z2k] at h
 | .tuple _ :: _, _, h => by simp [Z2k] at h
theorem ZwC : ∀ {l : List Value} {m : List Int}, Z4c l = some m -> l = m.map (Value.int .u8)
 | [], m, h => by simp only [Z4c, Option.some.injEq] at h; subst h; rfl
 | .int .u8 x :: l, m, h => by
  simp only [Z4c] at h
  split at h
  ·rename_i m' hm
   simp only [Option.some.injEq] at h
   subst h
   rw [ZwC hm]
   rfl
  ·cases h
 | .int .i8 _ :: _, _, h => by simp [Z4c] at h
 | .int .i16 _ :: _, _, h => by simp [Z4c] at h
 | .int .i32 _ :: _, _, h => by simp [Z4c] at h
 | .int .i64 _ :: _, _, h => by simp [Z4c] at h
 | .int .u16 _ :: _, _, h => by simp [Z4c] at h
 | .int .u32 _ :: _, _, h => by simp [Z4c] at h
 | .int .u64 _ :: _, _, h => by simp [Z4c] at h
 | .bool _ :: _, _, h => by simp [Z4c] at h
 | .float _ _ :: _, _, h => by simp [Z4c] at h
 | .complex _ _ _ :: _, _, h => by simp [Z4c] at h
 | .string _ :: _, _, h => by simp [Z4c] at h
 | .pointer _ :: _, _, h => by simp [Z4c] at h
 | .slice _ _ _ :: _, _, h => by simp [Z4c] at h
 | .map _ :: _, _, h => by simp [Z4c] at h
 | .chan _ :: _, _, h => by simp [Z4c] at h
 | .func _ _ _ :: _, _, h => by simp [Z4c] at h
 | .nilFunc :: _, _, h => by simp [Z4c] at h
 | .iface _ _ :: _, _, h => by simp [Z4c] at h
 | .nilIface :: _, _, h => by simp [Z4c] at h
 | .agg _ :: _, _, h => by simp [Z4c] at h
 | .tuple _ :: _, _, h => by simp [Z4c] at h
theorem ZwT : ∀ {l : List Value} {m : List ByteArray}, Z4i l = some m -> l = m.map Value.string
 | [], m, h => by simp only [Z4i, Option.some.injEq] at h; subst h; rfl
 | .string x :: l, m, h => by
  simp only [Z4i] at h
  split at h
  ·rename_i m' hm
   simp only [Option.some.injEq] at h
   subst h
   rw [ZwT hm]
   rfl
  ·cases h
 | .int .i8 _ :: _, _, h => by simp [Z4i] at h
 | .int .i16 _ :: _, _, h => by simp [Z4i] at h
 | .int .i32 _ :: _, _, h => by simp [Z4i] at h
 | .int .i64 _ :: _, _, h => by simp [Z4i] at h
 | .int .u16 _ :: _, _, h => by simp [Z4i] at h
 | .int .u32 _ :: _, _, h => by simp [Z4i] at h
 | .int .u64 _ :: _, _, h => by simp [Z4i] at h
 | .bool _ :: _, _, h => by simp [Z4i] at h
 | .float _ _ :: _, _, h => by simp [Z4i] at h
 | .complex _ _ _ :: _, _, h => by simp [Z4i] at h
 | .int .u8 _ :: _, _, h => by simp [Z4i] at h
 | .pointer _ :: _, _, h => by simp [Z4i] at h
 | .slice _ _ _ :: _, _, h => by simp [Z4i] at h
 | .map _ :: _, _, h => by simp [Z4i] at h
 | .chan _ :: _, _, h => by simp [Z4i] at h
 | .func _ _ _ :: _, _, h => by simp [Z4i] at h
 | .nilFunc :: _, _, h => by simp [Z4i] at h
 | .iface _ _ :: _, _, h => by simp [Z4i] at h
 | .nilIface :: _, _, h => by simp [Z4i] at h
 | .agg _ :: _, _, h => by simp [Z4i] at h
 | .tuple _ :: _, _, h => by simp [Z4i] at h
theorem Zke (l : List Value) : (cellsOf l).toVals = l := by
 unfold cellsOf
 cases h : Z2k l with
 | none =>
  cases k : Z4c l with
  | none =>
   cases q : Z4i l with
   | none => rfl
   | some m => exact (ZwT q).symm
  | some m => exact (ZwC k).symm
 | some m => exact (ZhM h).symm
theorem ZI3 (P : Program) (e : TypeId) (l : List Value) : (ZAa P e l).toVals = l := by
 cases l with
 | nil =>
  show (ZK2 P e).toVals = []
  unfold ZK2
  split <;> rfl
 | cons x l => exact Zke (x :: l)
theorem ZKI {c : Cells} (h : c.okB = true) : c.ok := by
 cases c with
 | ints l => exact True.intro
 | byts l => exact True.intro
 | strs l => exact True.intro
 | vals l => exact fun u hu => List.all_eq_true.1 h u hu
theorem ZNM {c : Cells} (h : c.ok) (lo k : Nat) : (c.cut lo k).ok := by
 cases c with
 | ints l => exact True.intro
 | byts l => exact True.intro
 | strs l => exact True.intro
 | vals l => exact fun u hu => h u (List.mem_of_mem_drop (List.mem_of_mem_take hu))
theorem ZIb (c : Cells) (lo k : Nat) : (c.cut lo k).toVals = (c.toVals.drop lo).take k := by
 cases c with
 | ints l => simp [Cells.cut, Cells.toVals, List.map_take, List.map_drop]
 | byts l => simp [Cells.cut, Cells.toVals, List.map_take, List.map_drop]
 | strs l => simp [Cells.cut, Cells.toVals, List.map_take, List.map_drop]
 | vals l => rfl
theorem ZLg (c : Cells) (lo : Nat) : (c.cut lo 0).toVals = [] := by
 rw [ZIb, List.take_zero]
theorem ZM3 {v x : Value} {m k cap lo sz : Nat} {q : Option Addr} {c : Cells} (h : Z3i w none v m c) (hx : x = .slice q k cap) (hq : ZPG v lo k q cap) : Z3i w none x k (c.cut lo (k * sz)) := by
 rcases hq with ⟨rfl, rfl, rfl⟩ | ⟨g, o, o', ha, rfl, hk, ho⟩
 ·exact ⟨ZNM h.1 _ _, .inl ⟨hx, rfl, by rw [Nat.zero_mul]; exact ZLg c lo⟩⟩
 have hlt : g < w.heap.size := by
  rcases h.2 with ⟨rfl, _⟩ | ⟨g', o', cap', rfl, h2, h3, h4⟩
  ·cases ha
  ·obtain ⟨rfl, rfl⟩ : g' = g /\ o' = o := by simpa [atOf] using ha
   exact h3.2
 refine ⟨ZNM h.1 _ _, .inr ⟨g, o', cap, hx, hk, ⟨by simp, hlt⟩, fun j u hu => ?_⟩⟩
 rcases Nat.eq_zero_or_pos k with hk0 | hk0
 ·subst hk0
  rw [Nat.zero_mul, ZLg] at hu
  simp at hu
 obtain rfl := ho hk0
 rcases h.2 with ⟨rfl, _⟩ | ⟨g', o', cap', rfl, h2, h3, h4⟩
 ·cases ha
 ·obtain ⟨rfl, rfl⟩ : g' = g /\ o' = o := by simpa [atOf] using ha
  rw [ZIb] at hu
  have hj : j < k * sz := by
   rcases Nat.lt_or_ge j (k * sz) with hj | hj
   ·exact hj
   ·rw [List.getElem?_eq_none (by simp; omega)] at hu; cases hu
  rw [List.getElem?_take_of_lt hj, List.getElem?_drop] at hu
  have := h4 (lo + j) u hu
  rwa [<- Nat.add_assoc] at this
theorem ZQ5 (h : R P W M n s a w ρ) {id g o : Nat} {e : TypeId} {cells : List SV} (hb : s.heap id = some (.box e cells)) (ha : atOf (ρ id) = some (g, o)) : g < w.heap.size := by
 obtain ⟨g', cs, h1, h2, h3, h4⟩ := h.heap id _ hb
 rw [h1] at ha
 obtain ⟨rfl, _⟩ : g' = g /\ 0 = o := by simpa [atOf] using ha
 exact (Array.getElem?_eq_some_iff.1 h3).1
theorem ZgA (h : R P W M n s a w ρ) {id g o : Nat} {cells : List SV} {b : Blk} (hb : s.heap id = some b) (hc : b = .rop cells \/ ∃ e, b = .box e cells) (ha : atOf (ρ id) = some (g, o)) :
  ∀ j x, cells[j]? = some x -> ∃ u, w.cell? ⟨g, o + j, none⟩ = some u /\ Rel P W M ρ s.heap x u := by
 intro j x hx
 have k := h.heap id b hb
 rcases hc with rfl | ⟨e, rfl⟩
 ·obtain ⟨g', o', h1, h2, h3⟩ := k
  rw [h1] at ha
  obtain ⟨rfl, rfl⟩ : g' = g /\ o' = o := by simpa [atOf] using ha
  obtain ⟨u, hu, hr⟩ := h3 j x hx
  exact ⟨u, World.grownBy.cell h.grown hu (fun e => h2 e.symm), hr⟩
 ·obtain ⟨g', cs, h1, h2, h3, h4⟩ := k
  rw [h1] at ha
  obtain ⟨rfl, rfl⟩ : g' = g /\ 0 = o := by simpa [atOf] using ha
  obtain ⟨u, hu, hr⟩ := h4.get hx
  refine ⟨u, ?_, hr⟩
  simp only [World.cell?, h3, Nat.zero_add]
  simpa using hu
theorem ZtI : ∀ {l : List SV} {vs : List Value}, SV.vals l = some vs -> ∀ {j : Nat} {u : Value}, vs[j]? = some u -> l[j]? = some (.val u)
 | [], vs, h, j, u, hu => by simp only [SV.vals, Option.some.injEq] at h; subst h; simp at hu
 | .val x :: l, vs, h, j, u, hu => by
  simp only [SV.vals] at h
  split at h
  ·rename_i l' hl
   simp only [Option.some.injEq] at h
   subst h
   cases j with
   | zero => simp at hu; subst hu; rfl
   | succ j => simp at hu; simpa using ZtI hl hu
  ·cases h
 | .ptr .. :: _, _, h, _, _, _ => by simp [SV.vals] at h
 | .row .. :: _, _, h, _, _, _ => by simp [SV.vals] at h
 | .sub .. :: _, _, h, _, _, _ => by simp [SV.vals] at h
 | .clo .. :: _, _, h, _, _, _ => by simp [SV.vals] at h
 | .fn .. :: _, _, h, _, _, _ => by simp [SV.vals] at h
 | .tup .. :: _, _, h, _, _, _ => by simp [SV.vals] at h
 | .junk :: _, _, h, _, _, _ => by simp [SV.vals] at h
theorem ZI1 (h : R P W M n s a w ρ) (hg : w.grownBy w' none) {id : Nat} {pv : PV} {x : Value} (hc : CapRel ρ s.heap id x) (hp : Zpc s.heap id = some pv) : Z7T P w' pv x := by
 obtain ⟨hl, g, o, ha, rfl⟩ := hc
 have cell : ∀ {g o : Nat} {u : Value}, w.cell? ⟨g, o, none⟩ = some u -> w'.cell? ⟨g, o, none⟩ = some u := fun hu => World.grownBy.cell hg hu (by simp)
 have rowcase : ∀ (cells : List SV) (b : Blk) (i : Nat), s.heap id = some b -> (b = .rop cells \/ ∃ e, b = .box e cells) -> cells = [.row i] -> (match s.heap i with | some (.row _ _ n c) => some (PV.ps n c) | some (.ros n c) => some (.ps n c) | _ => none) = some pv -> Z7T P w' pv (.pointer (some ⟨g, o, none⟩)) := by
  intro cells b i hb hk Zki hm
  obtain ⟨u, hu, hr⟩ := ZgA h hb hk ha 0 (.row i) (by simp [Zki])
  obtain ⟨hl, rfl⟩ := hr
  have hu' := cell hu
  cases hi : s.heap i with
  | none => rw [hi] at hm; cases hm
  | some bi =>
   rw [hi] at hm
   cases bi with
   | row e sz m c =>
    simp only [Option.some.injEq] at hm; subst hm
    exact ⟨g, o, _, rfl, hu', ZHa (ZiD h hi) hg⟩
   | ros m c =>
    simp only [Option.some.injEq] at hm; subst hm
    exact ⟨g, o, _, rfl, hu', ZHa (Zkt h hi) hg⟩
   | box _ _ => cases hm
   | rop _ => cases hm
 have valcase : ∀ (cells : List SV) (b : Blk), s.heap id = some b -> (b = .rop cells \/ ∃ e, b = .box e cells) -> (match SV.vals cells with | some l => some (PV.p l) | none => none) = some pv -> Z7T P w' pv (.pointer (some ⟨g, o, none⟩)) := by
  intro cells b hb hk hm
  cases hv : SV.vals cells with
  | none => rw [hv] at hm; cases hm
  | some l =>
   rw [hv] at hm
   simp only [Option.some.injEq] at hm; subst hm
   refine ⟨g, o, rfl, fun j u hu => cell ?_⟩
   obtain ⟨u', hu', hr⟩ := ZgA h hb hk ha j _ (ZtI hv hu)
   rw [show u' = u from hr] at hu'
   exact hu'
 have fncase : ∀ (cells : List SV) (b : Blk) (f : List Value -> Option (Bool × Value)), s.heap id = some b -> (b = .rop cells \/ ∃ e, b = .box e cells) -> cells = [.fn f] -> some (PV.pf f) = some pv -> Z7T P w' pv (.pointer (some ⟨g, o, none⟩)) := by
  intro cells b f hb hk Zki hm
  simp only [Option.some.injEq] at hm; subst hm
  obtain ⟨u, hu, hr⟩ := ZgA h hb hk ha 0 (.fn f) (by simp [Zki])
  obtain ⟨fi, caps, h1, h2, h3⟩ := hr
  exact ⟨g, o, u, rfl, cell hu, fi, caps, h1, h2, fun w2 hw => h3 w2 (Zbg (Zbg h.grown hg fun _ e => by cases e) hw fun _ e => by cases e)⟩
 unfold Zpc at hp
 split at hp
 ·rename_i i hb; exact rowcase _ _ i hb (.inr ⟨_, rfl⟩) rfl hp
 ·rename_i i hb; exact rowcase _ _ i hb (.inl rfl) rfl hp
 ·rename_i f hb; exact fncase _ _ f hb (.inr ⟨_, rfl⟩) rfl hp
 ·rename_i f hb; exact fncase _ _ f hb (.inl rfl) rfl hp
 ·rename_i hb; exact valcase _ _ hb (.inr ⟨_, rfl⟩) hp
 ·rename_i hb; exact valcase _ _ hb (.inl rfl) hp
 ·cases hp
theorem All2.join {α β γ : Type} {R : α -> β -> Prop} {Q : α -> γ -> Prop} {T : β -> γ -> Prop} (h : ∀ a b c, R a b -> Q a c -> T b c) : ∀ {l : List α} {m : List β} {k : List γ}, All2 R l m -> All2 Q l k -> All2 T m k
 | [], [], [], _, _ => True.intro
 | _ :: _, _ :: _, _ :: _, ⟨p, q⟩, ⟨p', q'⟩ => ⟨h _ _ _ p p', All2.join h q q'⟩
theorem ZIJ {b : World} (h : W.grownBy b (mB M)) (k : b.grownBy w none) : W.grownBy w (mB M) := Zbg h k fun _ e => by cases e
theorem ZNJ {S : Sums} (hS : Zc6 P S W M) (h : R P W M n s a w ρ) {f : Nat} {l : List Nat} {v : Value} {g : List Value -> Option (Bool × Value)} (hr : Rel P W M ρ s.heap (.clo f l) v) (hg : ZhF S s.heap f l = some g) : ZL3 P w none v g := by
 obtain ⟨vs, rfl, hc⟩ := hr
 unfold ZhF at hg
 split at hg
 ·rename_i run cs hrun hcs
  simp only [Option.some.injEq] at hg
  subst hg
  obtain ⟨hcall, hsound⟩ := hS.1.1 f run hrun
  refine ⟨f, vs.toArray, rfl, hcall, fun w' hw args r hr => ?_⟩
  have hr' : run (args.map PV.v ++ cs) = some (true, [.v r]) := by
   dsimp only at hr
   split at hr
   ·rename_i c r' he
    simp only [Option.some.injEq, Prod.mk.injEq] at hr
    obtain ⟨rfl, rfl⟩ := hr
    exact he
   ·cases hr
  have hargs : All2 (Z7T P w') (args.map PV.v ++ cs) (args ++ vs) := by
   refine All2.app (All2.mapL _ ?_) (All2.join (T := Z7T P w') (fun id pv x (hp : Zpc s.heap id = some pv) (hx : CapRel ρ s.heap id x) => ZI1 h hw hx hp) (Zeu hcs) hc)
   have := All2.of_map (R := fun (c : Value) b => Z7T P w' (PV.v c) b) id args (fun a _ => rfl)
   simpa using this
  have := hsound w' _ _ _ ((h.gok hS.2).grown hw fun _ e => by cases e) hargs hr'
  rw [show (args ++ vs).toArray = args.toArray ++ vs.toArray from by simp] at this
  exact this.mono fun e w2 ⟨rv, he, hres, hgr⟩ => ⟨by rw [he, show rv = r from hres], hgr⟩
 ·cases hg
theorem ZL5 {S : Sums} (hS : Zc6 P S W M) (h : R P W M n s a w ρ) {x : SV} {v : Value} {pv : PV} (hr : Rel P W M ρ s.heap x v) (hp : PVof s.heap (ZhF S s.heap) x = some pv) : Z7T P w pv v := by
 unfold PVof at hp
 split at hp
 ·simp only [Option.some.injEq] at hp; subst hp
  exact ⟨True.intro, .inl ⟨hr, rfl, rfl⟩⟩
 ·simp only [Option.some.injEq] at hp; subst hp; exact hr
 ·rename_i id
  obtain ⟨hl, rfl⟩ := hr
  split at hp
  ·rename_i hb; simp only [Option.some.injEq] at hp; subst hp; exact ZiD h hb
  ·rename_i hb; simp only [Option.some.injEq] at hp; subst hp; exact Zkt h hb
  ·cases hp
 ·rename_i id off k sz
  obtain ⟨hl, q, cap, rfl, hq⟩ := hr
  split at hp
  ·rename_i hb
   simp only [Option.some.injEq] at hp; subst hp; exact ZM3 (ZiD h hb) rfl hq
  ·rename_i hb
   simp only [Option.some.injEq] at hp; subst hp; exact ZM3 (Zkt h hb) rfl hq
  ·rename_i e cells hb
   split at hp
   ·rename_i l hv
    split at hp
    ·rename_i hck
     simp only [Option.some.injEq] at hp; subst hp
     simp only [Bool.and_eq_true] at hck
     have hll := Nat.eq_of_beq_eq_true hck.1
     rcases hq with ⟨rfl, rfl, rfl⟩ | ⟨g, o, o', ha, rfl, hk, ho⟩
     ·refine ⟨ZKI hck.2, .inl ⟨rfl, rfl, ?_⟩⟩
      rw [Zke]
      exact List.eq_nil_of_length_eq_zero (by rw [hll, Nat.zero_mul])
     refine ⟨ZKI hck.2, .inr ⟨g, o', cap, rfl, hk, ⟨by simp, ZQ5 h hb ha⟩, fun j u hu => ?_⟩⟩
     rw [Zke] at hu
     rcases Nat.eq_zero_or_pos k with hk0 | hk0
     ·subst hk0
      have hl0 : l = [] := List.eq_nil_of_length_eq_zero (by rw [hll, Nat.zero_mul])
      rw [hl0] at hu
      simp at hu
     obtain rfl := ho hk0
     have hj := ZtI hv hu
     have hjk : j < k * sz := by
      rcases Nat.lt_or_ge j (k * sz) with hj' | hj'
      ·exact hj'
      ·rw [List.getElem?_eq_none (by simp; omega)] at hj; cases hj
     rw [List.getElem?_take_of_lt hjk, List.getElem?_drop] at hj
     obtain ⟨u', hu', hr⟩ := ZgA h hb (.inr ⟨_, rfl⟩) ha (off + j) _ hj
     rw [show u' = u from hr, <- Nat.add_assoc] at hu'
     exact hu'
    ·cases hp
   ·cases hp
  ·cases hp
 ·split at hp
  ·rename_i g hg
   simp only [Option.some.injEq] at hp; subst hp
   exact ZNJ hS h hr hg
  ·cases hp
 ·simp only [Option.some.injEq] at hp; subst hp
  obtain ⟨f, caps, h1, h2, h3⟩ := hr
  exact ⟨f, caps, h1, h2, fun w' hw => h3 w' (ZIJ h.grown hw)⟩
 ·cases hp
end

section
variable {P : Program} {S : Sums} {W : World} {M : MV} {n : Nat} {s : FSt} {a : Act} {w w' : World} {ρ ρ' : Nat -> Value} {H : Nat -> Option Blk} {o : Oper} {r : Out} {Q : Exit -> Act -> World -> Prop} {K : Act -> World -> Prop}
theorem ZHB {v : Value} (h : (execOp a.eval o).run P w = .ok (.value v) w') (k : K (a.put o.dst v) w') : o.wp P a w K Q := by
 unfold Oper.wp; rw [h]; exact k
theorem ZOR (h : (execOp a.eval o).run P w = .ok .skip w') (k : K (a.put o.dst undef) w') : o.wp P a w K Q := by
 unfold Oper.wp; rw [h]; exact k
def Goal (P : Program) (W : World) (M : MV) (n : Nat) (o : Oper) (s : FSt) (r : Out) (a : Act) (w : World) (Q : Exit -> Act -> World -> Prop) : Prop :=
 o.wp P a w (fun a' w' => ∃ ρ', R P W M n (s.apply o.dst r) a' w' ρ') Q
theorem Z0j (h : R P W M n s a w ρ) (hd : Z0F n o.dst = true) {c : Bool} {x : SV} {v : Value} (hr : (execOp a.eval o).run P w = .ok (.value v) w) (hx : o.dst = none \/ Rel P W M ρ s.heap x v) : Goal P W M n o s (.pure c x) a w Q :=
 ZHB hr ⟨ρ, h.put hd hx⟩
theorem ZKd (h : R P W M n s a w ρ) {x : Operand} (hv : (s.ev x).isVal = true) : s.evV x = a.eval x := by
 have := h.ev x
 unfold FSt.evV
 cases hx : s.ev x with
 | val v => rw [hx] at this; exact this.symm
 | _ => rw [hx] at hv; cases hv
theorem Z2j (h : R P W M n s a w ρ) {x : Operand} {v : Value} (hv : s.ev x = .val v) : a.eval x = v := by
 have := h.ev x
 rw [hv] at this
 exact this
theorem Zq {α β : Type} {m : Sem α} {f : α -> Sem β} {x : α} {w1 : World} (h : m.run P w = .ok x w1) : (m >>= f).run P w = (f x).run P w1 := by
 rw [Sem.run_bind, h]
 rfl
theorem ZgK (h : R P W M n s a w ρ) (hd : Z0F n o.dst = true) (ho : (∃ op t x y u, o.op = .binOp op t x y u) \/ (∃ op t x, o.op = .unOp op t x) \/ (∃ t ps, o.op = .build t ps) \/ (∃ t x f, o.op = .field t x f) \/ (∃ t u x, o.op = .convert t u x))
  (hr : Zn4 P s o = some r) : Goal P W M n o s r a w Q := by
 unfold Zn4 at hr
 split at hr
 ·rename_i hall
  have hev : ∀ x ∈ o.op.operands.toList, s.evV x = a.eval x := fun x hx => ZKd h (List.all_eq_true.1 hall x hx)
  have hcong : execOp s.evV o = execOp a.eval o := by
   rcases ho with ⟨op, t, x, y, u, ho⟩ | ⟨op, t, x, ho⟩ | ⟨t, ps, ho⟩ | ⟨t, x, f, ho⟩ | ⟨t, u, x, ho⟩
   all_goals rw [ho] at hev
   ·have e1 := hev x (by simp [Op.operands]); have e2 := hev y (by simp [Op.operands])
    simp only [execOp, ho, e1, e2]
   ·have e1 := hev x (by simp [Op.operands])
    simp only [execOp, ho, e1]
   ·have e : (ps.map fun (i, x) => (i, s.evV x)) = ps.map fun (i, x) => (i, a.eval x) := by
     apply Array.map_congr_left
     intro p hp
     have := hev p.2 (by simp only [Op.operands]; simp; exact ⟨p.1, by simpa using hp⟩)
     simp [this]
    simp only [execOp, ho]
    rw [e]
   ·have e1 := hev x (by simp [Op.operands])
    simp only [execOp, ho, e1]
   ·have e1 := hev x (by simp [Op.operands])
    simp only [execOp, ho, e1]
  split at hr
  ·rename_i v hs
   simp only [Option.some.injEq] at hr
   subst hr
   rw [hcong] at hs
   exact Z0j h hd (Z5w hs w) (.inr rfl)
  ·cases hr
 ·cases hr
theorem Zsg (h : R P W M n s a w ρ) (hd : Z0F n o.dst = true) {i : Nat} {b : Blk} {x : SV} {v u : Value} {c : Bool} (hf : s.fresh [(i, b)] = true)
  (hr : (execOp a.eval o).run P w = .ok (.value v) w') (hg : w.grownBy w' none)
  (hb : BRel P W M w' (fun x => if x = i then u else ρ x) (s.set i b).heap i b)
  (hap : ownB b = true -> ∀ g, Z2Q u = some g -> w.heap.size <= g)
  (hx : (∀ H, (H i).isSome = true -> Rel P W M (fun x => if x = i then u else ρ x) H x v)) : Goal P W M n o s ⟨c, x, [(i, b)], none, none⟩ a w Q := by
 have hi : s.heap i = none := by
  simp only [FSt.fresh] at hf
  split at hf
  ·cases hf
  ·assumption
 refine ZHB hr ⟨_, R.put (R.new (h.ext hg) hi hb fun ob g hgu j bj hj oj gj => ?_) hd (.inr (hx _ ?_))⟩
 ·have := ZH1 (h.heap j bj hj) oj gj
  have := hap ob g hgu
  omega
 ·show (bif Nat.beq i i then some b else s.heap i).isSome = true
  simp
theorem ZmB (w : World) (o : Obj) : w.grownBy (w.alloc o) none := World.grownBy_alloc w o none
theorem Zzb (h : R P W M n s a w ρ) : Own W M w.heap.size := .inl h.grown.size
theorem ZLc (h : R P W M n s a w ρ) {i : Nat} {e : TypeId} {cells : List SV} {cs : Array Value} (hc : All2 (Rel P W M ρ s.heap) cells cs.toList) (hi : s.heap i = none) :
  BRel P W M (w.alloc (.cells cs e)) (fun x => if x = i then .pointer (some ⟨w.heap.size, 0, none⟩) else ρ x) (s.set i (.box e cells)).heap i (.box e cells) := by
 refine ⟨w.heap.size, cs, if_pos rfl, Zzb h, Deep.blk_alloc_new w _, hc.mono fun x y k => k.mono fun id hid => ?_⟩
 have hne : id ≠ i := by rintro rfl; rw [hi] at hid; cases hid
 exact ⟨by simp only [FSt.set, nbeq hne, cond_false]; exact hid, if_neg hne⟩
theorem ZAW {i : Nat} {b : Blk} (hf : s.fresh [(i, b)] = true) : s.heap i = none := by
 simp only [FSt.fresh] at hf
 split at hf
 ·cases hf
 ·assumption
theorem ZBz (l : List Value) : All2 (Rel P W M ρ H) (l.map SV.val) l := by
 induction l with
 | nil => exact True.intro
 | cons a l ih => exact ⟨rfl, ih⟩
theorem ZET (h : R P W M n s a w ρ) (hd : Z0F n o.dst = true) {x : Operand} (ho : o.op = .move x \/ o.op = .assign x)
  (hr : some (Out.pure true (s.ev x)) = some r) : Goal P W M n o s r a w Q := by
 have hrun : (execOp a.eval o).run P w = .ok (.value (a.eval x)) w := by rcases ho with ho | ho <;> simp only [execOp, ho] <;> rfl
 simp only [Option.some.injEq] at hr
 subst hr
 exact Z0j h hd hrun (.inr (h.ev x))
theorem ZMM (h : R P W M n s a w ρ) (hd : Z0F n o.dst = true) {c x y : Operand} (ho : o.op = .pick c x y)
  (hr : (match s.ev c with
  | .val (.bool t) => match t with
   | true => some (Out.pure true (s.ev x))
   | false => some (.pure true (s.ev y))
  | _ => none) = some r) : Goal P W M n o s r a w Q := by
 split at hr
 ·rename_i t hc
  have hc' := Z2j h hc
  cases t <;> simp only [Option.some.injEq] at hr <;> subst hr
  ·exact Z0j h hd (v := a.eval y) (by simp only [execOp, ho, hc']; rfl) (.inr (h.ev y))
  ·exact Z0j h hd (v := a.eval x) (by simp only [execOp, ho, hc']; rfl) (.inr (h.ev x))
 ·cases hr
theorem ZKe (h : R P W M n s a w ρ) (hd : Z0F n o.dst = true) {e : TypeId} (ho : o.op = .alloc e)
  (hr : (match o.dst, Zt P (zeroValue e) with
  | some d, some z => some (⟨true, .ptr (4 * d) 0, [(4 * d, .box e (z.cells.toList.map .val))], none, none⟩ : Out)
  | _, _ => none) = some r) (hf : s.fresh r.news = true) : Goal P W M n o s r a w Q := by
 split at hr
 ·rename_i d z hdst hz
  simp only [Option.some.injEq] at hr
  subst hr
  have hz' := Z5w hz w
  refine Zsg (w' := w.alloc (.cells z.cells e)) (v := .pointer (some ⟨w.heap.size, 0, none⟩)) h hd hf ?_ (ZmB _ _) (ZLc h (ZBz _) (ZAW hf)) (fun _ g hg => ?_) (fun H hH => ⟨hH, w.heap.size, 0, ?_, rfl⟩)
  ·simp only [execOp, ho, Instr.alloc, newVar, newRow]
   simp [Sem.run_bind, hz']
  ·obtain rfl : w.heap.size = g := by simpa [Z2Q, atOf] using hg
   exact Nat.le_refl _
  ·simp only [if_true]; rfl
 ·cases hr
theorem ZH9 (h : R P W M n s a w ρ) {id : Nat} (hl : (s.heap id).isSome = true) : (ρ id).cells = #[ρ id] /\ (ρ id).oneCell' = true := by
 cases hb : s.heap id with
 | none => rw [hb] at hl; cases hl
 | some b =>
  have k := h.heap id b hb
  cases b with
  | box e cells => obtain ⟨g, cs, h1, _⟩ := k; rw [h1]; exact ⟨rfl, rfl⟩
  | row e sz m c => rcases k.2.1.2 with ⟨h1, _⟩ | ⟨g, cap, cur, h1, _⟩ <;> rw [h1] <;> exact ⟨rfl, rfl⟩
  | ros m c => rcases k.2 with ⟨h1, _⟩ | ⟨g, o, cap, h1, _⟩ <;> rw [h1] <;> exact ⟨rfl, rfl⟩
  | rop cells => obtain ⟨g, o, h1, _⟩ := k; rw [h1]; exact ⟨rfl, rfl⟩
theorem ZFb (h : R P W M n s a w ρ) {x : SV} {v : Value} (hx : Rel P W M ρ s.heap x v) (hj : x ≠ .junk) : All2 (Rel P W M ρ s.heap) x.parts v.cells.toList := by
 cases x with
 | val y =>
  rw [show v = y from hx]
  exact ZBz _
 | ptr i off => have hx' := hx; obtain ⟨_, g, o, _, rfl⟩ := hx'; exact ⟨hx, True.intro⟩
 | row i =>
  have hx' := hx
  obtain ⟨hl, rfl⟩ := hx'
  rw [(ZH9 h hl).1]
  exact ⟨hx, True.intro⟩
 | sub i off m z => have hx' := hx; obtain ⟨_, q, cap, rfl, _⟩ := hx'; exact ⟨hx, True.intro⟩
 | clo f l => have hx' := hx; obtain ⟨vs, rfl, _⟩ := hx'; exact ⟨hx, True.intro⟩
 | fn g => have hx' := hx; obtain ⟨f, caps, rfl, _⟩ := hx'; exact ⟨hx, True.intro⟩
 | tup l => have hx' := hx; obtain ⟨vs, rfl, _⟩ := hx'; exact ⟨hx, True.intro⟩
 | agr l =>
  obtain ⟨vs, rfl, hall⟩ := hx
  have key : ∀ {l : List TI} {vs : List Value}, All2 (TIRel ρ s.heap) l vs -> All2 (Rel P W M ρ s.heap) (l.map tiSV) vs := by
   intro l
   induction l with
   | nil => intro vs h; cases vs with
    | nil => exact True.intro
    | cons v vs => cases h
   | cons x l ih => intro vs h; cases vs with
    | nil => cases h
    | cons v vs =>
     refine ⟨?_, ih h.2⟩
     cases x with
     | v y => exact h.1
     | r id => exact h.1
  exact key hall
 | junk => exact absurd rfl hj
theorem ZEO {v : Value} {off : Nat} (ho : 1 <= off) : ∀ (l : List (Value × Nat)) (cs : Array Value), l.foldl (fun cs x => cs.setIfInBounds (off + x.2) x.1) (cs.setIfInBounds 0 v) = (l.foldl (fun cs x => cs.setIfInBounds (off + x.2) x.1) cs).setIfInBounds 0 v
 | [], cs => rfl
 | (c, j) :: l, cs => by
  simp only [List.foldl_cons]
  rw [<- ZEO ho l, Array.setIfInBounds_comm _ _ (by omega)]
theorem ZEJ {v : Value} {places : Array (Nat × Nat)} : ∀ (l : List (Nat × Value)) (cs : Array Value), (∀ q ∈ l, ZOq places q.1 = true) -> Instr.fill (places[·]?) (cs.setIfInBounds 0 v) l = (Instr.fill (places[·]?) cs l).map fun c => c.setIfInBounds 0 v
 | [], cs, _ => rfl
 | (i, x) :: l, cs, h => by
  have h0 := h (i, x) List.mem_cons_self
  unfold ZOq at h0
  simp only [Instr.fill]
  split at h0
  ·rename_i o z hp
   have h0 := Nat.le_of_ble_eq_true h0
   dsimp only at hp
   rw [hp]
   dsimp only
   rw [Array.size_setIfInBounds]
   split
   ·rfl
   ·rw [<- ZEJ l _ (fun q hq => h q (List.mem_cons_of_mem _ hq)), <- Array.foldl_toList, <- Array.foldl_toList, ZEO h0]
  ·cases h0
theorem ZEK {places : Array (Nat × Nat)} : ∀ (l : List (Nat × Value)) (cs c : Array Value), Instr.fill (places[·]?) cs l = some c -> c.size = cs.size
 | [], cs, c, h => by simp only [Instr.fill, Option.some.injEq] at h; subst h; rfl
 | (i, x) :: l, cs, c, h => by
  have key : ∀ (off : Nat) (m : List (Value × Nat)) (cs : Array Value), (m.foldl (fun cs x => cs.setIfInBounds (off + x.2) x.1) cs).size = cs.size := by
   intro off m
   induction m with
   | nil => intro cs; rfl
   | cons y m ih => intro cs; rw [List.foldl_cons, ih, Array.size_setIfInBounds]
  simp only [Instr.fill] at h
  split at h
  ·cases h
  ·split at h
   ·cases h
   ·rw [ZEK l _ _ h, <- Array.foldl_toList, key]
theorem ZNU (h : R P W M n s a w ρ) (hd : Z0F n o.dst = true) {t : TypeId} {ps : Array (Nat × Operand)} (ho : o.op = .build t ps) (hr : ZpJ P s t ps.toList = some r) : Goal P W M n o s r a w Q := by
 unfold ZpJ at hr
 split at hr
 ·rename_i i x rest hps
  split at hr
  ·rename_i id hx
   split at hr
   ·rename_i hvals
    split at hr
    ·rename_i fields hu
     split at hr
     ·rename_i places z hpl hz
      split at hr
      ·rename_i hpi
       split at hr
       ·rename_i hoff
        split at hr
        ·rename_i cells hfill
         split at hr
         ·rename_i hsz
          simp only [Option.some.injEq] at hr; subst hr
          have hsz := Nat.le_of_ble_eq_true hsz
          have hv := h.ev x
          rw [hx] at hv
          obtain ⟨hl, he⟩ := hv
          have hone := (ZH9 h hl).1
          have hmap : rest.map (fun q => (q.1, a.eval q.2)) = rest.map fun q => (q.1, s.evV q.2) := by
           apply List.map_congr_left
           intro q hq
           rw [ZKd h (List.all_eq_true.1 hvals q hq)]
          have hfull : Instr.fill (places[·]?) z.cells ((i, ρ id) :: rest.map fun q => (q.1, s.evV q.2)) = some (cells.setIfInBounds 0 (ρ id)) := by
           simp only [Instr.fill, hpi, hone]
           rw [if_neg (by
            rw [Bool.or_eq_true, decide_eq_true_eq, decide_eq_true_eq]
            show ¬ ((1 : Nat) ≠ 1 \/ 0 + 1 > _)
            omega)]
           have := ZEJ (v := ρ id) (places := places) (rest.map fun q => (q.1, s.evV q.2)) z.cells (fun q hq => by
            obtain ⟨q0, hq0, rfl⟩ := List.mem_map.1 hq
            exact List.all_eq_true.1 hoff q0 hq0)
           rw [hfill] at this
           exact this
          have hcs := ZEK _ _ _ hfill
          refine Z0j h hd (v := .agg (cells.setIfInBounds 0 (ρ id))) ?_ (.inr ?_)
          ·simp only [execOp, ho]
           have hb : (Instr.build t (ps.map fun q => (q.1, a.eval q.2))).run P w = .ok (.agg (cells.setIfInBounds 0 (ρ id))) w := by
            unfold Instr.build
            rw [Zq (Z5w hz w), Zq (run_underlying hu w)]
            dsimp only
            rw [Zq (Z5w hpl w)]
            have e1 : (ps.map fun q => (q.1, a.eval q.2)).toList = (i, ρ id) :: rest.map fun q => (q.1, s.evV q.2) := by
             rw [Array.toList_map, hps, List.map_cons, he, hmap]
            rw [e1, hfull]
            rfl
           rw [Zq hb]
           rfl
          ·refine ⟨ρ id :: cells.toList.drop 1, ?_, ⟨hl, rfl⟩, ?_⟩
           ·congr 1
            apply Array.toList_inj.1
            rw [Array.toList_setIfInBounds]
            cases hc : cells.toList with
            | nil =>
              have : cells.size = 0 := by rw [<- Array.length_toList, hc]; rfl
              omega
            | cons y l => simp
           ·generalize cells.toList.drop 1 = l
            induction l with
            | nil => exact True.intro
            | cons y l ih => exact ⟨rfl, ih⟩
         ·cases hr
        ·cases hr
       ·cases hr
      ·cases hr
     ·cases hr
    ·cases hr
   ·cases hr
  ·cases hr
 ·cases hr
theorem ZNW (h : R P W M n s a w ρ) (hd : Z0F n o.dst = true) {e : TypeId} {x : Operand} (ho : o.op = .box e x)
  (hr : (match o.dst, s.ev x with
  | _, .junk => none
  | some d, _ => some (⟨true, .ptr (4 * d) 0, [(4 * d, .box e (s.ev x).parts)], none, none⟩ : Out)
  | none, _ => none) = some r) (hf : s.fresh r.news = true) : Goal P W M n o s r a w Q := by
 split at hr
 ·cases hr
 ·rename_i d y hdst hj
  simp only [Option.some.injEq] at hr
  subst hr
  refine Zsg (w' := w.alloc (.cells (a.eval x).cells e)) (v := .pointer (some ⟨w.heap.size, 0, none⟩)) h hd hf ?_ (ZmB _ _) (ZLc h (ZFb h (h.ev x) hj) (ZAW hf)) (fun _ g hg => ?_) (fun H hH => ⟨hH, w.heap.size, 0, ?_, rfl⟩)
  ·simp only [execOp, ho, Instr.box, newVar, newRow]
   simp [Sem.run_bind]
  ·obtain rfl : w.heap.size = g := by simpa [Z2Q, atOf] using hg
   exact Nat.le_refl _
  ·simp only [if_true]; rfl
 ·cases hr
theorem ZsQ {α β : Type} (f : α -> Sem β) : ∀ m : Sem α, Zt P (m >>= f) = (Zt P m).bind fun x => Zt P (f x)
 | .pure a => rfl
 | .program k => ZsQ f (k P)
 | .load .. => rfl
 | .store .. => rfl
 | .new .. => rfl
 | .shape .. => rfl
 | .freeze .. => rfl
 | .frozen .. => rfl
 | .getObj .. => rfl
 | .setObj .. => rfl
 | .choose .. => rfl
 | .sys .. => rfl
 | .mark .. => rfl
 | .halt .. => rfl
theorem Zg1 {α β : Type} {f : α -> Sem β} {m : Sem α} {y : β} (h : Zt P (m >>= f) = some y) : ∃ x, Zt P m = some x /\ Zt P (f x) = some y := by
 rw [ZsQ] at h
 cases hm : Zt P m with
 | none => rw [hm] at h; cases h
 | some x => rw [hm] at h; exact ⟨x, rfl, h⟩
theorem Z0r {α β : Type} {f : α -> Sem β} {m : Sem α} {x : α} (h : Zt P m = some x) (w : World) : (m >>= f).run P w = (f x).run P w := Zq (Z5w h w)
theorem ZQ6 {t : TypeId} {len : Nat} {parts : Array (Nat × Value)} {e sz : Nat} {cells : Array Value} (h : Zt P (ZyZ t len parts) = some (e, sz, cells)) (w : World) :
  (Instr.buildSlice t len parts).run P w = .ok (.slice (some ⟨w.heap.size, 0, none⟩) len len) (w.alloc (.cells cells e)) := by
 unfold ZyZ at h
 unfold Instr.buildSlice
 obtain ⟨d, hu, h⟩ := Zg1 h
 rw [Z0r hu]
 cases d <;> try (cases h; done)
 rename_i el
 dsimp only at h ⊢
 obtain ⟨size, hs, h⟩ := Zg1 h
 rw [Z0r hs]
 by_cases hbig : len * size > 2 ^ 24
 ·simp only [hbig, if_true] at h
  obtain ⟨_, hx, _⟩ := Zg1 h
  cases hx
 ·simp only [hbig, if_false] at h ⊢
  have fin : ∀ zero : Array Value, Zt P (match Instr.fill (fun i => some (i * size, size)) (Array.map (fun x => zero[x % zero.size]!) (Array.range (len * size))) parts.toList with
    | some cells => (Pure.pure (el, size, cells) : Sem (TypeId × Nat × Array Value))
    | _ => stuck "buildSlice: a part of the wrong size") = some (e, sz, cells) ->
    (match Instr.fill (fun i => some (i * size, size)) (Array.map (fun x => zero[x % zero.size]!) (Array.range (len * size))) parts.toList with
    | some cells => (do Pure.pure (.slice (some (<- newRow el cells)) len len) : Sem Value)
    | _ => stuck "buildSlice: a part of the wrong size").run P w = .ok (.slice (some ⟨w.heap.size, 0, none⟩) len len) (w.alloc (.cells cells e)) := by
   intro zero h
   split at h
   ·rename_i cs hf
    obtain ⟨rfl, rfl, rfl⟩ : el = e /\ size = sz /\ cs = cells := by simpa [Zt, Pure.pure] using h
    simp [newRow, Sem.run_bind]
   ·cases h
  by_cases hz0 : len * size = 0
  ·rw [if_pos hz0] at h ⊢
   obtain ⟨zero, hz, h⟩ := Zg1 h
   rw [Z0r hz]
   exact fin _ h
  ·rw [if_neg hz0] at h ⊢
   obtain ⟨z1, hz1, h⟩ := Zg1 h
   rw [Z0r hz1]
   obtain ⟨zero, hz, h⟩ := Zg1 h
   rw [Z0r hz]
   exact fin _ h
end

section
variable {P : Program} {S : Sums} {W : World} {M : MV} {n : Nat} {s : FSt} {a : Act} {w w' : World} {ρ ρ' : Nat -> Value} {H : Nat -> Option Blk} {o : Oper} {r : Out} {Q : Exit -> Act -> World -> Prop} {K : Act -> World -> Prop}
theorem nle {a b : Nat} (h : Nat.ble a b = true) : a <= b := Nat.le_of_ble_eq_true h
theorem neq {a b : Nat} (h : Nat.beq a b = true) : a = b := Nat.eq_of_beq_eq_true h
theorem ZPq {i : Nat} {e sz m : Nat} {cs : Array Value} {c : Cells} (h : R P W M n s a w ρ) (hc : c.ok) (hv : c.toVals = cs.toList) (hl : cs.size = m * sz) (hm : m <= 2000000) :
  BRel P W M (w.alloc (.cells cs e)) (fun x => if x = i then .slice (some ⟨w.heap.size, 0, none⟩) m m else ρ x) H i (.row e sz m c) := by
 refine ⟨hc, ?_, ?_⟩
 ·simp only [if_true]
  rw [hv]
  exact World.ownsRow_lit w cs m (Nat.zero_le _) (by unfold maxLen; omega) hl
 ·intro g hg
  simp only [if_true] at hg
  obtain rfl : w.heap.size = g := by simpa [Z2Q, atOf] using hg
  exact Zzb h
theorem Zy1 (h : R P W M n s a w ρ) (hd : Z0F n o.dst = true) {t : TypeId} {len : Nat} {parts : Array (Nat × Operand)} (ho : o.op = .buildSlice t len parts)
  (hr : (match o.dst with
  | some d => if (parts.toList.all fun x => (s.ev x.2).isVal) = true then
    match Zt P (ZyZ t len (parts.map fun (i, x) => (i, s.evV x))) with
    | some (e, sz, cells) => if (Nat.beq cells.size (len * sz) && Nat.ble len 2000000 && (ZAa P e cells.toList).okB) = true then some (⟨true, .row (4 * d), [(4 * d, .row e sz len (ZAa P e cells.toList))], none, none⟩ : Out) else none
    | none => none
   else none
  | none => none) = some r) (hf : s.fresh r.news = true) : Goal P W M n o s r a w Q := by
 split at hr
 ·rename_i d hdst
  split at hr
  ·rename_i hall
   split at hr
   ·rename_i e sz cells hbs
    split at hr
    ·rename_i hck
     simp only [Option.some.injEq] at hr
     subst hr
     simp only [Bool.and_eq_true] at hck
     obtain ⟨⟨h1, h2⟩, h3⟩ := hck
     have hparts : (parts.map fun (i, x) => (i, s.evV x)) = parts.map fun (i, x) => (i, a.eval x) := by
      apply Array.map_congr_left
      intro p hp
      have := ZKd h (x := p.2) (List.all_eq_true.1 hall p (by simpa using hp))
      simp [this]
     rw [hparts] at hbs
     refine Zsg (w' := w.alloc (.cells cells e)) (u := .slice (some ⟨w.heap.size, 0, none⟩) len len) (v := .slice (some ⟨w.heap.size, 0, none⟩) len len) h hd hf ?_ (ZmB _ _) (ZPq h (ZKI h3) (ZI3 _ _ _) (neq h1) (Nat.le_trans (nle h2) (by decide))) (fun _ g hg => ?_) (fun H hH => ⟨hH, ?_⟩)
     ·simp only [execOp, ho]
      exact (Zq (ZQ6 hbs w)).trans rfl
     ·obtain rfl : w.heap.size = g := by simpa [Z2Q, atOf] using hg
      exact Nat.le_refl _
     ·simp only [if_true]
    ·cases hr
   ·cases hr
  ·cases hr
 ·cases hr
theorem ZNz {id g o' : Nat} (h : atOf (ρ id) = some (g, o')) : Z2Q (ρ id) = some g := by simp [Z2Q, h]
theorem ZI4 (h : R P W M n s a w ρ) {id g o' m : Nat} {c : Cells} {b : Blk} (hb : s.heap id = some b) (hk : b = .ros m c \/ ∃ e sz, b = .row e sz m c) (ha : atOf (ρ id) = some (g, o')) :
  ∀ j, j < c.len -> w.cell? ⟨g, o' + j, none⟩ = some (c.get j) := by
 intro j hj
 have hr : Z3i w none (ρ id) m c := by
  rcases hk with rfl | ⟨e, sz, rfl⟩
  ·exact Zkt h hb
  ·exact ZiD h hb
 rcases hr.2 with ⟨h0, _⟩ | ⟨g', o'', cap, h1, _, _, h4⟩
 ·rw [h0] at ha; cases ha
 ·rw [h1] at ha
  obtain ⟨rfl, rfl⟩ : g' = g /\ o'' = o' := by simpa [atOf] using ha
  exact h4 j _ (Cells.get_toVals c hj)
theorem ZBk {t : TypeId} {sz g o' : Nat} {l : List Value} (hag : Zt P (isAgg t) = some true) (hsz : Zt P (sizeOf t) = some sz) (hl : l.length = sz) (hc : ∀ j u, l[j]? = some u -> w.cell? ⟨g, o' + j, none⟩ = some u) :
  (Instr.loadAt t (.pointer (some ⟨g, o', none⟩))).run P w = .ok (.agg l.toArray) w := by
 subst hl
 unfold Instr.loadAt Instr.sureAddr
 rw [Z0r (x := ⟨g, o', none⟩) rfl]
 unfold loadVar
 rw [Z0r hag]
 simp only [if_true]
 rw [Z0r hsz, Zq (run_loadCells_list w ⟨g, o', none⟩ l (fun j v hv => by
  rw [show (⟨g, o', none⟩ : Addr).add j = ⟨g, o' + j, none⟩ by unfold Addr.add; split <;> simp_all]
  exact hc j v hv))]
 rfl
theorem Zv8 {t : TypeId} {g o' : Nat} {u : Value} (hag : Zt P (isAgg t) = some false) (hc : w.cell? ⟨g, o', none⟩ = some u) :
  (Instr.loadAt t (.pointer (some ⟨g, o', none⟩))).run P w = .ok u w := by
 unfold Instr.loadAt Instr.sureAddr
 rw [Z0r (x := ⟨g, o', none⟩) rfl]
 unfold loadVar
 rw [Z0r hag]
 simp [hc]
theorem ZOh (h : R P W M n s a w ρ) {t : TypeId} {ag : Bool} {sz id off g o' : Nat} {r : Out} (hag : Zt P (isAgg t) = some ag) (hsz : Zt P (sizeOf t) = some sz) (hl : ld s.heap ag sz id off = some r) (Z1b : r.chk = true) (ha : atOf (ρ id) = some (g, o')) :
  ∃ v, r = .pure r.chk r.v /\ Rel P W M ρ s.heap r.v v /\ (Instr.loadAt t (.pointer (some ⟨g, o' + off, none⟩))).run P w = .ok v w := by
 have boxcase : ∀ (cells : List SV) (b : Blk), s.heap id = some b -> (b = .rop cells \/ ∃ e, b = .box e cells) ->
   (if ag = true then
    match SV.vals ((cells.drop off).take sz) with
    | some l => if Nat.beq l.length sz = true then some (Out.pure true (.val (.agg l.toArray))) else none
    | none => none
   else match cells[off]? with
    | some v => some (.pure true v)
    | none => none) = some r -> ∃ v, r = .pure r.chk r.v /\ Rel P W M ρ s.heap r.v v /\ (Instr.loadAt t (.pointer (some ⟨g, o' + off, none⟩))).run P w = .ok v w := by
  intro cells b hb hk hm
  cases ag with
  | true =>
   simp only [if_true] at hm
   split at hm
   ·rename_i l hv
    split at hm
    ·rename_i Z4X
     simp only [Option.some.injEq] at hm; subst hm
     refine ⟨_, rfl, rfl, ZBk hag hsz (neq Z4X) fun j u hu => ?_⟩
     have hj := ZtI hv hu
     have hjk : j < sz := by
      have := (List.getElem?_eq_some_iff.1 hu).1
      have := neq Z4X
      omega
     rw [List.getElem?_take_of_lt hjk, List.getElem?_drop] at hj
     obtain ⟨u', hu', hr⟩ := ZgA h hb hk ha (off + j) _ hj
     rw [show u' = u from hr, <- Nat.add_assoc] at hu'
     exact hu'
    ·cases hm
   ·cases hm
  | false =>
   simp only [Bool.false_eq_true, if_false] at hm
   split at hm
   ·rename_i v hv
    simp only [Option.some.injEq] at hm; subst hm
    obtain ⟨u, hu, hr⟩ := ZgA h hb hk ha off _ hv
    exact ⟨u, rfl, hr, Zv8 hag hu⟩
   ·cases hm
 have rowcase : ∀ (m : Nat) (c : Cells) (b : Blk), s.heap id = some b -> (b = .ros m c \/ ∃ e z, b = .row e z m c) ->
   (if ag = true then some (Out.pure (Nat.ble (off + sz) c.len) (.val (.agg ((List.range sz).map fun j => c.get (off + j)).toArray)))
   else some (.pure (Nat.ble (off + 1) c.len) (.val (c.get off)))) = some r -> ∃ v, r = .pure r.chk r.v /\ Rel P W M ρ s.heap r.v v /\ (Instr.loadAt t (.pointer (some ⟨g, o' + off, none⟩))).run P w = .ok v w := by
  intro m c b hb hk hm
  cases ag with
  | true =>
   simp only [if_true, Option.some.injEq] at hm; subst hm
   have Z4X := nle Z1b
   refine ⟨_, rfl, rfl, ZBk hag hsz (by simp) fun j u hu => ?_⟩
   have hjk : j < sz := by simpa using (List.getElem?_eq_some_iff.1 hu).1
   simp [hjk] at hu
   subst hu
   have := ZI4 h hb hk ha (off + j) (by omega)
   rwa [<- Nat.add_assoc] at this
  | false =>
   simp only [Bool.false_eq_true, if_false, Option.some.injEq] at hm; subst hm
   have Z4X := nle Z1b
   exact ⟨_, rfl, rfl, Zv8 hag (ZI4 h hb hk ha off (by omega))⟩
 unfold ld at hl
 split at hl
 ·rename_i e cells hb; exact boxcase cells _ hb (.inr ⟨_, rfl⟩) hl
 ·rename_i cells hb; exact boxcase cells _ hb (.inl rfl) hl
 ·rename_i e z m c hb; exact rowcase m c _ hb (.inr ⟨_, _, rfl⟩) hl
 ·rename_i m c hb; exact rowcase m c _ hb (.inl rfl) hl
 ·cases hl
theorem ZML (h : R P W M n s a w ρ) (hd : Z0F n o.dst = true) {t : TypeId} {x : Operand} (ho : o.op = .load t x)
  (hr : (match s.ev x, Zt P (isAgg t), Zt P (sizeOf t) with
  | .ptr id off, some a, some sz => ld s.heap a sz id off
  | _, _, _ => none) = some r) (Z1b : r.chk = true) : Goal P W M n o s r a w Q := by
 split at hr
 ·rename_i id off ag sz hx hag hsz
  have hv := h.ev x
  rw [hx] at hv
  obtain ⟨hl, g, o', ha, he⟩ := hv
  obtain ⟨v, hp, hrel, hrun⟩ := ZOh h hag hsz hr Z1b ha
  rw [hp]
  exact Z0j h hd (v := v) (by simp only [execOp, ho, he]; exact (Zq hrun).trans rfl) (.inr hrel)
 ·cases hr
theorem ZIF {x : Operand} {g : Nat} (h : ZmP x = some g) : x = .global g := by
 cases x <;> simp [ZmP] at h
 rw [h]
theorem ZKf (hB : Base W M) (h : R P W M n s a w ρ) (hd : Z0F n o.dst = true) {t : TypeId} {g : Nat} (ho : o.op = .load t (.global g)) (hr : gload P t g = some r) : Goal P W M n o s r a w Q := by
 have hG := h.gok hB
 unfold gload at hr
 have hev : a.eval (.global g) = .pointer (some ⟨g, 0, none⟩) := rfl
 split at hr
 ·rename_i vals sz hv hag hsz
  split at hr
  ·rename_i Z4X
   have Z4X := neq Z4X
   simp only [Option.some.injEq] at hr; subst hr
   refine Z0j h hd (v := .agg vals.toArray) ?_ (.inr rfl)
   simp only [execOp, ho, hev]
   exact (Zq (ZBk hag hsz Z4X fun j u hu => by rw [Nat.zero_add]; exact hG.2 g vals hv j u hu)).trans rfl
  ·cases hr
 ·rename_i v sz hv hag hsz
  simp only [Option.some.injEq] at hr; subst hr
  refine Z0j h hd (v := v) ?_ (.inr rfl)
  simp only [execOp, ho, hev]
  exact (Zq (Zv8 hag (hG.2 g [v] hv 0 v rfl))).trans rfl
 ·cases hr
end

def setV : List Value -> Nat -> List Value -> List Value
 | l, _, [] => l
 | l, i, v :: vs => setV (l.set i v) (i + 1) vs
theorem ZJn : ∀ (vs l : List Value) (i : Nat), (setV l i vs).length = l.length
 | [], _, _ => rfl
 | v :: vs, l, i => by rw [setV, ZJn vs]; simp
theorem ZFi : ∀ (vs l : List Value) (i k : Nat), (setV l i vs).take k = setV (l.take k) i vs
 | [], _, _, _ => rfl
 | v :: vs, l, i, k => by rw [setV, ZFi vs, List.take_set]; rfl
theorem ZDQ (w : World) (g i : Nat) (v : Value) : w.grownBy (w.setCell ⟨g, i, none⟩ v) (some g) :=
 ⟨rfl, rfl, rfl, by simp [World.setCell], fun k _ hne => Deep.blk_setCell_other _ _ _ _ (fun e => hne (by rw [show k = g from e]))⟩
theorem ZHe {w : World} {g i : Nat} {cs : Array Value} {e : TypeId} {v : Value} {fz : Nat × Nat} (h : w.heap[g]? = some (.cells cs e fz)) : (w.setCell ⟨g, i, none⟩ v).heap[g]? = some (.cells (cs.setIfInBounds i v) e fz) := by
 simp [World.setCell, Array.getElem?_modify, h]
theorem ZiR {g : Nat} {e : TypeId} {fz : Nat × Nat} : ∀ (vs : List Value) (i : Nat) (w : World) (cs : Array Value), w.heap[g]? = some (.cells cs e fz) ->
  (∃ cs' : Array Value, (w.setCells g i vs).heap[g]? = some (.cells cs' e fz) /\ cs'.toList = setV cs.toList i vs) /\ w.grownBy (w.setCells g i vs) (some g)
 | [], i, w, cs, h => ⟨⟨cs, h, rfl⟩, World.grownBy.refl w _⟩
 | v :: vs, i, w, cs, h => by
  obtain ⟨⟨cs', h1, h2⟩, h3⟩ := ZiR vs (i + 1) _ _ (ZHe (i := i) (v := v) h)
  exact ⟨⟨cs', h1, by rw [h2]; simp [setV]⟩, (ZDQ w g i v).trans h3⟩
section
variable {P : Program} {S : Sums} {W : World} {M : MV} {n : Nat} {s : FSt} {a : Act} {w w' : World} {ρ ρ' : Nat -> Value} {H : Nat -> Option Blk} {o : Oper} {r : Out} {Q : Exit -> Act -> World -> Prop} {K : Act -> World -> Prop}
theorem ZMS (h : R P W M n s a w ρ) {x : SV} {v : Value} (hx : Rel P W M ρ s.heap x v) (hk : x.keeps = true) : v.oneCell' = true := by
 cases x with
 | val y =>
  rw [show v = y from hx]
  cases y <;> first | rfl | (cases hk)
 | ptr i off => obtain ⟨_, g, o, _, rfl⟩ := hx; rfl
 | row i => obtain ⟨hl, rfl⟩ := hx; exact (ZH9 h hl).2
 | sub i off m z => obtain ⟨_, q, cap, rfl, _⟩ := hx; rfl
 | clo f l => obtain ⟨vs, rfl, _⟩ := hx; rfl
 | fn g => obtain ⟨f, caps, rfl, _⟩ := hx; rfl
 | tup l => cases hk
 | agr l => cases hk
 | junk => cases hk
theorem ZA5 {α β : Type} {R : α -> β -> Prop} : ∀ {l : List α} {m : List β}, All2 R l m -> ∀ b ∈ m, ∃ a ∈ l, R a b
 | [], [], _, b, h => by cases h
 | a :: l, c :: m, ⟨p, q⟩, b, h => by
  rcases List.mem_cons.1 h with rfl | h
  ·exact ⟨a, by simp, p⟩
  ·obtain ⟨x, hx, hr⟩ := ZA5 q b h
   exact ⟨x, by simp [hx], hr⟩
theorem ZPB (y c : SV) (b : Bool) : upd1 y c b = bif b then y else c := by
 unfold upd1
 split
 ·split
  ·rename_i k v k' x e
   subst e
   cases b <;> rfl
  ·rfl
 ·rfl
theorem ZMb (y : SV) (off : Nat) : ∀ (l : List SV) (j : Nat), set1 y off l j = if j <= off then l.set (off - j) y else l
 | [], j => by simp [set1]
 | c :: l, j => by
  simp only [set1, ZPB, ZMb y off l (j + 1)]
  by_cases e : off = j
  ·subst e
   rw [if_neg (by omega), if_pos (Nat.le_refl _), Nat.sub_self, show Nat.beq off off = true by simp]
   rfl
  ·rw [nbeq e, cond_false]
   by_cases h : j <= off
   ·rw [if_pos (by omega), if_pos h, show off - j = (off - (j + 1)) + 1 from by omega]
    rfl
   ·rw [if_neg (by omega), if_neg h]
theorem ZMa (y : SV) (off : Nat) (l : List SV) : set1 y off l 0 = l.set off y := by rw [ZMb]; simp
theorem ZBF {ρ : Nat -> Value} {H : Nat -> Option Blk} : ∀ {xs : List SV} {vs : List Value}, All2 (Rel P W M ρ H) xs vs -> ∀ {l : List SV} {m : List Value} (i : Nat), All2 (Rel P W M ρ H) l m -> All2 (Rel P W M ρ H) (ZHd l i xs) (setV m i vs)
 | [], [], _, _, _, _, h => h
 | _ :: _, _ :: _, ⟨p, q⟩, _, _, i, h => ZBF q (i + 1) (by rw [ZMa]; exact h.set i p)
theorem ZOz {c c' : Cells} {i : Nat} {v : Value} (h : c.put i v = some c') (ho : c.ok) : c'.ok /\ c'.toVals = c.toVals.set i v /\ c'.len = c.len := by
 unfold Cells.put at h
 split at h
 ·simp only [Option.some.injEq] at h; subst h
  exact ⟨True.intro, by simp [Cells.toVals, List.map_set], by simp [Cells.len]⟩
 ·simp only [Option.some.injEq] at h; subst h
  exact ⟨True.intro, by simp [Cells.toVals, List.map_set], by simp [Cells.len]⟩
 ·simp only [Option.some.injEq] at h; subst h
  exact ⟨True.intro, by simp [Cells.toVals, List.map_set], by simp [Cells.len]⟩
 ·simp only [Option.some.injEq] at h; subst h
  refine ⟨fun u hu => ?_, rfl, by simp [Cells.len]⟩
  rcases List.mem_or_eq_of_mem_set hu with hu | rfl
  ·exact ho u hu
  ·rfl
 ·simp only [Option.some.injEq] at h; subst h
  refine ⟨fun u hu => ?_, rfl, by simp [Cells.len]⟩
  rcases List.mem_or_eq_of_mem_set hu with hu | rfl
  ·exact ho u hu
  ·rfl
 ·cases h
theorem ZFc : ∀ {vs : List Value} {c c' : Cells} {i : Nat}, c.puts i vs = some c' -> c.ok -> c'.ok /\ c'.toVals = setV c.toVals i vs /\ c'.len = c.len
 | [], c, c', i, h, ho => by simp only [Cells.puts, Option.some.injEq] at h; subst h; exact ⟨ho, rfl, rfl⟩
 | v :: vs, c, c', i, h, ho => by
  simp only [Cells.puts] at h
  split at h
  ·rename_i c1 h1
   obtain ⟨o1, e1, l1⟩ := ZOz h1 ho
   obtain ⟨o2, e2, l2⟩ := ZFc h o1
   exact ⟨o2, by rw [e2, e1]; rfl, by rw [l2, l1]⟩
  ·cases h
theorem ZN9 {t : TypeId} {sz g i : Nat} {v : Value} (hsz : Zt P (sizeOf t) = some sz) (hv : v.cells.size = sz) (hc : ∀ j, j < sz -> (w.cell? ⟨g, i + j, none⟩).isSome = true /\ w.frozen? ⟨g, i + j, none⟩ = false) (h1 : ∀ u ∈ v.cells.toList, u.oneCell' = true) :
  (Instr.storeAt t (.pointer (some ⟨g, i, none⟩)) v).run P w = .ok () (w.setCells g i v.cells.toList) := by
 unfold Instr.storeAt Instr.sureAddr
 rw [Z0r (x := ⟨g, i, none⟩) rfl]
 unfold storeVar
 rw [Z0r hsz]
 rw [if_neg (by simp [hv])]
 have := run_storeCells_cells (P := P) g i v.cells.toList 0 w (fun j hj => by simpa using (hc j (by simp at hj; omega)).1) (fun j hj => by simpa using (hc j (by simp at hj; omega)).2) h1
 simpa [Sem.run_bind] using this
theorem ZKi (h : R P W M n s a w ρ) (hd : Z0F n o.dst = true) {t : TypeId} {x y : Operand} (ho : o.op = .store t x y)
  (hr : (match s.ev x, Zt P (sizeOf t) with
  | .ptr id off, some sz => st s.heap sz id off (s.ev y)
  | _, _ => none) = some r) (Z1b : r.chk = true) (hdst : o.dst = none) : Goal P W M n o s r a w Q := by
 split at hr
 ·rename_i id off sz hx hsz
  have hv := h.ev x
  rw [hx] at hv
  obtain ⟨hl, g, o', ha, he⟩ := hv
  have hy := h.ev y
  unfold st at hr
  split at hr
  ·rename_i hck
   simp only [Bool.and_eq_true] at hck
   obtain ⟨Z4X, hkeep⟩ := hck
   have Z4X := neq Z4X
   have hj : s.ev y ≠ .junk := by
    intro e
    rw [e] at hkeep
    simp [SV.parts, SV.keeps] at hkeep
   have hparts := ZFb h hy hj
   have hvs : (a.eval y).cells.size = sz := by
    have := hparts.len
    simp at this
    omega
   have hone : ∀ u ∈ (a.eval y).cells.toList, u.oneCell' = true := fun u hu => by
    obtain ⟨x', hx', hr'⟩ := ZA5 hparts u hu
    exact ZMS h hr' (List.all_eq_true.1 hkeep x' hx')
   have hwp : ∀ {g i : Nat}, a.eval x = .pointer (some ⟨g, i, none⟩) -> (∀ j, j < sz -> (w.cell? ⟨g, i + j, none⟩).isSome = true /\ w.frozen? ⟨g, i + j, none⟩ = false) -> (execOp a.eval o).run P w = .ok .skip (w.setCells g i (a.eval y).cells.toList) := by
    intro g i he hc
    simp only [execOp, ho, he]
    exact (Zq (ZN9 hsz hvs hc hone)).trans rfl
   split at hr
   ·rename_i e cells hb
    ·simp only [Option.some.injEq] at hr; subst hr
     have hle := nle Z1b
     obtain ⟨g', cs, h1, h2, h3, h4⟩ := h.heap id _ hb
     rw [h1] at ha
     obtain ⟨rfl, rfl⟩ : g' = g /\ 0 = o' := by simpa [atOf] using ha
     have hcl := h4.len
     obtain ⟨⟨cs', hh, hcs'⟩, hg⟩ := ZiR (a.eval y).cells.toList off w cs h3
     refine ZOR (hwp (by rw [he, Nat.zero_add]) fun j hj => ?_) ⟨ρ, ?_⟩
     ·have hlt : off + j < cs.size := by simp at hcl; omega
      exact ⟨by simp [World.cell?, h3, hlt], by simp [World.frozen?, h3]⟩
     ·rw [hdst]
      show R P W M n (s.set id _) a _ ρ
      exact h.write hb rfl rfl (ZNz (o' := 0) (by rw [h1]; rfl)) h2 hg ⟨g', cs', h1, h2, hh, by rw [hcs']; exact ZBF hparts off h4⟩
   ·rename_i e z m c hb
    split at hr
    ·rename_i v hyv
     split at hr
     ·rename_i c' hputs
      simp only [Option.some.injEq] at hr; subst hr
      have hle := nle Z1b
      obtain ⟨k1, k2, k3⟩ := h.heap id _ hb
      have hyv' := Z2j h hyv
      rw [<- hyv'] at hputs
      obtain ⟨p1, p2, p3⟩ := ZFc hputs k1
      rcases k2.2 with ⟨h0, _⟩ | ⟨g', cap, cur, hv, hb0, hg, hc, hm, hz, hx0⟩
      ·rw [h0] at ha; cases ha
      ·rw [hv] at ha
       obtain ⟨rfl, rfl⟩ : g' = g /\ 0 = o' := by simpa [atOf] using ha
       obtain ⟨⟨cs', hh, hcs'⟩, hgr⟩ := ZiR (a.eval y).cells.toList off w cur hg
       have hlc : c.len = m * z := by rw [<- Cells.len_toVals]; exact k2.1
       have hcur : cur.size = cap * z := hz
       have hle2 : m * z <= cap * z := Nat.mul_le_mul_right z hc
       refine ZOR (hwp (by rw [he, Nat.zero_add]) fun j hj => ?_) ⟨ρ, ?_⟩
       ·have hlt : off + j < cur.size := by omega
        exact ⟨by simp [World.cell?, hg, hlt], by simp [World.frozen?, hg]⟩
       ·rw [hdst]
        show R P W M n (s.set id _) a _ ρ
        refine h.write hb rfl rfl (ZNz (o' := 0) (by rw [hv]; rfl)) (k3 g' (by rw [hv]; rfl)) hgr ⟨p1, ⟨by rw [Cells.len_toVals, p3, hlc], .inr ⟨g', cap, cs', hv, hb0, hh, hc, hm, ?_, ?_⟩⟩, k3⟩
        ·have := congrArg List.length hcs'
         rw [ZJn] at this
         simp at this
         omega
        ·rw [hcs', ZFi, hx0, p2]
     ·cases hr
    ·cases hr
   ·cases hr
  ·cases hr
 ·cases hr
end

section
variable {P : Program} {S : Sums} {W : World} {M : MV} {n : Nat} {s : FSt} {a : Act} {w w' : World} {ρ ρ' : Nat -> Value} {H : Nat -> Option Blk} {o : Oper} {r : Out} {Q : Exit -> Act -> World -> Prop} {K : Act -> World -> Prop}
theorem ZJ8 {t : TypeId} {k : Nat} (h : Zt P (sizeOf t) = some k) : ∃ i, P.info? t = some i /\ i.size = k := by
 have h' := Z5w h (default : World)
 unfold sizeOf typeInfo at h'
 cases hi : P.info? t with
 | none => simp [hi] at h'
 | some i => exact ⟨i, rfl, by simpa [hi] using h'⟩
theorem ZNR : ∀ l m : List Int, eqL l m = (l == m)
 | [], [] => rfl
 | [], _ :: _ => rfl
 | [_], [] => rfl
 | _ :: _ :: _, [] => rfl
 | [a], [b] => by simp [eqL]
 | [a], b :: c :: m => by simp [eqL]
 | a :: c :: l, [b] => by simp [eqL]
 | a :: c :: l, b :: d :: m => by
  have := ZNR (c :: l) (d :: m)
  show (a == b && eqL (c :: l) (d :: m)) = _
  rw [this]; rfl
theorem ZhH {xs ys : List Value} {b : Bool} (h : ZGb xs ys = some b) : ∃ l m : List Int, xs = l.map (Value.int .i64) /\ ys = m.map (Value.int .i64) /\ b = (l == m) := by
 unfold ZGb at h
 split at h
 ·rename_i l m h1 h2
  simp only [Option.some.injEq] at h; subst h
  exact ⟨l, m, ZhM h1, ZhM h2, ZNR l m⟩
 ·cases h
theorem ZmR {t : TypeId} {k : Nat} (h : Zv1 P t = some k) : ∃ e q, P.underlying t = some (.array k e) /\ P.underlying e = some (.int q) /\ Zt P (sizeOf e) = some 1 := by
 unfold Zv1 at h
 split at h
 ·rename_i n e hu
  split at h
  ·rename_i q hq hs
   simp only [Option.some.injEq] at h; subst h
   exact ⟨e, q, hu, hq, hs⟩
  ·cases h
 ·cases h
theorem ZFg {B : Nat -> (Option Bool × Unit) -> Sem (ForInStep ((Option Bool × Unit)))} {g : Nat -> Bool} : ∀ (l : List Nat) (w : World),
  (∀ i ∈ l, ∀ st w, (B i st).run P w = .ok (if g i = true then ForInStep.yield (none, ()) else ForInStep.done (some false, ())) w) ->
  (forIn l ((none, ()) : (Option Bool × Unit)) B).run P w = .ok (if l.all g = true then (none, ()) else (some false, ())) w
 | [], w, _ => rfl
 | i :: l, w, h => by
  rw [List.forIn_cons, Zq (h i (by simp) _ w)]
  cases hg : g i
  ·simp only [Bool.false_eq_true, if_false, Sem.run_pure, List.all_cons, hg, Bool.false_and]
  ·simp only [if_true, List.all_cons, hg, Bool.true_and]
   exact ZFg l w fun j hj => h j (by simp [hj])
theorem ZsG {e : TypeId} {q : IntKind} (he : P.underlying e = some (.int q)) (l : List Int) (i : Nat) (hi : i < l.length) (w : World) : (part e (l.map (Value.int .i64)).toArray i).run P w = .ok (.int .i64 (l.getD i 0)) w := by
 have ha : (isAgg e).run P w = .ok false w := by
  unfold isAgg
  rw [Sem.run_bind, run_underlying he]
  rfl
 unfold part
 rw [Sem.run_bind, ha]
 simp [hi, List.getD_eq_getElem?_getD]
theorem ZFX : ∀ (l m : List Int), l.length = m.length -> (List.range' 0 l.length).all (fun i => l.getD i 0 == m.getD i 0) = (l == m) := by
 intro l m h
 rw [Bool.eq_iff_iff]
 constructor
 ·intro h1
  have h2 : ∀ i, i < l.length -> l.getD i 0 = m.getD i 0 := fun i hi => by
   have := List.all_eq_true.1 h1 i (by simp [List.mem_range'_1]; exact hi)
   simpa using this
  rw [beq_iff_eq]
  apply List.ext_getElem h
  intro i hi hj
  have := h2 i hi
  simpa [List.getD_eq_getElem?_getD, hi, hj] using this
 ·intro h1
  rw [beq_iff_eq] at h1
  subst h1
  simp
theorem Zjn {d n : Nat} {t e : TypeId} {q : IntKind} (ht : P.underlying t = some (.array n e)) (he : P.underlying e = some (.int q)) (hs : Zt P (sizeOf e) = some 1) (l m : List Int) (hl : l.length = n) (hm : m.length = n) (w : World) :
  (Op.equalIn (d + 2) t (.agg (l.map (Value.int .i64)).toArray) (.agg (m.map (Value.int .i64)).toArray)).run P w = .ok (l == m) w := by
 rw [Op.equalIn]
 rw [Zq (run_underlying ht w)]
 dsimp only
 rw [Z0r hs]
 subst hl
 simp only [Std.Legacy.Range.forIn_eq_forIn_range', Std.Legacy.Range.size, Nat.sub_zero, Nat.add_sub_cancel, Nat.div_one, Nat.mul_one]
 rw [Zq (ZFg (g := fun i => l.getD i 0 == m.getD i 0) (List.range' 0 l.length) w ?_)]
 ·rw [ZFX l m hm.symm]
  cases (l == m) <;> rfl
 ·intro i hi st w
  have hi : i < l.length := by simpa [List.mem_range'_1] using hi
  rw [Zq (ZsG he l i hi w), Zq (ZsG he m i (by omega) w), Zq (run_equalIn_int w d e .i64 q _ _ he)]
  cases (l.getD i 0 == m.getD i 0) <;> rfl
theorem Znx {t : TypeId} {k : Nat} (h : szB P t k = true) : Zt P (sizeOf t) = some k := by
 unfold szB at h
 split at h
 ·rename_i k' e
  rw [e, neq h]
 ·cases h
abbrev Z9I (l : List Int) : Array Value := (l.map (Value.int .i64)).toArray
def EqF (P : Program) (dd : Nat) (e : TypeId) (k : Nat) : Prop := ∀ (w : World) (off : Nat) (xs ys : List Int), off + k <= xs.length -> off + k <= ys.length ->
 ∃ a b r, (part e (Z9I xs) off).run P w = .ok a w /\ (part e (Z9I ys) off).run P w = .ok b w /\ (Op.equalIn dd e a b).run P w = .ok r w /\ (r = true ↔ (xs.drop off).take k = (ys.drop off).take k)
theorem ZGI (xs : List Int) (off k : Nat) : (Z9I xs).extract off (off + k) = Z9I ((xs.drop off).take k) := by
 unfold Z9I
 apply Array.toList_inj.1
 simp [List.map_drop, List.map_take]
theorem Zjl {e : TypeId} {k : Nat} (ha : (∃ n e', P.underlying e = some (.array n e')) \/ ∃ fs, P.underlying e = some (.struct fs)) (hs : Zt P (sizeOf e) = some k) (xs : List Int) (off : Nat) (w : World) : (part e (Z9I xs) off).run P w = .ok (.agg (Z9I ((xs.drop off).take k))) w := by
 have hag : (isAgg e).run P w = .ok true w := by
  unfold isAgg
  rcases ha with ⟨n, e', h⟩ | ⟨fs, h⟩ <;> rw [Sem.run_bind, run_underlying h] <;> rfl
 unfold part
 rw [Zq hag]
 simp only [if_true]
 rw [Z0r hs, <- ZGI]
 rfl
theorem ZBU (xs ys : List Int) (o k n : Nat) (hx : o + k <= xs.length) (hy : o + k <= ys.length) : (xs.drop o).take (k + n) = (ys.drop o).take (k + n) ↔ (xs.drop o).take k = (ys.drop o).take k /\ (xs.drop (o + k)).take n = (ys.drop (o + k)).take n := by
 have e : ∀ l : List Int, (l.drop o).take (k + n) = (l.drop o).take k ++ (l.drop (o + k)).take n := fun l => by
  rw [List.take_add, List.drop_drop]
 rw [e, e]
 constructor
 ·intro h
  exact List.append_inj h (by simp; omega)
 ·rintro ⟨h1, h2⟩
  rw [h1, h2]
theorem ZAq {dd : Nat} {g : TypeId -> Option Nat} (ih : ∀ t k, g t = some k -> EqF P dd t k) (xs ys : List Int) (w : World) : ∀ (fs : List Field) (o k : Nat), ZAV g fs o = some k -> k <= xs.length -> k <= ys.length -> o <= k /\
  ∃ r, (Op.eqFields dd (Z9I xs) (Z9I ys) fs).run P w = .ok r w /\ (r = true ↔ (xs.drop o).take (k - o) = (ys.drop o).take (k - o))
 | [], o, k, h, hx, hy => by
  simp only [ZAV, Option.some.injEq] at h
  subst h
  refine ⟨Nat.le_refl _, true, by simp [Op.eqFields], by simp⟩
 | f :: fs, o, k, h, hx, hy => by
  simp only [ZAV] at h
  split at h
  ·rename_i hc
   simp only [Bool.and_eq_true, bne_iff_ne, ne_eq] at hc
   have ho := neq hc.1
   split at h
   ·rename_i kf hg
    obtain ⟨hle, r', hr', hiff'⟩ := ZAq ih xs ys w fs (o + kf) k h hx hy
    obtain ⟨a, b, r, p1, p2, p3, hiff⟩ := ih f.type kf hg w o xs ys (by omega) (by omega)
    refine ⟨by omega, ?_⟩
    have hspl := ZBU xs ys o kf (k - (o + kf)) (by omega) (by omega)
    rw [show kf + (k - (o + kf)) = k - o from by omega] at hspl
    rw [<- ho] at p1 p2
    simp only [Op.eqFields, hc.2, ne_eq, not_false_eq_true, if_true, Sem.run_bind, p1, p2, p3, Result.andThen_ok]
    cases r
    ·refine ⟨false, by simp, ?_⟩
     rw [hspl, <- hiff]
     simp
    ·refine ⟨r', by simpa using hr', ?_⟩
     rw [hspl, <- hiff, hiff']
     simp
   ·cases h
  ·cases h
theorem ZEI {dd : Nat} {e : TypeId} {k : Nat} (ih : EqF P dd e k) (xs ys : List Int) (w : World) {B : Nat -> (Option Bool × Unit) -> Sem (ForInStep ((Option Bool × Unit)))}
  (hB : ∀ i st, B i st = (do
   let a <- part e (Z9I xs) (i * k)
   let b <- part e (Z9I ys) (i * k)
   let r <- Op.equalIn dd e a b
   if (!r) = true then pure (ForInStep.done (some false, ())) else pure (ForInStep.yield (none, ())))) : ∀ (n i : Nat), (i + n) * k <= xs.length -> (i + n) * k <= ys.length ->
  ∃ r : Bool, (forIn (List.range' i n) ((none, ()) : (Option Bool × Unit)) B).run P w = .ok (if r = true then (none, ()) else (some false, ())) w /\ (r = true ↔ (xs.drop (i * k)).take (n * k) = (ys.drop (i * k)).take (n * k))
 | 0, i, _, _ => ⟨true, rfl, by simp⟩
 | n + 1, i, hx, hy => by
  have e1 : (i + (n + 1)) * k = i * k + (k + n * k) := by rw [Nat.add_mul, Nat.add_mul]; omega
  have e2 : (i + 1) * k = i * k + k := by rw [Nat.add_mul]; omega
  have e3 : (n + 1) * k = k + n * k := by rw [Nat.add_mul]; omega
  obtain ⟨a, b, r, p1, p2, p3, hiff⟩ := ih w (i * k) xs ys (by omega) (by omega)
  obtain ⟨r', hr', hiff'⟩ := ZEI ih xs ys w hB n (i + 1) (by rw [Nat.add_mul, e2]; omega) (by rw [Nat.add_mul, e2]; omega)
  have hspl := ZBU xs ys (i * k) k (n * k) (by omega) (by omega)
  rw [List.range'_succ, List.forIn_cons, hB]
  rw [Zq (x := if r = true then ForInStep.yield (none, ()) else ForInStep.done (some false, ())) (w1 := w) (by
   rw [Zq p1, Zq p2, Zq p3]
   cases r <;> rfl)]
  cases r
  ·refine ⟨false, rfl, ?_⟩
   rw [e3, hspl, <- hiff]
   simp
  ·refine ⟨r', hr', ?_⟩
   rw [e3, hspl, <- hiff, hiff', e2]
   simp
theorem ZGJ (j : Nat) : ∀ (m : Nat) (t : TypeId) (k : Nat), Zsf P m t = some k -> EqF P (j + m) t k /\ Zt P (sizeOf t) = some k
 | 0, t, k, h => by cases h
 | m + 1, t, k, h => by
  simp only [Zsf] at h
  split at h
  ·rename_i q hu
   split at h
   ·rename_i hs
    simp only [Option.some.injEq] at h; subst h
    refine ⟨fun w off xs ys hx hy => ⟨_, _, _, ZsG hu xs off (by omega) w, ZsG hu ys off (by omega) w, run_equalIn_int w _ t .i64 q _ _ hu, ?_⟩, Znx hs⟩
    have e : ∀ l : List Int, off + 1 <= l.length -> (l.drop off).take 1 = [l.getD off 0] := fun l hl => by
     rw [List.take_one, List.head?_drop, List.getD_eq_getElem?_getD, List.getElem?_eq_getElem (by omega)]
     rfl
    rw [e xs hx, e ys hy]
    simp
   ·cases h
  ·rename_i n e hu
   split at h
   ·rename_i kk hk
    split at h
    ·rename_i hs
     simp only [Bool.and_eq_true] at hs
     simp only [Option.some.injEq] at h; subst h
     have ih := (ZGJ j m e kk hk).1
     refine ⟨fun w off xs ys hx hy => ?_, Znx hs.1⟩
     have l1 : ((xs.drop off).take (n * kk)).length = n * kk := by simp; omega
     have l2 : ((ys.drop off).take (n * kk)).length = n * kk := by simp; omega
     generalize hX : (xs.drop off).take (n * kk) = X at l1
     generalize hY : (ys.drop off).take (n * kk) = Y at l2
     have q1 := Zjl (.inl ⟨n, e, hu⟩) (Znx hs.1) xs off w
     have q2 := Zjl (.inl ⟨n, e, hu⟩) (Znx hs.1) ys off w
     rw [hX] at q1
     rw [hY] at q2
     obtain ⟨r, hr, hiff⟩ := ZEI ih X Y w (B := fun i st => do
      let a <- part e (Z9I X) (i * kk)
      let b <- part e (Z9I Y) (i * kk)
      let r <- Op.equalIn (j + m) e a b
      if (!r) = true then pure (ForInStep.done (some false, ())) else pure (ForInStep.yield (none, ()))) (fun _ _ => rfl) n 0 (by rw [Nat.zero_add]; omega) (by rw [Nat.zero_add]; omega)
     refine ⟨_, _, r, q1, q2, ?_, ?_⟩
     ·rw [show j + (m + 1) = (j + m) + 1 from rfl, Op.equalIn]
      rw [Zq (run_underlying hu w)]
      dsimp only
      rw [Z0r (Znx hs.2)]
      simp only [Std.Legacy.Range.forIn_eq_forIn_range', Std.Legacy.Range.size, Nat.sub_zero, Nat.add_sub_cancel, Nat.div_one]
      rw [Zq hr]
      cases r <;> rfl
     ·rw [hiff]
      simp only [Nat.zero_mul, List.drop_zero]
      rw [List.take_of_length_le (by omega), List.take_of_length_le (by omega)]
    ·cases h
   ·cases h
  ·rename_i fs hu
   split at h
   ·rename_i hst
    split at h
    ·rename_i kk hk
     split at h
     ·rename_i hs
      simp only [Option.some.injEq] at h; subst h
      refine ⟨fun w off xs ys hx hy => ?_, Znx hs⟩
      have l1 : ((xs.drop off).take kk).length = kk := by simp; omega
      have l2 : ((ys.drop off).take kk).length = kk := by simp; omega
      generalize hX : (xs.drop off).take kk = X at l1
      generalize hY : (ys.drop off).take kk = Y at l2
      have q1 := Zjl (.inr ⟨fs, hu⟩) (Znx hs) xs off w
      have q2 := Zjl (.inr ⟨fs, hu⟩) (Znx hs) ys off w
      rw [hX] at q1
      rw [hY] at q2
      obtain ⟨_, r, hr, hiff⟩ := ZAq (dd := j + m) (fun t k h => (ZGJ j m t k h).1) X Y w fs.toList 0 kk hk (by omega) (by omega)
      have hfs : P.fieldsOf t = fs := by simp [Program.fieldsOf, hu]
      refine ⟨_, _, r, q1, q2, ?_, ?_⟩
      ·rw [show j + (m + 1) = (j + m) + 1 from rfl, run_equalIn_struct w (j + m) t _ _ (by rw [hfs]; exact hu) hst, hfs]
       exact hr
      ·rw [hiff]
       simp only [Nat.sub_zero, List.drop_zero]
       rw [List.take_of_length_le (by omega), List.take_of_length_le (by omega)]
     ·cases h
    ·cases h
   ·cases h
  ·cases h
theorem Zjm {t : TypeId} {k : Nat} (h : Zsf P 4 t = some k) (hag : (∃ n e', P.underlying t = some (.array n e')) \/ ∃ fs, P.underlying t = some (.struct fs)) (l m : List Int) (hl : l.length = k) (hm : m.length = k) (w : World) : (Op.equalIn 10000 t (.agg (Z9I l)) (.agg (Z9I m))).run P w = .ok (l == m) w := by
 obtain ⟨hE, hs⟩ := ZGJ 9996 4 t k h
 obtain ⟨a, b, r, p1, p2, p3, hiff⟩ := hE w 0 l m (by omega) (by omega)
 have q1 := Zjl hag hs l 0 w
 have q2 := Zjl hag hs m 0 w
 rw [p1] at q1
 rw [p2] at q2
 simp only [List.drop_zero] at q1 q2 hiff
 rw [List.take_of_length_le (by omega)] at q1
 rw [List.take_of_length_le (by omega)] at q2
 rw [List.take_of_length_le (by omega), List.take_of_length_le (by omega)] at hiff
 simp only [Result.ok.injEq, and_true] at q1 q2
 rw [q1, q2] at p3
 have : r = (l == m) := by
  rw [Bool.eq_iff_iff, hiff, beq_iff_eq]
 rw [<- this]
 exact p3
theorem ZIB {t : TypeId} {k : Nat} (h : Zsf P 4 t = some k) (hag : Zt P (isAgg t) = some true) : (∃ n e', P.underlying t = some (.array n e')) \/ ∃ fs, P.underlying t = some (.struct fs) := by
 simp only [Zsf] at h
 split at h
 ·rename_i q hu
  have h1 := Z5w hag (default : World)
  have h2 : (isAgg t).run P (default : World) = .ok false (default : World) := by
   unfold isAgg
   rw [Sem.run_bind, run_underlying hu]
   rfl
  rw [h2] at h1
  cases h1
 ·rename_i n e hu; exact .inl ⟨n, e, hu⟩
 ·rename_i fs hu; exact .inr ⟨fs, hu⟩
 ·cases h
theorem ZKj (h : R P W M n s a w ρ) (hd : Z0F n o.dst = true) {t u : TypeId} {x : Operand} {id : Nat} (ho : o.op = .convert t u x) (hx : s.ev x = .row id) (hr : ZJx P s t u id = some r) (Z1b : r.chk = true) : Goal P W M n o s r a w Q := by
 unfold ZJx at hr
 split at hr
 ·rename_i e ht hu
  split at hr
  ·rename_i e' sz m l he hb
   simp only [Option.some.injEq] at hr; subst hr
   have hl : l.length = m := neq Z1b
   have hv : a.eval x = ρ id := by
    have := h.ev x
    rw [hx] at this
    exact this.2
   have k := ZiD h hb
   refine Z0j h hd (v := .string (ZFl l)) ?_ (.inr rfl)
   simp only [execOp, ho, hv]
   rcases k.2 with ⟨h0, hm, hn⟩ | ⟨g, o', cap, h1, h2, h3, h4⟩
   ·have : l = [] := by simpa [Cells.toVals] using hn
    subst this
    rw [h0]
    exact (Zq ((run_convert_bytes_string w t u e none 0 0 ht he hu).trans rfl)).trans rfl
   ·rw [h1]
    have hload := run_loadCells_list (P := P) w ⟨g, o', none⟩ (l.map (Value.int .u8)) (fun j v hv => by
     rw [show (⟨g, o', none⟩ : Addr).add j = ⟨g, o' + j, none⟩ by unfold Addr.add; split <;> simp_all]
     exact h4 j v hv)
    rw [List.length_map, hl] at hload
    exact (Zq ((run_convert_bytes_string w t u e (some ⟨g, o', none⟩) m cap ht he hu).trans (run_bytesToString w _ m cap l hload))).trans rfl
  ·cases hr
 ·cases hr
theorem ZNV (h : R P W M n s a w ρ) (hd : Z0F n o.dst = true) {op : BinOp} {t u : TypeId} {x y : Operand} (ho : o.op = .binOp op t x y u)
  (hg : ∀ k, Zv1 P t = some k -> P.eqGuardType P.depth t = false) (hr : ZJ9 P s o op t x y = some r) (Z1b : r.chk = true) : Goal P W M n o s r a w Q := by
 have hrun : ∀ {v : Value}, (eqGuard op t x y (a.eval x) (a.eval y)).run P w = .ok () w -> (binOp op t (a.eval x) (a.eval y)).run P w = .ok v w -> (execOp a.eval o).run P w = .ok (.value v) w := by
  intro v h1 h2
  simp only [execOp, ho]
  rw [Zq ((Zq h1).trans h2)]
  rfl
 unfold ZJ9 at hr
 split at hr
 ·rename_i p q hx hy
  simp only [Option.some.injEq] at hr; subst hr
  have e1 := Z2j h hx; have e2 := Z2j h hy
  have hq : p.size + q.size <= 9223372036854775807 := nle Z1b
  refine Z0j h hd (v := .string (p ++ q)) (hrun ?_ ?_) (.inr rfl)
  ·rw [e1, e2]; rfl
  ·rw [e1, e2]
   show (Op.stringOp .add p q).run P w = _
   unfold Op.stringOp
   dsimp only
   rw [if_neg (by
     have : IntKind.i64.max = 9223372036854775807 := by decide
     rw [this]; omega)]
   rfl
 ·rename_i k p k' q hx hy
  split at hr
  ·rename_i hk
   subst hk
   simp only [Option.some.injEq] at hr; subst hr
   have e1 := Z2j h hx; have e2 := Z2j h hy
   have hq : q ≠ 0 := by simpa [Out.pure] using Z1b
   refine Z0j h hd (v := .int k (k.wrap (p.tdiv q))) (hrun ?_ ?_) (.inr rfl)
   ·rw [e1, e2]; rfl
   ·rw [e1, e2]; simp [binOp, Op.intDiv, hq]
  ·cases hr
 ·rename_i k p k' q hx hy
  split at hr
  ·rename_i hk
   subst hk
   simp only [Option.some.injEq] at hr; subst hr
   have e1 := Z2j h hx; have e2 := Z2j h hy
   have hq : q ≠ 0 := by simpa [Out.pure] using Z1b
   refine Z0j h hd (v := .int k (p.tmod q)) (hrun ?_ ?_) (.inr rfl)
   ·rw [e1, e2]; rfl
   ·rw [e1, e2]; simp [binOp, Op.intDiv, hq]
  ·cases hr
 ·rename_i p q hx hy
  split at hr
  ·rename_i k b hk hb
   split at hr
   ·rename_i hsz
    simp only [Option.some.injEq] at hr; subst hr
    simp only [Bool.and_eq_true] at hsz
    have e1 := Z2j h hx; have e2 := Z2j h hy
    obtain ⟨e, q', ht, he, hs⟩ := ZmR hk
    obtain ⟨l, m, h1, h2, rfl⟩ := ZhH hb
    have p1 : p = (l.map (Value.int .i64)).toArray := by rw [<- h1]
    have p2 : q = (m.map (Value.int .i64)).toArray := by rw [<- h2]
    have l1 : l.length = k := by have := neq hsz.1; rw [p1] at this; simpa using this
    have l2 : m.length = k := by have := neq hsz.2; rw [p2] at this; simpa using this
    refine Z0j h hd (v := .bool (l == m)) (hrun ?_ ?_) (.inr rfl)
    ·rw [e1, e2]; exact run_eqGuard_agg w .eql t x y p q (hg k hk)
    ·rw [e1, e2, p1, p2, run_eql_struct, Zjn (d := 9998) ht he hs l m l1 l2 w]
     rfl
   ·cases hr
  ·rename_i b hn hb
   split at hr
   ·rename_i k hk hag
    split at hr
    ·rename_i hsz
     simp only [Option.some.injEq] at hr; subst hr
     simp only [Bool.and_eq_true, Bool.not_eq_true'] at hsz
     have e1 := Z2j h hx; have e2 := Z2j h hy
     obtain ⟨l, m, h1, h2, rfl⟩ := ZhH hb
     have p1 : p = Z9I l := by unfold Z9I; rw [<- h1]
     have p2 : q = Z9I m := by unfold Z9I; rw [<- h2]
     have l1 : l.length = k := by have := neq hsz.1.1; rw [p1] at this; simpa using this
     have l2 : m.length = k := by have := neq hsz.1.2; rw [p2] at this; simpa using this
     refine Z0j h hd (v := .bool (l == m)) (hrun ?_ ?_) (.inr rfl)
     ·rw [e1, e2]; exact run_eqGuard_agg w .eql t x y p q hsz.2
     ·rw [e1, e2, p1, p2, run_eql_struct, Zjm hk (ZIB hk hag) l m l1 l2 w]
      rfl
    ·cases hr
   ·cases hr
  ·cases hr
 ·rename_i p q hx hy
  split at hr
  ·rename_i k b hk hb
   split at hr
   ·rename_i hsz
    simp only [Option.some.injEq] at hr; subst hr
    simp only [Bool.and_eq_true] at hsz
    have e1 := Z2j h hx; have e2 := Z2j h hy
    obtain ⟨e, q', ht, he, hs⟩ := ZmR hk
    obtain ⟨l, m, h1, h2, rfl⟩ := ZhH hb
    have p1 : p = (l.map (Value.int .i64)).toArray := by rw [<- h1]
    have p2 : q = (m.map (Value.int .i64)).toArray := by rw [<- h2]
    have l1 : l.length = k := by have := neq hsz.1; rw [p1] at this; simpa using this
    have l2 : m.length = k := by have := neq hsz.2; rw [p2] at this; simpa using this
    refine Z0j h hd (v := .bool (!(l == m))) (hrun ?_ ?_) (.inr rfl)
    ·rw [e1, e2]; exact run_eqGuard_agg w .neq t x y p q (hg k hk)
    ·rw [e1, e2, p1, p2, run_neq_struct, Zjn (d := 9998) ht he hs l m l1 l2 w]
     rfl
   ·cases hr
  ·rename_i b hn hb
   split at hr
   ·rename_i k hk hag
    split at hr
    ·rename_i hsz
     simp only [Option.some.injEq] at hr; subst hr
     simp only [Bool.and_eq_true, Bool.not_eq_true'] at hsz
     have e1 := Z2j h hx; have e2 := Z2j h hy
     obtain ⟨l, m, h1, h2, rfl⟩ := ZhH hb
     have p1 : p = Z9I l := by unfold Z9I; rw [<- h1]
     have p2 : q = Z9I m := by unfold Z9I; rw [<- h2]
     have l1 : l.length = k := by have := neq hsz.1.1; rw [p1] at this; simpa using this
     have l2 : m.length = k := by have := neq hsz.1.2; rw [p2] at this; simpa using this
     refine Z0j h hd (v := .bool (!(l == m))) (hrun ?_ ?_) (.inr rfl)
     ·rw [e1, e2]; exact run_eqGuard_agg w .neq t x y p q hsz.2
     ·rw [e1, e2, p1, p2, run_neq_struct, Zjm hk (ZIB hk hag) l m l1 l2 w]
      rfl
    ·cases hr
   ·cases hr
  ·cases hr
 ·exact ZgK h hd (.inl ⟨_, _, _, _, _, ho⟩) hr
theorem ZGa {t : TypeId} {k : Nat} (h : Zv1 P t = some k) (hd : 2 <= P.depth) : P.eqGuardType P.depth t = false := by
 obtain ⟨e, q, ht, he, _⟩ := ZmR h
 obtain ⟨d, hd⟩ : ∃ d, P.depth = d + 2 := ⟨P.depth - 2, by omega⟩
 rw [hd]
 unfold Program.eqGuardType
 rw [ht]
 dsimp only
 unfold Program.eqGuardType
 rw [he]
end

section
variable {P : Program} {S : Sums} {W : World} {M : MV} {n : Nat} {s : FSt} {a : Act} {w w' : World} {ρ ρ' : Nat -> Value} {H : Nat -> Option Blk} {o : Oper} {r : Out} {Q : Exit -> Act -> World -> Prop} {K : Act -> World -> Prop}
theorem Zgy (g i j : Nat) : (⟨g, i, none⟩ : Addr).add j = ⟨g, i + j, none⟩ := by unfold Addr.add; split <;> simp_all
theorem ZDD (h : R P W M n s a w ρ) (hd : Z0F n o.dst = true) {f : Nat} {first captured : Array Operand} (ho : o.op = .makeFunc (.func f) first captured)
  (hr : (if Nat.beq first.size 0 = true then
  match Z2m (fun x => match s.ev x with | .ptr id 0 => some id | _ => none) captured.toList with
  | some l => some (Out.pure true (.clo f l))
  | none => none
  else none) = some r) : Goal P W M n o s r a w Q := by
 split at hr
 ·rename_i h0
  split at hr
  ·rename_i l hl
   simp only [Option.some.injEq] at hr; subst hr
   have hf : first = #[] := Array.eq_empty_of_size_eq_zero (neq h0)
   refine Z0j h hd (v := .func (.func f) #[] (captured.toList.map a.eval).toArray) ?_ (.inr ⟨captured.toList.map a.eval, rfl, ?_⟩)
   ·simp only [execOp, ho, Instr.makeFunc, hf]
    have e : captured.map a.eval = (captured.toList.map a.eval).toArray := by apply Array.toList_inj.1; simp
    rw [e]
    simp
   ·have := Zeu hl
    clear hl ho
    generalize captured.toList = cs at this
    induction cs generalizing l with
    | nil => cases l <;> first | exact True.intro | cases this
    | cons c cs ih =>
     cases l with
     | nil => cases this
     | cons i l =>
      obtain ⟨p, q⟩ := this
      refine ⟨?_, ih _ q⟩
      have hc := h.ev c
      split at p
      ·rename_i id hx
       simp only [Option.some.injEq] at p; subst p
       rw [hx] at hc
       obtain ⟨hl, g, o', ha, he⟩ := hc
       exact ⟨hl, g, o', ha, he⟩
      ·cases p
  ·cases hr
 ·cases hr
theorem ZAY (h : R P W M n s a w ρ) (hd : Z0F n o.dst = true) {t : TypeId} {x : Operand} {f : Nat} (ho : o.op = .fieldAddr t x f)
  (hr : (match s.ev x, P.underlying t with
  | .ptr id off, some (.struct fs) => match fs[f]? with
   | some fd => match Zt P (sizeOf fd.type) with
    | some sz => if Nat.ble 1 sz = true then some (Out.pure true (.ptr id (off + fd.offset))) else none
    | none => none
   | none => none
  | _, _ => none) = some r) : Goal P W M n o s r a w Q := by
 split at hr
 ·rename_i id off fs hx hu
  split at hr
  ·rename_i fd hf
   split at hr
   ·rename_i sz hsz
    split at hr
    ·rename_i hle
     simp only [Option.some.injEq] at hr; subst hr
     have hv := h.ev x
     rw [hx] at hv
     obtain ⟨hl, g, o', ha, he⟩ := hv
     refine Z0j h hd (v := .pointer (some ⟨g, o' + (off + fd.offset), none⟩)) ?_ (.inr ⟨hl, g, o', ha, rfl⟩)
     have hle := nle hle
     simp only [execOp, ho, he, Instr.fieldAt]
     rw [Zq (x := .pointer (some ⟨g, o' + (off + fd.offset), none⟩)) (w1 := w)]
     ·rfl
     ·rw [Zq (run_underlying hu w)]
      simp only [hf]
      rw [Z0r (x := (⟨g, o' + off, none⟩ : Addr)) rfl]
      unfold fieldPlace
      have : (do if (<- sizeOf fd.type) = 0 then partAt ⟨g, o' + off, none⟩ fd.offset fd.byteOffset else Pure.pure ((⟨g, o' + off, none⟩ : Addr).add fd.offset) : Sem Addr).run P w = .ok ⟨g, o' + (off + fd.offset), none⟩ w := by
       rw [Z0r hsz, if_neg (by omega), Zgy, Nat.add_assoc]
       rfl
      rw [Zq this]
      rfl
    ·cases hr
   ·cases hr
  ·cases hr
 ·cases hr
theorem Z1d {m : Sem Value} {v : Value} {w1 : World} (h : m.run P w = .ok v w1) : ((do Pure.pure (Next.value (<- m)) : Sem Next)).run P w = .ok (.value v) w1 := by
 rw [Zq h]; rfl
theorem ZQf {t e : TypeId} {k : IntKind} {i : Int} {len sz g o' : Nat} (ht : P.underlying t = some (.array len e)) (hs : Zt P (sizeOf e) = some sz) (h0 : 0 <= i) (h1 : i < (len : Int)) (w : World) :
  (Instr.indexAt t (.pointer (some ⟨g, o', none⟩)) (.int k i)).run P w = .ok (.pointer (some ⟨g, o' + i.toNat * sz, none⟩)) w := by
 unfold Instr.indexAt
 rw [Z0r (x := (k, i)) rfl]
 dsimp only
 rw [Zq (run_underlying ht w)]
 dsimp only
 rw [Z0r (x := (⟨g, o', none⟩ : Addr)) rfl]
 rw [Z0r (x := (some (⟨g, o', none⟩ : Addr), len, e)) rfl]
 dsimp only
 rw [Zq (run_underlying ht w)]
 dsimp only
 rw [if_pos ⟨h0, h1⟩, Z0r hs, Zgy]
 rfl
theorem ZPK {t e : TypeId} {k : IntKind} {i : Int} {len cap sz g o' : Nat} (ht : P.underlying t = some (.slice e)) (hs : Zt P (sizeOf e) = some sz) (h0 : 0 <= i) (h1 : i < (len : Int)) (w : World) :
  (Instr.indexAt t (.slice (some ⟨g, o', none⟩) len cap) (.int k i)).run P w = .ok (.pointer (some ⟨g, o' + i.toNat * sz, none⟩)) w := by
 unfold Instr.indexAt
 rw [Z0r (x := (k, i)) rfl]
 dsimp only
 rw [Zq (run_underlying ht w)]
 dsimp only
 rw [Z0r (x := (some (⟨g, o', none⟩ : Addr), len, e)) rfl]
 dsimp only
 rw [Zq (run_underlying ht w)]
 dsimp only
 rw [if_pos ⟨h0, h1⟩, Z0r hs, Zgy]
 rfl
theorem ZJh (h : R P W M n s a w ρ) {id m : Nat} {c : Cells} {b : Blk} (hb : s.heap id = some b) (hk : b = .ros m c \/ ∃ e sz, b = .row e sz m c) (hm : 0 < m) : ∃ g o' cap, ρ id = .slice (some ⟨g, o', none⟩) m cap := by
 have hr : Z3i w none (ρ id) m c := by
  rcases hk with rfl | ⟨e, sz, rfl⟩
  ·exact Zkt h hb
  ·exact ZiD h hb
 rcases hr.2 with ⟨_, h0, _⟩ | ⟨g, o', cap, h1, _⟩
 ·omega
 ·exact ⟨g, o', cap, h1⟩
theorem ZAZ (h : R P W M n s a w ρ) (hd : Z0F n o.dst = true) {t : TypeId} {x i : Operand} (ho : o.op = .indexAddr t x i)
  (hr : (match s.ev x, s.ev i, P.underlying t with
  | .ptr id off, .val (.int _ n), some (.array len e) => match Zt P (sizeOf e) with
   | some sz => some (Out.pure (decide (0 <= n) && decide (n < (len : Int))) (.ptr id (off + n.toNat * sz)))
   | none => none
  | .row id, .val (.int _ n), some (.slice e) => match s.heap id, Zt P (sizeOf e) with
   | some (.row _ _ len _), some sz => some (.pure (decide (0 <= n) && decide (n < (len : Int))) (.ptr id (n.toNat * sz)))
   | some (.ros len _), some sz => some (.pure (decide (0 <= n) && decide (n < (len : Int))) (.ptr id (n.toNat * sz)))
   | _, _ => none
  | .sub id off len _, .val (.int _ n), some (.slice e) => match Zt P (sizeOf e) with
   | some sz => some (.pure (decide (0 <= n) && decide (n < (len : Int))) (.ptr id (off + n.toNat * sz)))
   | none => none
  | _, _, _ => none) = some r) (Z1b : r.chk = true) : Goal P W M n o s r a w Q := by
 have hv := h.ev x
 split at hr
 ·rename_i id off k i' len e hx hi hu
  rw [hx] at hv
  obtain ⟨hl, g, o', ha, he⟩ := hv
  split at hr
  ·rename_i sz hs
   simp only [Option.some.injEq] at hr; subst hr
   simp only [Out.pure, Bool.and_eq_true, decide_eq_true_eq] at Z1b
   refine Z0j h hd (v := .pointer (some ⟨g, o' + (off + i'.toNat * sz), none⟩)) ?_ (.inr ⟨hl, g, o', ha, rfl⟩)
   simp only [execOp, ho, he, Z2j h hi]
   rw [Z1d (ZQf hu hs Z1b.1 Z1b.2 w), Nat.add_assoc]
  ·cases hr
 ·rename_i id k i' e hx hi hu
  rw [hx] at hv
  obtain ⟨hl, he⟩ := hv
  have fin : ∀ (m sz : Nat) (c : Cells) (b : Blk), s.heap id = some b -> (b = .ros m c \/ ∃ e sz, b = .row e sz m c) -> Zt P (sizeOf e) = some sz -> (decide (0 <= i') && decide (i' < (m : Int))) = true ->
    Goal P W M n o s (.pure (decide (0 <= i') && decide (i' < (m : Int))) (.ptr id (i'.toNat * sz))) a w Q := by
   intro m sz c b hb hk hs Z1b
   simp only [Bool.and_eq_true, decide_eq_true_eq] at Z1b
   obtain ⟨g, o', cap, hf⟩ := ZJh h hb hk (by omega)
   refine Z0j h hd (v := .pointer (some ⟨g, o' + i'.toNat * sz, none⟩)) ?_ (.inr ⟨hl, g, o', by rw [hf]; rfl, rfl⟩)
   simp only [execOp, ho, he, hf, Z2j h hi]
   exact Z1d (ZPK hu hs Z1b.1 Z1b.2 w)
  split at hr
  ·rename_i e' z m c sz hb hs
   simp only [Option.some.injEq] at hr; subst hr
   exact fin m sz c _ hb (.inr ⟨_, _, rfl⟩) hs Z1b
  ·rename_i m c sz hb hs
   simp only [Option.some.injEq] at hr; subst hr
   exact fin m sz c _ hb (.inl rfl) hs Z1b
  ·cases hr
 ·rename_i id off len z k i' e hx hi hu
  rw [hx] at hv
  obtain ⟨hl, q, cap, he, hq⟩ := hv
  split at hr
  ·rename_i sz hs
   simp only [Option.some.injEq] at hr; subst hr
   simp only [Out.pure, Bool.and_eq_true, decide_eq_true_eq] at Z1b
   rcases hq with ⟨_, hk0, _⟩ | ⟨g, o', o2, ha, rfl, hc, ho2⟩
   ·omega
   obtain rfl := ho2 (by omega)
   refine Z0j h hd (v := .pointer (some ⟨g, o' + (off + i'.toNat * sz), none⟩)) ?_ (.inr ⟨hl, g, o', ha, rfl⟩)
   simp only [execOp, ho, he, Z2j h hi]
   rw [Z1d (ZPK hu hs Z1b.1 Z1b.2 w), Nat.add_assoc]
  ·cases hr
 ·cases hr
theorem ZDE (h : R P W M n s a w ρ) (hd : Z0F n o.dst = true) {x : Operand} (ho : o.op = .nilCheck x)
  (hr : (match s.ev x with
  | .ptr id off => some (Out.pure true (.ptr id off))
  | _ => none) = some r) : Goal P W M n o s r a w Q := by
 have hv := h.ev x
 split at hr
 ·rename_i id off hx
  rw [hx] at hv
  simp only [Option.some.injEq] at hr; subst hr
  obtain ⟨hl, g, o', ha, he⟩ := hv
  refine Z0j h hd (v := .pointer (some ⟨g, o' + off, none⟩)) ?_ (.inr ⟨hl, g, o', ha, rfl⟩)
  simp only [execOp, ho, he]
  rfl
 ·cases hr
theorem ZDF (h : R P W M n s a w ρ) (hd : Z0F n o.dst = true) {t : TypeId} {x : Operand} (ho : o.op = .sliceToArrayPointer t x)
  (hr : (match s.ev x, P.underlying t with
  | .row id, some (.array len _) => match s.heap id with
   | some (.row _ _ m _) => some (Out.pure (Nat.ble len m && Nat.ble 1 m) (.ptr id 0))
   | some (.ros m _) => some (.pure (Nat.ble len m && Nat.ble 1 m) (.ptr id 0))
   | _ => none
  | _, _ => none) = some r) (Z1b : r.chk = true) : Goal P W M n o s r a w Q := by
 have hv := h.ev x
 split at hr
 ·rename_i id len e hx hu
  rw [hx] at hv
  obtain ⟨hl, he⟩ := hv
  have fin : ∀ (m : Nat) (c : Cells) (b : Blk), s.heap id = some b -> (b = .ros m c \/ ∃ e sz, b = .row e sz m c) -> (Nat.ble len m && Nat.ble 1 m) = true ->
    Goal P W M n o s (.pure (Nat.ble len m && Nat.ble 1 m) (.ptr id 0)) a w Q := by
   intro m c b hb hk Z1b
   simp only [Bool.and_eq_true] at Z1b
   have h1 := Nat.le_of_ble_eq_true Z1b.1
   have h2 := Nat.le_of_ble_eq_true Z1b.2
   obtain ⟨g, o', cap, hf⟩ := ZJh h hb hk (by omega)
   refine Z0j h hd (v := .pointer (some ⟨g, o', none⟩)) ?_ (.inr ⟨hl, g, o', by rw [hf]; rfl, rfl⟩)
   simp only [execOp, ho, he, hf]
   refine Z1d ?_
   unfold Instr.arrayAt
   rw [Zq (run_underlying hu w)]
   dsimp only
   rw [if_neg (by omega)]
   rfl
  split at hr
  ·rename_i e' z m c hb
   simp only [Option.some.injEq] at hr; subst hr
   exact fin m c _ hb (.inr ⟨_, _, rfl⟩) Z1b
  ·rename_i m c hb
   simp only [Option.some.injEq] at hr; subst hr
   exact fin m c _ hb (.inl rfl) Z1b
  ·cases hr
 ·cases hr
theorem ZKg (h : R P W M n s a w ρ) (hd : Z0F n o.dst = true) {t : TypeId} {x i : Operand} (ho : o.op = .index t x i)
  (hr : (match s.ev x, s.ev i, P.underlying t with
  | .val (.agg cs), .val (.int _ n), some (.array len e) => match Zt P (sizeOf e) with
   | some sz => match Zt P (part e cs (n.toNat * sz)) with
    | some v => some (Out.pure (decide (0 <= n) && decide (n < (len : Int))) (.val v))
    | none => none
   | none => none
  | .val (.string b), .val (.int _ n), some .string => some (.pure (decide (0 <= n) && decide (n < (b.size : Int))) (.val (.int .u8 (b.data.getD n.toNat 0).toNat)))
  | _, _, _ => none) = some r) (Z1b : r.chk = true) : Goal P W M n o s r a w Q := by
 split at hr
 ·rename_i cs k i' len e hx hi hu
  split at hr
  ·rename_i sz hs
   split at hr
   ·rename_i v hp
    simp only [Option.some.injEq] at hr; subst hr
    simp only [Out.pure, Bool.and_eq_true, decide_eq_true_eq] at Z1b
    refine Z0j h hd (v := v) ?_ (.inr rfl)
    simp only [execOp, ho, Z2j h hx, Z2j h hi]
    refine Z1d ?_
    unfold Instr.index
    rw [Z0r (x := (k, i')) rfl]
    dsimp only
    rw [Zq (run_underlying hu w)]
    dsimp only
    rw [if_pos Z1b, Z0r hs]
    exact Z5w hp w
   ·cases hr
  ·cases hr
 ·rename_i b k i' hx hi hu
  simp only [Option.some.injEq] at hr; subst hr
  simp only [Out.pure, Bool.and_eq_true, decide_eq_true_eq] at Z1b
  refine Z0j h hd (v := .int .u8 (b.data.getD i'.toNat 0).toNat) ?_ (.inr rfl)
  simp only [execOp, ho, Z2j h hx, Z2j h hi]
  refine Z1d ?_
  unfold Instr.index
  rw [Z0r (x := (k, i')) rfl]
  dsimp only
  rw [Zq (run_underlying hu w)]
  dsimp only
  rw [if_pos Z1b.1]
  have hlt : i'.toNat < b.size := by omega
  have : b[i'.toNat]? = some (b.data.getD i'.toNat 0) := by
   have h2 : i'.toNat < b.data.size := hlt
   rw [getElem?_pos b i'.toNat hlt]
   simp only [Array.getD_eq_getD_getElem?, Array.getElem?_eq_getElem h2, Option.getD_some]
   rfl
  rw [this]
  rfl
 ·cases hr
theorem ZNB (h : R P W M n s a w ρ) {d k : Int} {x : Option Operand} (hb : Zc8 s d x = some k) : (x = none /\ k = d) \/ ∃ y, x = some y /\ a.eval y = .int .i64 k := by
 cases x with
 | none => simp only [Zc8, Option.some.injEq] at hb; exact .inl ⟨rfl, hb.symm⟩
 | some y =>
  simp only [Zc8] at hb
  split at hb
  ·rename_i k' hy
   simp only [Option.some.injEq] at hb; subst hb
   exact .inr ⟨y, rfl, Z2j h hy⟩
  ·cases hb
theorem ZA8 (h : R P W M n s a w ρ) {isS : Bool} {len cap : Nat} {lo hi : Option Operand} {l k : Int} (hl : Zc8 s 0 lo = some l) (hk : Zc8 s (len : Int) hi = some k) (h0 : 0 <= l) (h1 : l <= k) (h2 : k <= (len : Int)) (h3 : len <= cap) :
  (Instr.sliceBounds isS len cap (lo.map a.eval) (hi.map a.eval) none).run P w = .ok (l.toNat, k.toNat, cap) w := by
 have one : ∀ (i : Int) (y : Nat) (ZR : BoundsCode), 0 <= i -> i <= y -> (Instr.sliceBound (.int .i64 i) y ZR).run P w = .ok i.toNat w := by
  intro i y ZR hi0 hi1
  unfold Instr.sliceBound
  rw [Z0r (x := (IntKind.i64, i)) rfl]
  dsimp only
  rw [if_pos ⟨hi0, hi1⟩]
  rfl
 unfold Instr.sliceBounds
 dsimp only
 rw [Z0r (x := cap) rfl]
 rcases ZNB h hk with ⟨rfl, rfl⟩ | ⟨y, rfl, hy⟩ <;> rcases ZNB h hl with ⟨rfl, rfl⟩ | ⟨z, rfl, hz⟩
 ·show (pure (0, len, cap) : Sem (Nat × Nat × Nat)).run P w = _
  rw [Int.toNat_natCast]
  rfl
 ·simp only [Option.map_none, Option.map_some, hz]
  rw [Z0r (x := len) rfl, Zq (one l len _ h0 h1), Int.toNat_natCast]
  rfl
 ·simp only [Option.map_none, Option.map_some, hy]
  rw [Zq (one k cap _ (by omega) (by omega)), Z0r (x := 0) rfl]
  rfl
 ·simp only [Option.map_some, hy, hz]
  rw [Zq (one k cap _ (by omega) (by omega)), Zq (one l k.toNat _ h0 (by omega))]
  rfl
theorem ZDG (h : R P W M n s a w ρ) (hd : Z0F n o.dst = true) {t e : TypeId} {x : Operand} {lo hi : Option Operand} {id : Nat} (ho : o.op = .slice t x lo hi none) (hx : s.ev x = .row id) (hu : P.underlying t = some (.slice e)) (hr : ZeB P s id lo hi e = some r) (Z1b : r.chk = true) : Goal P W M n o s r a w Q := by
 have hv := h.ev x
 rw [hx] at hv
 obtain ⟨hl, he⟩ := hv
 have fin : ∀ (m sz : Nat) (c : Cells) (l k : Int), Z3i w none (ρ id) m c -> Zt P (sizeOf e) = some sz -> Zc8 s 0 lo = some l -> Zc8 s (m : Int) hi = some k -> (decide (0 <= l) && decide (l <= k) && decide (k <= (m : Int))) = true ->
   Goal P W M n o s (.pure (decide (0 <= l) && decide (l <= k) && decide (k <= (m : Int))) (.sub id (l.toNat * sz) (k.toNat - l.toNat) sz)) a w Q := by
  intro m sz c l k hrr hs hbl hbk hck
  simp only [Bool.and_eq_true, decide_eq_true_eq] at hck
  obtain ⟨⟨c1, c2⟩, c3⟩ := hck
  have run : ∀ (q : Option Addr) (cap : Nat), m <= cap -> (Instr.sliceAt t (.slice q m cap) (lo.map a.eval) (hi.map a.eval) none).run P w = .ok (.slice (if cap = l.toNat then q else q.map (·.add (l.toNat * sz))) (k.toNat - l.toNat) (cap - l.toNat)) w := by
   intro q cap hcap
   unfold Instr.sliceAt
   rw [Zq (run_underlying hu w)]
   dsimp only
   unfold Instr.slice
   rw [Zq (run_underlying hu w)]
   dsimp only
   rw [Zq (ZA8 h hbl hbk c1 c2 c3 hcap)]
   dsimp only
   rw [Z0r hs]
   rfl
  rcases hrr.2 with ⟨h0, hm, _⟩ | ⟨g, o', cap, h0, hcap, _⟩
  ·subst hm
   have e1 : l.toNat = 0 := by omega
   have e2 : k.toNat = 0 := by omega
   refine Z0j h hd (v := .slice none 0 0) ?_ (.inr ⟨hl, none, 0, by rw [e1, e2], .inl ⟨rfl, by rw [e1, e2], rfl⟩⟩)
   simp only [execOp, ho, he, h0, Option.map_none]
   rw [Z1d (run none 0 (Nat.le_refl _)), e1, e2]
   rfl
  ·refine Z0j h hd (v := .slice (if cap = l.toNat then some ⟨g, o', none⟩ else some ⟨g, o' + l.toNat * sz, none⟩) (k.toNat - l.toNat) (cap - l.toNat)) ?_ (.inr ⟨hl, _, _, rfl, .inr ?_⟩)
   ·simp only [execOp, ho, he, h0, Option.map_none]
    rw [Z1d (run _ cap hcap)]
    split
    ·rfl
    ·rw [Option.map_some, Zgy]
   ·by_cases hc : cap = l.toNat
    ·rw [if_pos hc]
     exact ⟨g, o', o', by rw [h0]; rfl, rfl, by omega, fun hp => by omega⟩
    ·rw [if_neg hc]
     exact ⟨g, o', _, by rw [h0]; rfl, rfl, by omega, fun _ => rfl⟩
 unfold ZeB at hr
 split at hr
 ·rename_i sz e' z m c hs hb
  split at hr
  ·rename_i l k hbl hbk
   simp only [Option.some.injEq] at hr; subst hr
   exact fin m sz c l k (ZiD h hb) hs hbl hbk Z1b
  ·cases hr
 ·rename_i sz m c hs hb
  split at hr
  ·rename_i l k hbl hbk
   simp only [Option.some.injEq] at hr; subst hr
   exact fin m sz c l k (Zkt h hb) hs hbl hbk Z1b
  ·cases hr
 ·cases hr
theorem ZDH (h : R P W M n s a w ρ) (hd : Z0F n o.dst = true) {t : TypeId} {x : Operand} {lo hi : Option Operand} {b : ByteArray} (ho : o.op = .slice t x lo hi none) (hx : s.ev x = .val (.string b)) (hu : P.underlying t = some .string) (hr : ZeC s b lo hi = some r) (Z1b : r.chk = true) : Goal P W M n o s r a w Q := by
 have hv := Z2j h hx
 unfold ZeC at hr
 split at hr
 ·rename_i l k hbl hbk
  simp only [Option.some.injEq] at hr; subst hr
  simp only [Out.pure, Bool.and_eq_true, decide_eq_true_eq] at Z1b
  obtain ⟨⟨c1, c2⟩, c3⟩ := Z1b
  refine Z0j h hd (v := .string (b.extract l.toNat k.toNat)) ?_ (.inr rfl)
  simp only [execOp, ho, hv, Option.map_none]
  refine Z1d ?_
  unfold Instr.sliceAt
  rw [Zq (run_underlying hu w)]
  dsimp only
  unfold Instr.slice
  rw [Zq (run_underlying hu w)]
  dsimp only
  rw [if_neg (by simp), Zq (ZA8 h hbl hbk c1 c2 c3 (Nat.le_refl _))]
  rfl
 ·cases hr
theorem ZKh (h : R P W M n s a w ρ) (hd : Z0F n o.dst = true) {t : TypeId} {x : Operand} {lo hi mx : Option Operand}
  (hr : (match s.ev x, lo, hi, mx, P.underlying t with
  | .ptr id off, none, none, none, some (.array n e) => match Zt P (sizeOf e) with
   | some sz => some (Out.pure true (.sub id off n sz))
   | none => none
  | .ptr id off, none, some hx, none, some (.array n e) => match s.ev hx with
   | .val hv => match Zt P (Instr.sliceBounds false n n none (some hv) none), Zt P (sizeOf e) with
    | some (0, h, m), some sz => if Nat.ble h m = true then some (.pure true (.sub id off h sz)) else none
    | _, _ => none
   | _ => none
  | .row id, none, none, none, some (.slice e) => match Zt P (sizeOf e) with
   | some _ => match s.heap id with
    | some (.row ..) => some (.pure true (.row id))
    | some (.ros ..) => some (.pure true (.row id))
    | _ => none
   | none => none
  | .row id, lo, hi, none, some (.slice e) => ZeB P s id lo hi e
  | .val (.string b), lo, hi, none, some .string => ZeC s b lo hi
  | _, _, _, _, _ => none) = some r) (Z1b : r.chk = true) (ho : o.op = .slice t x lo hi mx) : Goal P W M n o s r a w Q := by
 have hv := h.ev x
 split at hr
 ·rename_i id off k e hx hu
  rw [hx] at hv
  obtain ⟨hl, g, o', ha, he⟩ := hv
  split at hr
  ·rename_i sz hs
   simp only [Option.some.injEq] at hr; subst hr
   refine Z0j h hd (v := .slice (some ⟨g, o' + off, none⟩) k k) ?_ (.inr ⟨hl, _, k, rfl, .inr ⟨g, o', _, ha, rfl, Nat.le_refl _, fun _ => rfl⟩⟩)
   simp only [execOp, ho, he, Option.map_none]
   refine Z1d ?_
   unfold Instr.sliceAt
   rw [Zq (run_underlying hu w)]
   dsimp only
   rw [Z0r (x := (⟨g, o' + off, none⟩ : Addr)) rfl]
   rw [Z0r (x := (0, k, k)) rfl]
   dsimp only
   rw [Z0r hs, Nat.zero_mul, Zgy]
   simp
  ·cases hr
 ·rename_i id off hx' k e hx hu
  rw [hx] at hv
  obtain ⟨hl, g, o', ha, he⟩ := hv
  split at hr
  ·rename_i hvv hvx
   split at hr
   ·rename_i h' m' sz hb hs
    split at hr
    ·rename_i hle
     simp only [Option.some.injEq] at hr; subst hr
     have hle := nle hle
     have hev := Z2j h hvx
     refine Z0j h hd (v := .slice (some ⟨g, o' + off, none⟩) h' m') ?_ (.inr ⟨hl, _, m', rfl, .inr ⟨g, o', _, ha, rfl, hle, fun _ => rfl⟩⟩)
     simp only [execOp, ho, he, Option.map_none, Option.map_some, hev]
     refine Z1d ?_
     unfold Instr.sliceAt
     rw [Zq (run_underlying hu w)]
     dsimp only
     rw [Z0r (x := (⟨g, o' + off, none⟩ : Addr)) rfl]
     rw [Z0r hb]
     dsimp only
     rw [Z0r hs, Nat.zero_mul, Zgy]
     simp
    ·cases hr
   ·cases hr
  ·cases hr
 ·rename_i id e hx hu
  rw [hx] at hv
  obtain ⟨hl, he⟩ := hv
  split at hr
  ·rename_i sz hs
   have fin : ∀ (m : Nat) (c : Cells), Z3i w none (ρ id) m c -> Goal P W M n o s (.pure true (.row id)) a w Q := by
    intro m c hrr
    refine Z0j h hd (v := ρ id) ?_ (.inr ⟨hl, rfl⟩)
    simp only [execOp, ho, he, Option.map_none]
    refine Z1d ?_
    have key : ∀ (q : Option Addr) (len cap : Nat), q = none \/ (∃ g i, q = some ⟨g, i, none⟩) -> (Instr.sliceAt t (.slice q len cap) none none none).run P w = .ok (.slice q len cap) w := by
     intro q len cap hq
     unfold Instr.sliceAt
     rw [Zq (run_underlying hu w)]
     dsimp only
     unfold Instr.slice
     rw [Zq (run_underlying hu w)]
     dsimp only
     rw [Z0r (x := (0, len, cap)) rfl]
     dsimp only
     rw [Z0r hs, Nat.zero_mul]
     have : (if cap = 0 then q else q.map fun x => x.add 0) = q := by
      split
      ·rfl
      ·rcases hq with rfl | ⟨g, i, rfl⟩ <;> simp [Addr.add]
     simp [this]
    rcases hrr.2 with ⟨h0, _⟩ | ⟨g, i, cap, h0, _⟩ <;> rw [h0]
    ·exact key none 0 0 (.inl rfl)
    ·exact key _ _ _ (.inr ⟨g, i, rfl⟩)
   split at hr
   ·rename_i hb
    simp only [Option.some.injEq] at hr; subst hr
    exact fin _ _ (ZiD h hb)
   ·rename_i hb
    simp only [Option.some.injEq] at hr; subst hr
    exact fin _ _ (Zkt h hb)
   ·cases hr
  ·cases hr
 ·exact ZDG h hd ho (by assumption) (by assumption) hr Z1b
 ·exact ZDH h hd ho (by assumption) (by assumption) hr Z1b
 ·cases hr
theorem ZGM (h : R P W M n s a w ρ) (hd : Z0F n o.dst = true) {x : Operand} {i : Nat} (ho : o.op = .extract x i)
  (hr : (match s.ev x with
  | .tup l => match l[i]? with
   | some (.v v) => some (Out.pure true (.val v))
   | some (.r id) => some (.pure true (.row id))
   | none => none
  | _ => none) = some r) : Goal P W M n o s r a w Q := by
 have hv := h.ev x
 split at hr
 ·rename_i l hx
  rw [hx] at hv
  obtain ⟨vs, he, hall⟩ := hv
  have hrun : ∀ v, vs[i]? = some v -> (execOp a.eval o).run P w = .ok (.value v) w := by
   intro v hv
   simp only [execOp, ho, he]
   refine Z1d ?_
   unfold Instr.extract
   simp [hv]
  split at hr
  ·rename_i v hi
   simp only [Option.some.injEq] at hr; subst hr
   obtain ⟨u, hu, hrel⟩ := hall.get hi
   exact Z0j h hd (v := u) (hrun u hu) (.inr hrel)
  ·rename_i id hi
   simp only [Option.some.injEq] at hr; subst hr
   obtain ⟨u, hu, hrel⟩ := hall.get hi
   exact Z0j h hd (v := u) (hrun u hu) (.inr hrel)
  ·cases hr
 ·cases hr
theorem ZQy {c : Call} {x : Operand} {t : TypeId} (hx : c.args.toList = [x]) (ht : c.argTypes.toList = [t]) : c.args = #[x] /\ c.argTypes = #[t] :=
 ⟨Array.toList_inj.1 hx, Array.toList_inj.1 ht⟩
theorem ZaQ {c : Call} {b : Builtin} {ty : TypeId} (hc : c.callee = .builtin b) : ∃ cs, ∀ w : World, (resolve a.eval c ty).run P w = .ok { target := .builtin b c.argTypes ty cs, args := c.args.map a.eval } w := by
 unfold resolve
 rw [hc]
 exact ⟨_, fun w => rfl⟩
theorem ZNX (h : R P W M n s a w ρ) (hd : Z0F n o.dst = true) {c : Call} (ho : o.op = .call c) (hc : c.callee = .builtin .len)
  (hr : (match c.args.toList.map s.ev, c.argTypes.toList with
   | [.val (.string b)], [t] => match P.underlying t with
    | some .string => some (Out.pure true (.val (.int .i64 b.size)))
    | _ => none
   | [.row id], [t] => match s.heap id, P.underlying t with
    | some (.row _ _ n _), some (.slice _) => some (.pure true (.val (.int .i64 n)))
    | some (.ros n _), some (.slice _) => some (.pure true (.val (.int .i64 n)))
    | _, _ => none
   | [.sub _ _ n _], [t] => match P.underlying t with
    | some (.slice _) => some (.pure true (.val (.int .i64 n)))
    | _ => none
   | _, _ => none) = some r) : Goal P W M n o s r a w Q := by
 have one : ∀ {v : SV}, c.args.toList.map s.ev = [v] -> ∃ x, c.args.toList = [x] /\ s.ev x = v := by
  intro v hv
  match hq : c.args.toList, hv with
  | [x], hv => exact ⟨x, rfl, by simpa using hv⟩
  | [], hv => cases hv
  | _ :: _ :: _, hv => simp at hv
 have hrun : ∀ {x : Operand} {t : TypeId} {v : Value}, c.args.toList = [x] -> c.argTypes.toList = [t] -> (Builtin.len_ #[t] o.type #[a.eval x]).run P w = .ok v w -> (execOp a.eval o).run P w = .ok (.value v) w := by
  intro x t v hx ht hl
  obtain ⟨e1, e2⟩ := ZQy hx ht
  simp only [execOp, ho]
  obtain ⟨cs, this⟩ := ZaQ (P := P) (a := a) (ty := o.type) hc
  rw [e1, e2, show Array.map a.eval #[x] = #[a.eval x] from by simp] at this
  rw [Zq (this w)]
  exact Z1d hl
 have slen : ∀ {t e : TypeId} {q : Option Addr} {k cap : Nat}, P.underlying t = some (.slice e) -> (Builtin.len_ #[t] o.type #[.slice q k cap]).run P w = .ok (.int .i64 k) w := by
  intro t e q k cap hu
  unfold Builtin.len_
  simp [Sem.run_bind, run_underlying hu, goInt]
 split at hr
 ·rename_i b t ha ht
  obtain ⟨x, hx, hxe⟩ := one ha
  split at hr
  ·rename_i hu
   simp only [Option.some.injEq] at hr; subst hr
   refine Z0j h hd (v := .int .i64 b.size) (hrun hx ht ?_) (.inr rfl)
   rw [Z2j h hxe]
   unfold Builtin.len_
   simp [Sem.run_bind, run_underlying hu, goInt]
  ·cases hr
 ·rename_i id t ha ht
  obtain ⟨x, hx, hxe⟩ := one ha
  have hv := h.ev x
  rw [hxe] at hv
  obtain ⟨hl, he⟩ := hv
  have fin : ∀ (m : Nat) (cc : Cells) (e : TypeId), Z3i w none (ρ id) m cc -> P.underlying t = some (.slice e) -> Goal P W M n o s (.pure true (.val (.int .i64 m))) a w Q := by
   intro m cc e hrr hu
   refine Z0j h hd (v := .int .i64 m) (hrun hx ht ?_) (.inr rfl)
   rw [he]
   rcases hrr.2 with ⟨h0, hm, _⟩ | ⟨g, i, cap, h0, _⟩ <;> rw [h0]
   ·rw [hm]; exact slen hu
   ·exact slen hu
  split at hr
  ·rename_i hb hu
   simp only [Option.some.injEq] at hr; subst hr
   exact fin _ _ _ (ZiD h hb) hu
  ·rename_i hb hu
   simp only [Option.some.injEq] at hr; subst hr
   exact fin _ _ _ (Zkt h hb) hu
  ·cases hr
 ·rename_i id off k sz t ha ht
  obtain ⟨x, hx, hxe⟩ := one ha
  have hv := h.ev x
  rw [hxe] at hv
  obtain ⟨hl, q, cap, he, hq⟩ := hv
  split at hr
  ·rename_i hu
   simp only [Option.some.injEq] at hr; subst hr
   refine Z0j h hd (v := .int .i64 k) (hrun hx ht ?_) (.inr rfl)
   rw [he]
   exact slen hu
  ·cases hr
 ·cases hr
theorem ZNY (h : R P W M n s a w ρ) (hd : Z0F n o.dst = true) {c : Call} (ho : o.op = .call c) (hc : c.callee = .builtin .max)
  (hr : (match c.args.toList.map s.ev with
   | [.val (.int .i64 x), .val (.int .i64 y)] => some (Out.pure true (.val (.int .i64 (maxI x y))))
   | _ => none) = some r) : Goal P W M n o s r a w Q := by
 split at hr
 ·rename_i x y ha
  simp only [Option.some.injEq] at hr; subst hr
  obtain ⟨X, Y, hX, e1, e2⟩ : ∃ X Y, c.args.toList = [X, Y] /\ s.ev X = .val (.int .i64 x) /\ s.ev Y = .val (.int .i64 y) := by
   match hq : c.args.toList, ha with
   | [X, Y], ha =>
    simp at ha
    exact ⟨X, Y, rfl, ha.1, ha.2⟩
   | [], ha => cases ha
   | [_], ha => simp at ha
   | _ :: _ :: _ :: _, ha => simp at ha
  refine Z0j h hd (v := .int .i64 (maxI x y)) ?_ (.inr rfl)
  have hA : c.args = #[X, Y] := Array.toList_inj.1 hX
  simp only [execOp, ho]
  obtain ⟨cs, this⟩ := ZaQ (P := P) (a := a) (ty := o.type) hc
  rw [hA, show Array.map a.eval #[X, Y] = #[a.eval X, a.eval Y] from by simp] at this
  rw [Zq (this w), Z2j h e1, Z2j h e2]
  refine Z1d ?_
  unfold Builtin.max_
  rfl
 ·cases hr
theorem ZNZ (h : R P W M n s a w ρ) (hd : Z0F n o.dst = true) {c : Call} (ho : o.op = .call c) (hc : c.callee = .builtin .min)
  (hr : (match c.args.toList.map s.ev with
   | [.val (.int .i64 x), .val (.int .i64 y)] => some (Out.pure true (.val (.int .i64 (minI x y))))
   | _ => none) = some r) : Goal P W M n o s r a w Q := by
 split at hr
 ·rename_i x y ha
  simp only [Option.some.injEq] at hr; subst hr
  obtain ⟨X, Y, hX, e1, e2⟩ : ∃ X Y, c.args.toList = [X, Y] /\ s.ev X = .val (.int .i64 x) /\ s.ev Y = .val (.int .i64 y) := by
   match hq : c.args.toList, ha with
   | [X, Y], ha =>
    simp at ha
    exact ⟨X, Y, rfl, ha.1, ha.2⟩
   | [], ha => cases ha
   | [_], ha => simp at ha
   | _ :: _ :: _ :: _, ha => simp at ha
  refine Z0j h hd (v := .int .i64 (minI x y)) ?_ (.inr rfl)
  have hA : c.args = #[X, Y] := Array.toList_inj.1 hX
  simp only [execOp, ho]
  obtain ⟨cs, this⟩ := ZaQ (P := P) (a := a) (ty := o.type) hc
  rw [hA, show Array.map a.eval #[X, Y] = #[a.eval X, a.eval Y] from by simp] at this
  rw [Zq (this w), Z2j h e1, Z2j h e2]
  refine Z1d ?_
  unfold Builtin.min_
  rfl
 ·cases hr
end

end Go.Proofs.YtcdpfpfbilfpoaaGreatDoor
