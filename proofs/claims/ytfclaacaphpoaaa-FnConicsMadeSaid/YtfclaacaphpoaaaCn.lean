import Derived.WalkKit
import Derived.WalkSpells
import Derived.WalkLawsBesides
import Derived.Orders
import Derived.Maps.AppendAt
import Derived.Deep.OwnRows
import Derived.Laws.OwnMore
import Derived.LoopN
import Derived.Laws.BytesString
import Derived.Laws.Strings
set_option linter.unusedSimpArgs false
set_option linter.unusedVariables false
namespace Go.Proofs.Ytfclaacaphpoaaa
open Go.RowKit
def gvars : List (List Value) := []
inductive Cells
 | ints (l : List Int)
 | byts (l : List Int)
 | strs (l : List ByteArray)
 | vals (l : List Value)
def Cells.len : Cells -> Nat
 | .ints l => l.length
 | .byts l => l.length
 | .strs l => l.length
 | .vals l => l.length
def Cells.get : Cells -> Nat -> Value
 | .ints l, i => .int .i64 (l.getD i 0)
 | .byts l, i => .int .u8 (l.getD i 0)
 | .strs l, i => .string (l.getD i ByteArray.empty)
 | .vals l, i => l.getD i undef
def Cells.toVals : Cells -> List Value
 | .ints l => l.map (Value.int .i64)
 | .byts l => l.map (Value.int .u8)
 | .strs l => l.map Value.string
 | .vals l => l
def Z1M : List Value -> Option (List Int)
 | [] => some []
 | .int .i64 n :: l => match Z1M l with | some m => some (n :: m) | none => none
 | _ => none
def Z3p : List Value -> Option (List Int)
 | [] => some []
 | .int .u8 n :: l => match Z3p l with | some m => some (n :: m) | none => none
 | _ => none
def Z3y : List Value -> Option (List ByteArray)
 | [] => some []
 | .string n :: l => match Z3y l with | some m => some (n :: m) | none => none
 | _ => none
def cellsOf (l : List Value) : Cells := match Z1M l with | some m => .ints m | none => match Z3p l with | some m => .byts m | none => match Z3y l with | some m => .strs m | none => .vals l
def Cells.okB : Cells -> Bool
 | .ints _ => true
 | .byts _ => true
 | .strs _ => true
 | .vals l => l.all (·.oneCell')
def Cells.put : Cells -> Nat -> Value -> Option Cells
 | .ints l, i, .int .i64 n => some (.ints (l.set i n))
 | .byts l, i, .int .u8 n => some (.byts (l.set i n))
 | .strs l, i, .string n => some (.strs (l.set i n))
 | .vals l, i, .string s => some (.vals (l.set i (.string s)))
 | .vals l, i, .bool b => some (.vals (l.set i (.bool b)))
 | _, _, _ => none
def Cells.puts : Cells -> Nat -> List Value -> Option Cells
 | c, _, [] => some c
 | c, i, v :: l => match c.put i v with | some c' => c'.puts (i + 1) l | none => none
def Cells.app : Cells -> Cells -> Option Cells
 | .ints a, .ints b => some (.ints (a ++ b))
 | .byts a, .byts b => some (.byts (a ++ b))
 | .ints [], .byts b => some (.byts b)
 | .byts a, .ints [] => some (.byts a)
 | .strs a, .strs b => some (.strs (a ++ b))
 | .ints [], .strs b => some (.strs b)
 | .strs a, .ints [] => some (.strs a)
 | .vals a, .vals b => some (.vals (a ++ b))
 | .ints [], .vals b => some (.vals b)
 | .vals a, .ints [] => some (.vals a)
 | _, _ => none
def Cells.cut (c : Cells) (lo n : Nat) : Cells := match c with
 | .ints l => .ints ((l.drop lo).take n)
 | .byts l => .byts ((l.drop lo).take n)
 | .strs l => .strs ((l.drop lo).take n)
 | .vals l => .vals ((l.drop lo).take n)
inductive TI
 | v (x : Value)
 | r (id : Nat)
inductive SV
 | val (x : Value)
 | ptr (id off : Nat)
 | row (id : Nat)
 | sub (id off n sz : Nat)
 | clo (f : Nat) (caps : List Nat)
 | fn (g : List Value -> Option (Bool × Value))
 | tup (l : List TI)
 | agr (l : List TI)
 | junk
inductive Blk
 | box (elem : TypeId) (cells : List SV)
 | row (elem : TypeId) (sz n : Nat) (c : Cells)
 | ros (n : Nat) (c : Cells)
 | rop (cells : List SV)
 | fro (fr : Bool) (n : Nat) (c : Cells)
 | dee (own fr : Bool) (e : TypeId) (ls : List (List Int))
structure FSt where
 slot : Nat -> SV
 heap : Nat -> Option Blk
inductive PV
 | v (x : Value)
 | s (n : Nat) (c : Cells)
 | f (g : List Value -> Option (Bool × Value))
 | p (c : List Value)
 | ps (n : Nat) (c : Cells)
 | pf (g : List Value -> Option (Bool × Value))
 | d (ls : List (List Int))
inductive TR
 | v (x : Value)
 | s (elem : TypeId) (sz n : Nat) (c : Cells)
 | d (elem : TypeId) (ls : List (List Int))
inductive Ex
 | normal
 | exit (id : Nat)
 | ret
abbrev MRun := TypeId -> Nat -> Nat -> Cells -> List Value -> Option (Bool × Value × Cells)
inductive BC
 | v (x : Value)
 | s (n : Nat) (c : Cells)
abbrev PRun := TypeId -> List BC -> List PV -> Option (Bool × List Value × List BC)
abbrev BRun := List PV -> Option (Bool × TypeId × List Value)
inductive MFn
 | row (run : MRun)
 | box (run : PRun)
 | src (run : BRun)
 | cap (run : PRun)
structure Sums where
 f : Nat -> Option (List PV -> Option (Bool × List TR))
 m : Nat -> Option MFn
 k : Bool
 z : Bool
def Zu {α : Type} (P : Program) : Sem α -> Option α
 | .pure a => some a
 | .program k => Zu P (k P)
 | _ => none
def FSt.ev (s : FSt) : Operand -> SV
 | .tmp t => s.slot t
 | .const v => .val v
 | .global _ => .junk
 | .func f => .clo f []
def SV.vals : List SV -> Option (List Value)
 | [] => some []
 | .val x :: l => match SV.vals l with | some m => some (x :: m) | none => none
 | _ => none
def SV.isVal : SV -> Bool
 | .val _ => true
 | _ => false
def FSt.evV (s : FSt) (x : Operand) : Value := match s.ev x with | .val v => v | _ => undef
structure Out where
 chk : Bool
 v : SV
 news : List (Nat × Blk)
 upd : Option (Nat × Blk)
 drop : Option Nat
def Out.pure (chk : Bool) (v : SV) : Out := ⟨chk, v, [], none, none⟩
def nilS : Value := .slice none 0 0
def ZcL (P : Program) (s : FSt) (o : Oper) : Option Out :=
 if (o.op.operands.toList.all fun x => (s.ev x).isVal) = true then
  match Zu P (execOp s.evV o) with
  | some (.value v) => some (.pure true (.val v))
  | _ => none
 else none
def eqL : List Int -> List Int -> Bool
 | [], [] => true
 | [a], [b] => a == b
 | a :: l, b :: m => a == b && eqL l m
 | _, _ => false
def Zor (l m : List Value) : Option Bool := match Z1M l, Z1M m with
 | some a, some b => some (eqL a b)
 | _, _ => none
def Zi1 (P : Program) (t : TypeId) : Option Nat := match P.underlying t with
 | some (.array n e) => match P.underlying e, Zu P (sizeOf e) with
  | some (.int _), some 1 => some n
  | _, _ => none
 | _ => none
def szB (P : Program) (t : TypeId) (k : Nat) : Bool := match Zu P (sizeOf t) with
 | some k' => Nat.beq k k'
 | none => false
def Zlv (g : TypeId -> Option Nat) : List Field -> Nat -> Option Nat
 | [], o => some o
 | f :: l, o => if (Nat.beq f.offset o && (f.name != "_")) = true then (match g f.type with
  | some k => Zlv g l (o + k)
  | none => none) else none
def ZgQ (P : Program) : Nat -> TypeId -> Option Nat
 | 0, _ => none
 | d + 1, t => match P.underlying t with
  | some (.int _) => if szB P t 1 = true then some 1 else none
  | some (.array n e) => match ZgQ P d e with
   | some k => if (szB P t (n * k) && szB P e k) = true then some (n * k) else none
   | none => none
  | some (.struct fs) => if P.stoodInHeld t = false then (match Zlv (ZgQ P d) fs.toList 0 with
   | some k => if szB P t k = true then some k else none
   | none => none) else none
  | _ => none
def Zrz (P : Program) (e : TypeId) : Cells := match Zu P (zeroValue e) with
 | some (.string _) => .strs []
 | _ => .ints []
def Zl3 (P : Program) (e : TypeId) (l : List Value) : Cells := match l with
 | [] => Zrz P e
 | l => cellsOf l
def ZdQ (P : Program) (s : FSt) (o : Oper) (op : BinOp) (t : TypeId) (x y : Operand) : Option Out :=
 match op, s.ev x, s.ev y with
 | .add, .val (.string a), .val (.string b) => some (.pure (Nat.ble (a.size + b.size) 9223372036854775807) (.val (.string (a ++ b))))
 | .quo, .val (.int k a), .val (.int k' b) => if (k = k') then some (.pure (!(b == 0)) (.val (.int k (k.wrap (a.tdiv b))))) else none
 | .rem, .val (.int k a), .val (.int k' b) => if (k = k') then some (.pure (!(b == 0)) (.val (.int k (a.tmod b)))) else none
 | .eql, .val (.agg a), .val (.agg b) => match Zi1 P t, Zor a.toList b.toList with
  | some n, some r => if (Nat.beq a.size n && Nat.beq b.size n) = true then some (.pure true (.val (.bool r))) else none
  | none, some r => match ZgQ P 4 t, Zu P (isAgg t) with
   | some k, some true => if (Nat.beq a.size k && Nat.beq b.size k && !(P.eqGuardType P.depth t)) = true then some (.pure true (.val (.bool r))) else none
   | _, _ => none
  | _, _ => none
 | .neq, .val (.agg a), .val (.agg b) => match Zi1 P t, Zor a.toList b.toList with
  | some n, some r => if (Nat.beq a.size n && Nat.beq b.size n) = true then some (.pure true (.val (.bool (!r)))) else none
  | none, some r => match ZgQ P 4 t, Zu P (isAgg t) with
   | some k, some true => if (Nat.beq a.size k && Nat.beq b.size k && !(P.eqGuardType P.depth t)) = true then some (.pure true (.val (.bool (!r)))) else none
   | _, _ => none
  | _, _ => none
 | _, _, _ => ZcL P s o
def ld (H : Nat -> Option Blk) (agg : Bool) (size id off : Nat) : Option Out :=
 match H id with
 | some (.box _ cells) | some (.rop cells) =>
  if agg = true then
   match SV.vals ((cells.drop off).take size) with
   | some l => if Nat.beq l.length size = true then some (.pure true (.val (.agg l.toArray))) else none
   | none => none
  else match cells[off]? with
   | some v => some (.pure true v)
   | none => none
 | some (.row _ _ _ c) | some (.ros _ c) | some (.fro _ _ c) =>
  if agg = true then some (.pure (Nat.ble (off + size) c.len) (.val (.agg ((List.range size).map fun j => c.get (off + j)).toArray)))
  else some (.pure (Nat.ble (off + 1) c.len) (.val (c.get off)))
 | some (.dee ..) => none
 | none => none
def upd1 (y c : SV) (b : Bool) : SV := match y, c with
 | .val (.int k v), .val (.int k' x) => if k = k' then .val (.int k (bif b then v else x)) else bif b then y else c
 | _, _ => bif b then y else c
def set1 (y : SV) (off : Nat) : List SV -> Nat -> List SV
 | [], _ => []
 | c :: l, j => upd1 y c (Nat.beq off j) :: set1 y off l (j + 1)
def Zps : List SV -> Nat -> List SV -> List SV
 | l, _, [] => l
 | l, i, v :: vs => Zps (set1 v i l 0) (i + 1) vs
def tiSV : TI -> SV
 | .v x => .val x
 | .r id => .row id
def SV.parts (x : SV) : List SV := match x with
 | .val v => v.cells.toList.map .val
 | .agr l => l.map tiSV
 | x => [x]
def SV.keeps : SV -> Bool
 | .val (.agg _) => false
 | .val (.tuple _) => false
 | .val _ => true
 | .tup _ => false
 | .agr _ => false
 | .junk => false
 | _ => true
def st (H : Nat -> Option Blk) (size id off : Nat) (x : SV) : Option Out :=
 if (Nat.beq x.parts.length size && x.parts.all SV.keeps) = true then
  match H id with
  | some (.box e cells) =>
   some ⟨Nat.ble (off + size) cells.length, .val undef, [], some (id, .box e (Zps cells off x.parts)), none⟩
  | some (.row e sz n c) =>
   match x with
   | .val v => match c.puts off v.cells.toList with
    | some c' => some ⟨Nat.ble (off + size) c.len, .val undef, [], some (id, .row e sz n c'), none⟩
    | none => none
   | _ => none
  | _ => none
 else none
def Z9i (t : TypeId) (len : Nat) (parts : Array (Nat × Value)) : Sem (TypeId × Nat × Array Value) := do
 let .slice elem <- underlying t | stuck "buildSlice: slice type expected"
 let size <- sizeOf elem
 if len * size > 2 ^ 24 then unsupported (.resourceLimit "buildSlice: more than 2^24 cells")
 let zero <- if len * size = 0 then pure #[] else do pure (<- zeroValue elem).cells
 let some cells := Instr.fill (fun i => some (i * size, size)) ((Array.range (len * size)).map (zero[· % zero.size]!)) parts.toList
  | stuck "buildSlice: a part of the wrong size"
 pure (elem, size, cells)
def PVof (H : Nat -> Option Blk) (S : Nat -> List Nat -> Option (List Value -> Option (Bool × Value))) : SV -> Option PV
 | .val (.slice none 0 0) => some (.s 0 (.ints []))
 | .val x => some (.v x)
 | .row id => match H id with
  | some (.row _ _ n c) => some (.s n c)
  | some (.ros n c) => some (.s n c)
  | some (.fro _ n c) => some (.s n c)
  | some (.dee _ _ _ ls) => some (.d ls)
  | _ => none
 | .sub id off n sz => match H id with
  | some (.row _ _ _ c) => some (.s n (c.cut off (n * sz)))
  | some (.ros _ c) => some (.s n (c.cut off (n * sz)))
  | some (.fro _ _ c) => some (.s n (c.cut off (n * sz)))
  | some (.box _ cells) => match SV.vals ((cells.drop off).take (n * sz)) with
   | some l => if (Nat.beq l.length (n * sz) && (cellsOf l).okB) = true then some (.s n (cellsOf l)) else none
   | none => none
  | _ => none
 | .clo f caps => match S f caps with
  | some g => some (.f g)
  | none => none
 | .fn g => some (.f g)
 | _ => none
def Zfh (H : Nat -> Option Blk) (id : Nat) : Option PV := match H id with
 | some (.box _ [.row i]) => match H i with
  | some (.row _ _ n c) => some (.ps n c)
  | some (.ros n c) => some (.ps n c)
  | _ => none
 | some (.rop [.row i]) => match H i with
  | some (.row _ _ n c) => some (.ps n c)
  | some (.ros n c) => some (.ps n c)
  | _ => none
 | some (.box _ [.fn g]) => some (.pf g)
 | some (.rop [.fn g]) => some (.pf g)
 | some (.box _ cells) => match SV.vals cells with | some l => some (.p l) | none => none
 | some (.rop cells) => match SV.vals cells with | some l => some (.p l) | none => none
 | _ => none
def Z1N {α β : Type} (f : α -> Option β) : List α -> Option (List β)
 | [] => some []
 | a :: l => match f a with
  | some b => match Z1N f l with | some m => some (b :: m) | none => none
  | none => none
def Zao (S : Sums) (H : Nat -> Option Blk) (f : Nat) (caps : List Nat) : Option (List Value -> Option (Bool × Value)) :=
 match S.f f, Z1N (Zfh H) caps with
 | some run, some cs => some fun args => match run (args.map PV.v ++ cs) with
  | some (c, [.v r]) => some (c, r)
  | _ => none
 | _, _ => none
def Z4t : Nat -> List TR -> List (Nat × Blk) × List TI
 | _, [] => ([], [])
 | i, .v x :: l => let r := Z4t (i + 1) l; (r.1, .v x :: r.2)
 | i, .s e sz n c :: l => let r := Z4t (i + 1) l; ((i, .row e sz n c) :: r.1, .r i :: r.2)
 | i, .d e ls :: l => let r := Z4t (i + 1) l; ((i, .dee true true e ls) :: r.1, .r i :: r.2)
def maxI (x y : Int) : Int := if y > x then y else x
def minI (x y : Int) : Int := if y < x then y else x
def isV : TR -> Bool
 | .v _ => true
 | _ => false
def Zks (d : Nat) (c : Bool) (rs : List TR) : Option Out :=
 if (Nat.ble rs.length 4 || rs.all isV) = true then
  match (Z4t (4 * d) rs).2 with
  | [.r i] => some ⟨c, .row i, (Z4t (4 * d) rs).1, none, none⟩
  | l => some ⟨c, .tup l, (Z4t (4 * d) rs).1, none, none⟩
 else none
def ZfS : List TR -> Option Value
 | [.v x] => some x
 | _ => none
def ZcM (d : Option Nat) (c : Bool) (rs : List TR) : Option Out :=
 match d with
 | none => match rs with
  | [.v _] => some (.pure c .junk)
  | [] => some (.pure c .junk)
  | _ => none
 | some d => match ZfS rs with
  | some x => some (.pure c (.val x))
  | none => Zks d c rs
def Zt5 (z : Value) (k : Nat) : Cells := match z with
 | .int .i64 a => .ints (List.replicate k a)
 | .int .u8 a => .byts (List.replicate k a)
 | .string a => .strs (List.replicate k a)
 | z => .vals (List.replicate k z)
def Zt6 (z : Value) (sz k : Nat) : Option Cells := match sz with
 | 1 => if z.oneCell' = true then some (Zt5 z k) else none
 | sz => match Z1M z.cells.toList with
  | some zs => if (zs.all (fun x => x == 0) && Nat.beq zs.length sz) = true then some (.ints (List.replicate (k * sz) 0)) else none
  | none => none
def ZpG (i : TypeInfo) : Bool := match i.zero with
 | some z => Nat.beq z.cells.size i.size
 | none => false
def Z7k (P : Program) (s : FSt) (d : Nat) (t : TypeId) (a x : SV) : Option Out :=
 match P.underlying t with
 | some (.slice e) =>
  match Zu P (typeInfo e) with
  | some i =>
   if (Nat.ble 1 i.size && Nat.ble i.bytes 1000 && ZpG i) = true then
    match PVof s.heap (fun _ _ => none) x with
    | some (.s m c2) =>
     match a with
     | .val (.slice none 0 0) => some ⟨Nat.ble 0 m && Nat.ble m 2000000 && Nat.beq c2.len (m * i.size), .row (4 * d), [(4 * d, .row e i.size m c2)], none, none⟩
     | .row id => match s.heap id with
      | some (.row e' sz n c1) => if (Nat.beq e e' && Nat.beq sz i.size && Nat.ble 2 id) = true then
        match c1.app c2 with
        | some c => some ⟨Nat.ble 0 m && Nat.ble (n + m) 2000000 && Nat.beq c2.len (m * i.size), .row (4 * d), [(4 * d, .row e sz (n + m) c)], none, some id⟩
        | none => none
       else none
      | _ => none
     | _ => none
    | _ => none
   else none
  | none => none
 | _ => none
def Z7X (S : Sums) : Operand -> Option MFn
 | .func g => S.m g
 | .tmp _ => bif S.k then some (.cap fun _ _ _ => none) else none
 | _ => none
def bcOf (H : Nat -> Option Blk) : SV -> Option BC
 | .val x => some (.v x)
 | .row id => match H id with
  | some (.ros n c) => some (.s n c)
  | _ => none
 | _ => none
def pvB (H : Nat -> Option Blk) : SV -> Option PV
 | .val x => some (.v x)
 | .row id => match H id with
  | some (.ros n c) => some (.s n c)
  | some (.row _ _ n c) => some (.s n c)
  | _ => none
 | _ => none
def Zhb : List BC -> List BC -> Bool
 | [], [] => true
 | .v _ :: l, .v _ :: m => Zhb l m
 | .s _ _ :: l, .s _ _ :: m => Zhb l m
 | _, _ => false
def Zbs : List SV -> List BC -> List SV
 | _ :: l, .v x :: m => .val x :: Zbs l m
 | x :: l, .s _ _ :: m => x :: Zbs l m
 | _, _ => []
def retV : List Value -> SV
 | [x] => .val x
 | l => .tup (l.map TI.v)
def Z89 (s : FSt) (run : PRun) : List SV -> Option Out
 | .ptr id 0 :: xs => match s.heap id with
  | some (.box e cells) => match Z1N (bcOf s.heap) cells, Z1N (pvB s.heap) xs with
   | some bcs, some pvs => match run e bcs pvs with
    | some (ok, rs, bcs') => if Zhb bcs bcs' = true then some ⟨ok, retV rs, [], some (id, .box e (Zbs cells bcs')), none⟩ else none
    | none => none
   | _, _ => none
  | _ => none
 | _ => none
def Zm4 (s : FSt) (d : Option Nat) (run : BRun) : List SV -> Option Out
 | [.row id] => match s.heap id, d with
  | some (.ros n c), some d => match run [.s n c] with
   | some (ok, e, vals) => some ⟨ok, .ptr (4 * d) 0, [(4 * d, .box e (.row id :: vals.map SV.val))], none, none⟩
   | none => none
  | _, _ => none
 | _ => none
def ZlV (s : FSt) (run : MRun) : List SV -> Option Out
 | .row id :: xs => match s.heap id, SV.vals xs with
  | some (.row e sz n c), some vs => match run e sz n c vs with
   | some (ok, r, c') => some ⟨ok, .val r, [], some (id, .row e sz n c'), none⟩
   | none => none
  | _, _ => none
 | _ => none
def Zl2 (S : Sums) (s : FSt) : SV -> List SV -> Option Out
 | .clo g [ib], xs => match S.m g with
  | some (.cap run) => match s.heap ib with
   | some (.box _ [.ptr id 0]) => Z89 s run (.ptr id 0 :: xs)
   | _ => none
  | _ => none
 | _, _ => none
def Zvr (S : Sums) (s : FSt) (d : Option Nat) (fv : SV) : MFn -> List SV -> Option Out
 | .row run => ZlV s run
 | .box run => Z89 s run
 | .src run => Zm4 s d run
 | .cap _ => Zl2 S s fv
def Zvt (places : Array (Nat × Nat)) (i : Nat) : Bool := match places[i]? with
 | some (o, _) => Nat.ble 1 o
 | none => false
def ZfG (P : Program) (s : FSt) (t : TypeId) : List (Nat × Operand) -> Option Out
 | (i, x) :: rest => match s.ev x with
  | .row id =>
    if (rest.all fun q => (s.ev q.2).isVal) = true then
     match P.underlying t with
     | some (.struct fields) => match Zu P (fields.mapM fun f => do pure (f.offset, <- sizeOf f.type)), Zu P (zeroValue t) with
      | some places, some z => match places[i]? with
       | some (0, 1) => if (rest.all fun q => Zvt places q.1) = true then
         match Instr.fill (places[·]?) z.cells (rest.map fun q => (q.1, s.evV q.2)) with
         | some cells => if Nat.ble 1 z.cells.size = true then some (.pure true (.agr (.r id :: (cells.toList.drop 1).map TI.v))) else none
         | none => none
        else none
       | _ => none
      | _, _ => none
     | _ => none
    else none
  | _ => none
 | [] => none
def ZdE : Operand -> Option Nat
 | .global g => some g
 | _ => none
def gload (P : Program) (t : TypeId) (g : Nat) : Option Out := match gvars[g]?, Zu P (isAgg t), Zu P (sizeOf t) with
 | some vals, some true, some sz => if Nat.beq vals.length sz = true then some (.pure true (.val (.agg vals.toArray))) else none
 | some [v], some false, some _ => some (.pure true (.val v))
 | _, _, _ => none
def Z51 (s : FSt) (d : Int) : Option Operand -> Option Int
 | none => some d
 | some x => match s.ev x with
  | .val (.int .i64 k) => some k
  | _ => none
def Z6N (P : Program) (s : FSt) (id : Nat) (lo hi : Option Operand) (e : TypeId) : Option Out :=
 match Zu P (sizeOf e), s.heap id with
 | some sz, some (.row _ _ n _) => match Z51 s 0 lo, Z51 s (n : Int) hi with
  | some l, some h => some (.pure (decide (0 <= l) && decide (l <= h) && decide (h <= (n : Int))) (.sub id (l.toNat * sz) (h.toNat - l.toNat) sz))
  | _, _ => none
 | some sz, some (.ros n _) => match Z51 s 0 lo, Z51 s (n : Int) hi with
  | some l, some h => some (.pure (decide (0 <= l) && decide (l <= h) && decide (h <= (n : Int))) (.sub id (l.toNat * sz) (h.toNat - l.toNat) sz))
  | _, _ => none
 | some sz, some (.dee _ _ _ ls) => match Z51 s 0 lo, Z51 s (ls.length : Int) hi with
  | some l, some h => some (.pure (decide (0 <= l) && decide (l <= h) && decide (h <= (ls.length : Int))) (.sub id (l.toNat * sz) (h.toNat - l.toNat) sz))
  | _, _ => none
 | _, _ => none
def Z6O (s : FSt) (b : ByteArray) (lo hi : Option Operand) : Option Out :=
 match Z51 s 0 lo, Z51 s (b.size : Int) hi with
 | some l, some h => some (.pure (decide (0 <= l) && decide (l <= h) && decide (h <= (b.size : Int))) (.val (.string (b.extract l.toNat h.toNat))))
 | _, _ => none
def ZwZ (l : List Int) : ByteArray := l.foldl (fun s n => s.push (UInt8.ofNat n.toNat)) ByteArray.empty
def Zrc (P : Program) (s : FSt) (t u : TypeId) (id : Nat) : Option Out := match P.underlying t, P.underlying u with
 | some (.slice e), some .string => match P.underlying e, s.heap id with
  | some (.int .u8), some (.row _ _ n (.byts l)) => some (.pure (Nat.beq l.length n) (.val (.string (ZwZ l))))
  | _, _ => none
 | _, _ => none
def Z1f (P : Program) (S : Sums) (s : FSt) (o : Oper) : Option Out :=
 match o.op with
 | .move x | .assign x => some (.pure true (s.ev x))
 | .pick c a b => match s.ev c with
  | .val (.bool t) => match t with
   | true => some (.pure true (s.ev a))
   | false => some (.pure true (s.ev b))
  | _ => none
 | .alloc e => match o.dst, Zu P (zeroValue e) with
  | some d, some z => some ⟨true, .ptr (4 * d) 0, [(4 * d, .box e (z.cells.toList.map .val))], none, none⟩
  | _, _ => none
 | .box e x => match o.dst, s.ev x with
  | _, .junk => none
  | some d, _ => some ⟨true, .ptr (4 * d) 0, [(4 * d, .box e (s.ev x).parts)], none, none⟩
  | none, _ => none
 | .buildSlice t len parts => match o.dst with
  | some d => if (parts.toList.all fun x => (s.ev x.2).isVal) = true then
    match Zu P (Z9i t len (parts.map fun (i, x) => (i, s.evV x))) with
    | some (e, sz, cells) => if (Nat.beq cells.size (len * sz) && Nat.ble len 2000000 && (Zl3 P e cells.toList).okB) = true then some ⟨true, .row (4 * d), [(4 * d, .row e sz len (Zl3 P e cells.toList))], none, none⟩ else none
    | none => none
   else none
  | none => none
 | .load t x => match ZdE x with
  | some g => gload P t g
  | none => match s.ev x, Zu P (isAgg t), Zu P (sizeOf t) with
   | .ptr id off, some a, some sz => ld s.heap a sz id off
   | _, _, _ => none
 | .store t x y => match o.dst with
  | some _ => none
  | none => match s.ev x, Zu P (sizeOf t) with
   | .ptr id off, some sz => st s.heap sz id off (s.ev y)
   | _, _ => none
 | .binOp op t x y _ => ZdQ P s o op t x y
 | .unOp .. | .field .. => ZcL P s o
 | .convert t u x => match s.ev x with
  | .row id => Zrc P s t u id
  | _ => ZcL P s o
 | .build t ps => match ZfG P s t ps.toList with
  | some r => some r
  | none => ZcL P s o
 | .makeFunc (.func f) first captured =>
  if Nat.beq first.size 0 = true then
  match Z1N (fun x => match s.ev x with | .ptr id 0 => some id | _ => none) captured.toList with
  | some l => some (.pure true (.clo f l))
  | none => none
  else none
 | .makeSlice t x y => match o.dst, s.ev x, s.ev y, P.underlying t with
  | some d, .val (.int .i64 n), .val (.int .i64 m), some (.slice e) => match Zu P (sizeOf e), Zu P (zeroValue e), Zu P (typeInfo e) with
   | some sz, some z, some i => match Zt6 z sz n.toNat with
    | some c => if Nat.ble i.bytes 1000 = true then some ⟨decide (0 <= n) && decide (n <= 2000000) && n == m, .row (4 * d), [(4 * d, .row e sz n.toNat c)], none, none⟩ else none
    | none => none
   | _, _, _ => none
  | _, _, _, _ => none
 | .fieldAddr t x f => match s.ev x, P.underlying t with
  | .ptr id off, some (.struct fs) => match fs[f]? with
   | some fd => match Zu P (sizeOf fd.type) with
    | some sz => if Nat.ble 1 sz = true then some (.pure true (.ptr id (off + fd.offset))) else none
    | none => none
   | none => none
  | _, _ => none
 | .indexAddr t x i => match s.ev x, s.ev i, P.underlying t with
  | .ptr id off, .val (.int _ n), some (.array len e) => match Zu P (sizeOf e) with
   | some sz => some (.pure (decide (0 <= n) && decide (n < (len : Int))) (.ptr id (off + n.toNat * sz)))
   | none => none
  | .row id, .val (.int _ n), some (.slice e) => match s.heap id, Zu P (sizeOf e) with
   | some (.row _ _ len _), some sz => some (.pure (decide (0 <= n) && decide (n < (len : Int))) (.ptr id (n.toNat * sz)))
   | some (.ros len _), some sz => some (.pure (decide (0 <= n) && decide (n < (len : Int))) (.ptr id (n.toNat * sz)))
   | some (.fro _ len _), some sz => some (.pure (decide (0 <= n) && decide (n < (len : Int))) (.ptr id (n.toNat * sz)))
   | some (.dee _ _ _ ls), some sz => some (.pure (decide (0 <= n) && decide (n < (ls.length : Int))) (.ptr id (n.toNat * sz)))
   | _, _ => none
  | .sub id off len _, .val (.int _ n), some (.slice e) => match Zu P (sizeOf e) with
   | some sz => some (.pure (decide (0 <= n) && decide (n < (len : Int))) (.ptr id (off + n.toNat * sz)))
   | none => none
  | _, _, _ => none
 | .index t x i => match s.ev x, s.ev i, P.underlying t with
  | .val (.agg cs), .val (.int _ n), some (.array len e) => match Zu P (sizeOf e) with
   | some sz => match Zu P (part e cs (n.toNat * sz)) with
    | some v => some (.pure (decide (0 <= n) && decide (n < (len : Int))) (.val v))
    | none => none
   | none => none
  | .val (.string b), .val (.int _ n), some .string => some (.pure (decide (0 <= n) && decide (n < (b.size : Int))) (.val (.int .u8 (b.data.getD n.toNat 0).toNat)))
  | _, _, _ => none
 | .slice t x lo hi mx => match s.ev x, lo, hi, mx, P.underlying t with
  | .ptr id off, none, none, none, some (.array n e) => match Zu P (sizeOf e) with
   | some sz => some (.pure true (.sub id off n sz))
   | none => none
  | .ptr id off, none, some hx, none, some (.array n e) => match s.ev hx with
   | .val hv => match Zu P (Instr.sliceBounds false n n none (some hv) none), Zu P (sizeOf e) with
    | some (0, h, m), some sz => if Nat.ble h m = true then some (.pure true (.sub id off h sz)) else none
    | _, _ => none
   | _ => none
  | .row id, none, none, none, some (.slice e) => match Zu P (sizeOf e) with
   | some _ => match s.heap id with
    | some (.row ..) => some (.pure true (.row id))
    | some (.ros ..) => some (.pure true (.row id))
    | _ => none
   | none => none
  | .row id, lo, hi, none, some (.slice e) => Z6N P s id lo hi e
  | .val (.string b), lo, hi, none, some .string => Z6O s b lo hi
  | _, _, _, _, _ => none
 | .nilCheck x => match s.ev x with
  | .ptr id off => some (.pure true (.ptr id off))
  | _ => none
 | .sliceToArrayPointer t x => match s.ev x, P.underlying t with
  | .row id, some (.array len _) => match s.heap id with
   | some (.row _ _ m _) => some (.pure (Nat.ble len m && Nat.ble 1 m) (.ptr id 0))
   | some (.ros m _) => some (.pure (Nat.ble len m && Nat.ble 1 m) (.ptr id 0))
   | _ => none
  | _, _ => none
 | .extract x i => match s.ev x with
  | .tup l => match l[i]? with
   | some (.v v) => some (.pure true (.val v))
   | some (.r id) => some (.pure true (.row id))
   | none => none
  | _ => none
 | .call c => match c.callee with
  | .value f => match Z7X S f with
   | some run => Zvr S s o.dst (s.ev f) run (c.args.toList.map s.ev)
   | none => match s.ev f with
    | .clo g caps => match S.f g, Z1N (fun x => PVof s.heap (Zao S s.heap) (s.ev x)) c.args.toList, Z1N (Zfh s.heap) caps with
     | some run, some args, some cs => match run (args ++ cs) with
      | some (ok, rs) => ZcM o.dst ok rs
      | none => none
     | _, _, _ => none
    | .fn g => match SV.vals (c.args.toList.map s.ev) with
     | some args => match g args with
      | some (ok, r) => ZcM o.dst ok [.v r]
      | none => none
     | none => none
    | _ => none
  | .builtin .len => match c.args.toList.map s.ev, c.argTypes.toList with
   | [.val (.string b)], [t] => match P.underlying t with
    | some .string => some (.pure true (.val (.int .i64 b.size)))
    | _ => none
   | [.row id], [t] => match s.heap id, P.underlying t with
    | some (.row _ _ n _), some (.slice _) => some (.pure true (.val (.int .i64 n)))
    | some (.ros n _), some (.slice _) => some (.pure true (.val (.int .i64 n)))
    | some (.fro _ n _), some (.slice _) => some (.pure true (.val (.int .i64 n)))
    | some (.dee _ _ _ ls), some (.slice _) => some (.pure true (.val (.int .i64 ls.length)))
    | _, _ => none
   | [.sub _ _ n _], [t] => match P.underlying t with
    | some (.slice _) => some (.pure true (.val (.int .i64 n)))
    | _ => none
   | _, _ => none
  | .builtin .max => match c.args.toList.map s.ev with
   | [.val (.int .i64 x), .val (.int .i64 y)] => some (.pure true (.val (.int .i64 (maxI x y))))
   | _ => none
  | .builtin .min => match c.args.toList.map s.ev with
   | [.val (.int .i64 x), .val (.int .i64 y)] => some (.pure true (.val (.int .i64 (minI x y))))
   | _ => none
  | .builtin .append => match o.dst, c.args.toList.map s.ev, c.argTypes.toList with
   | some d, [a, x], [t, u] => if Nat.beq t u = true then Z7k P s d t a x else none
   | _, _, _ => none
  | _ => none
 | _ => none
def frzN : List (Nat × Blk) -> List (Nat × Blk)
 | [(i, .row _ _ n c)] => [(i, .fro true n c)]
 | l => l
def Out.frz (r : Out) : Out := ⟨r.chk, r.v, frzN r.news, r.upd, r.drop⟩
def ZuD (H : Nat -> Option Blk) : SV -> Option (Bool × Bool × List (List Int))
 | .row id => match H id with
  | some (.dee _ fr _ ls) => some (true, fr, ls)
  | _ => none
 | .sub id off n sz => match H id with
  | some (.dee _ fr _ ls) => if Nat.beq sz 1 = true then some (Nat.ble (off + n) ls.length, fr, (ls.drop off).take n) else none
  | _ => none
 | _ => none
def ZlT (H : Nat -> Option Blk) : SV -> Option (Bool × Nat × List Int)
 | .row j => match H j with
  | some (.fro fr n (.ints l)) => some (fr, n, l)
  | _ => none
 | _ => none
def Zim (P : Program) (t : TypeId) : Option TypeId := match P.underlying t with
 | some (.slice e) => match P.underlying e, Zu P (sizeOf e), Zu P (zeroValue e) with
  | some (.slice _), some 1, some _ => some e
  | _, _, _ => none
 | _ => none
def ZaU (P : Program) (s : FSt) (d : Nat) (t : TypeId) (len : Nat) : List (Nat × Operand) -> Option Out
 | [] => match Zim P t with
  | some e => if Nat.beq len 0 = true then some ⟨true, .row (4 * d), [(4 * d, .dee true true e [])], none, none⟩ else none
  | none => none
 | [(0, x)] => match Zim P t, ZlT s.heap (s.ev x) with
  | some e, some (fr, n, l) => if Nat.beq len 1 = true then some ⟨Nat.beq l.length n, .row (4 * d), [(4 * d, .dee true fr e [l])], none, none⟩ else none
  | _, _ => none
 | _ => none
def ZqI (P : Program) (s : FSt) (d : Nat) (t : TypeId) : SV -> Option Out
 | .ptr id off => match s.heap id, Zu P (isAgg t), Zu P (sizeOf t) with
  | some (.dee _ fr _ ls), some false, some 1 => some ⟨Nat.ble (off + 1) ls.length, .row (4 * d), [(4 * d, .fro fr (ls.getD off []).length (.ints (ls.getD off [])))], none, none⟩
  | _, _, _ => none
 | _ => none
def Zm8 (P : Program) (s : FSt) (t : TypeId) (y : SV) : SV -> Option Out
 | .ptr id off => match s.heap id, ZlT s.heap y, Zu P (sizeOf t) with
  | some (.dee true fr e ls), some (fr2, n, l), some 1 => some ⟨Nat.ble (off + 1) ls.length && Nat.beq l.length n, .val undef, [], some (id, .dee true (fr && fr2) e (ls.set off l)), none⟩
  | _, _, _ => none
 | _ => none
def appD (P : Program) (s : FSt) (d : Nat) (t : TypeId) (x : SV) : SV -> Option Out
 | .row id => match s.heap id, ZuD s.heap x, P.underlying t with
  | some (.dee true fr e ls), some (ck, fr2, ms), some (.slice e') => match Zu P (typeInfo e') with
   | some i => if (Nat.beq e e' && Nat.ble 2 id && Nat.beq i.size 1 && Nat.ble i.bytes 1000 && ZpG i) = true then
     some ⟨ck && Nat.ble (ls.length + ms.length) 2000000, .row (4 * d), [(4 * d, .dee true (fr && fr2) e (ls ++ ms))], none, some id⟩
    else none
   | none => none
  | _, _, _ => none
 | _ => none
def opD (P : Program) (S : Sums) (s : FSt) (o : Oper) : Option Out := match o.op, o.dst with
 | .buildSlice t len parts, some d => match ZaU P s d t len parts.toList with
  | some r => some r
  | none => match parts.toList with
   | [] => none
   | _ => match Z1f P S s o with
    | some r => some r.frz
    | none => none
 | .load t x, some d => ZqI P s d t (s.ev x)
 | .store t x y, none => Zm8 P s t (s.ev y) (s.ev x)
 | .call c, some d => match c.callee with
  | .value f => match Z7X S f with
   | some _ => none
   | none => match Z1f P S s o with
    | some r => some r.frz
    | none => none
  | .builtin .append => match c.args.toList.map s.ev, c.argTypes.toList with
   | [a, x], [t, u] => if Nat.beq t u = true then appD P s d t x a else none
   | _, _ => none
  | _ => none
 | _, _ => none
def Z2v (P : Program) (S : Sums) (s : FSt) (o : Oper) : Option Out := bif S.z then (match opD P S s o with
 | some r => some r
 | none => Z1f P S s o) else Z1f P S s o
def FSt.put (s : FSt) (d : Option Nat) (v : SV) : FSt := match d with
 | none => s
 | some d => { s with slot := fun t => bif Nat.beq t d then v else s.slot t }
def Z6x (id : Nat) (l : List TI) : Bool := l.any fun | .r i => Nat.beq i id | _ => false
def Z0X (id : Nat) : SV -> SV
 | .ptr i o => bif Nat.beq i id then .junk else .ptr i o
 | .row i => bif Nat.beq i id then .junk else .row i
 | .sub i o n z => bif Nat.beq i id then .junk else .sub i o n z
 | .clo f l => bif l.any (Nat.beq id) then .junk else .clo f l
 | .tup l => bif Z6x id l then .junk else .tup l
 | .agr l => bif Z6x id l then .junk else .agr l
 | v => v
def Z9f (id : Nat) : Blk -> Blk
 | .box e l => .box e (l.map (Z0X id))
 | .rop l => .rop (l.map (Z0X id))
 | b => b
def FSt.kill (s : FSt) (id : Nat) : FSt where
 slot := fun t => Z0X id (s.slot t)
 heap := fun x => bif Nat.beq x id then none else match s.heap x with | some b => some (Z9f id b) | none => none
def FSt.set (s : FSt) (id : Nat) (b : Blk) : FSt := { s with heap := fun x => bif Nat.beq x id then some b else s.heap x }
def FSt.fresh (s : FSt) : List (Nat × Blk) -> Bool
 | [] => true
 | (i, _) :: l => match s.heap i with | some _ => false | none => s.fresh l
def FSt.news (s : FSt) : List (Nat × Blk) -> FSt
 | [] => s
 | (i, b) :: l => (s.set i b).news l
def FSt.dropped (s : FSt) : Option Nat -> FSt
 | some id => s.kill id
 | none => s
def FSt.upd (s : FSt) : Option (Nat × Blk) -> FSt
 | some (id, b) => s.set id b
 | none => s
def FSt.apply (s : FSt) (d : Option Nat) (o : Out) : FSt := (((s.dropped o.drop).news o.news).upd o.upd).put d o.v
def Z0b (n : Nat) : Option Nat -> Bool
 | some d => Nat.ble (d + 1) n
 | none => true
def Z3F (ops : List Oper) (s : FSt) (o : Oper) : Option Bool := match o.guard with
 | none => some true
 | some (j, w) => match ops[j]? with
  | some q => match q.dst with
   | some d => match s.slot d with
    | .val (.bool b) => some (b == w)
    | .val (.tuple _) => some false
    | _ => none
   | none => none
  | none => none
def storeAt (o : Oper) : Option Nat := match o.op with | .store _ (.tmp x) _ => some x | .load _ (.tmp x) => some x | _ => none
def isSt (o : Oper) : Bool := match o.op with | .store .. => true | _ => false
def loadAt (o : Oper) : Bool := match o.op with | .load _ (.tmp _) => true | _ => false
def Zvl (ops : List Oper) (x : Nat) : Bool := ops.any fun q => match q.dst with | some d => Nat.beq d x | none => false
def Z7t (S : Sums) (o : Oper) : Option Operand := match o.op with
 | .call c => match c.callee with
  | .value f => match Z7X S f with
   | some (.box _) => c.args.toList.head?
   | _ => none
  | _ => none
 | _ => none
def ZlB (S : Sums) (o : Oper) : Bool := match Z7t S o with | some _ => true | none => false
def ZnO (P : Program) (o : Oper) : Option TypeId := match o.op with
 | .call c => match c.argTypes.toList with
  | t :: _ => match P.underlying t with
   | some (.pointer e) => some e
   | _ => none
  | [] => none
 | _ => none
def crowded (ops : List Oper) (o : Oper) : Bool := match storeAt o with
 | some x => !(Zvl ops x) && ops.any fun q => match storeAt q with
  | some y => (isSt o || isSt q) && (!(Nat.beq x y) && !(Zvl ops y))
  | none => false
 | none => false
def farB (P : Program) (S : Sums) (ops : List Oper) (e : TypeId) : Bool := ops.all fun q => bif ZlB S q then (match ZnO P q with | some e' => !(Nat.beq e e') | none => false) else true
def loose (ops : List Oper) (o q : Oper) : Bool := match o.dst with
 | some d => q.after.toList.any fun e => !(Region.binds .any e) && (match ops[e.on]? with
  | some z => (match z.dst with | some d' => Nat.beq d' d | none => false)
  | none => false)
 | none => false
def mixB (ops : List Oper) (o q : Oper) : Bool := match storeAt o, storeAt q with
 | some x, some y => loadAt o && isSt q && (!(Nat.beq x y) && loose ops o q)
 | _, _ => false
def Z5A (o : Oper) : Bool := match o.op with
 | .call c => match c.callee with
  | .builtin .append => true
  | _ => false
 | _ => false
def ZoY (o : Oper) : Bool := match o.op with
 | .buildSlice .. => true
 | _ => false
def bare (o : Oper) : Bool := match o.guard with
 | none => true
 | some _ => false
def ZrP (o q : Oper) : List Oper -> Bool
 | [] => false
 | z :: l => match o.dst, z.dst, q.dst with
  | some d, some d', some e => bif Nat.beq d d' then l.any fun y => (match y.dst with | some e' => Nat.beq e e' | none => false) else ZrP o q l
  | _, _, _ => ZrP o q l
def Zt2 (ops : List Oper) (o q : Oper) : Bool := Z5A o && ((loadAt q || ZoY q) && (bare o && bare q && ZrP o q ops))
def mixH (ops : List Oper) (o : Oper) (s : FSt) (x : Nat) : Bool :=
 bif loadAt o then ops.all fun q => bif mixB ops o q then (match storeAt q, s.slot x with
  | some y, .ptr i _ => !(Nat.beq i (4 * y))
  | _, _ => false) else true
 else bif ops.any (fun z => mixB ops z o) then (match s.slot x with
  | .ptr i _ => Nat.beq i (4 * x)
  | _ => false) else true
def ZfH (o : Oper) (s : FSt) : SV := match o.op with
 | .call c => match c.args.toList with
  | a :: _ => s.ev a
  | [] => .junk
 | _ => .junk
def ZgW (ops : List Oper) (o : Oper) (s : FSt) : Bool :=
 bif Z5A o then ops.all fun q => bif ZoY q && Zt2 ops o q then (match q.dst, ZfH o s with
  | some d, .row id => !(Nat.beq id (4 * d))
  | some _, .val _ => true
  | _, _ => false) else true
 else true
def Z8F (P : Program) (S : Sums) (ops : List Oper) (o : Oper) (s : FSt) : Bool := match storeAt o with
 | some x => (bif crowded ops o then (match s.slot x with | .ptr i _ => Nat.beq i (4 * x) | _ => false) else true) && (bif loadAt o && ops.any (ZlB S) then (match s.slot x with | .ptr i _ => (match s.heap i with | some (.box e _) => farB P S ops e | some _ => true | none => false) | _ => false) else true)
 | none => match Z7t S o with
  | some x => match s.ev x with
   | .ptr i _ => match s.heap i, ZnO P o with
    | some (.box e _), some e' => Nat.beq e e'
    | _, _ => false
   | _ => false
  | none => true
def Z9e (ops : List Oper) (o : Oper) (s : FSt) : Bool := match storeAt o with
 | some x => mixH ops o s x
 | none => ZgW ops o s
def Z3z (P : Program) (S : Sums) (ops : List Oper) (o : Oper) (s : FSt) : Bool := Z9e ops o s && Z8F P S ops o s
def chkH (P : Program) (S : Sums) (ops : List Oper) (o : Oper) (s : FSt) (c : Bool) : Bool := bif Z3z P S ops o s then c else false
theorem ZgD {P : Program} {S : Sums} {ops : List Oper} {o : Oper} {s : FSt} {c : Bool} (h : chkH P S ops o s c = true) : c = true /\ Z3z P S ops o s = true := by
 unfold chkH at h
 cases hh : Z3z P S ops o s
 ·rw [hh] at h; cases h
 ·rw [hh] at h; exact ⟨h, rfl⟩
def Z0H (P : Program) (S : Sums) (n : Nat) (ops : List Oper) (o : Oper) (s : FSt) : Option Out :=
 match Z3F ops s o with
 | none => none
 | some w => if Z0b n o.dst = true then
   if w = true then match Z2v P S s o with
    | none => none
    | some r => if chkH P S ops o s r.chk = true then some r else none
   else some (.pure true (.val undef))
  else none
def step (P : Program) (S : Sums) (n : Nat) (ops : List Oper) (o : Oper) (s : FSt) : Option FSt :=
 match Z0H P S n ops o s with
 | none => none
 | some r => if s.fresh r.news = true then some (s.apply o.dst r) else none
def guards (ops : List Oper) (i : Nat) : Bool := ops.any fun o => match o.guard with | some (j, _) => Nat.beq j i | none => false
def regK {α : Type} (P : Program) (S : Sums) (n : Nat) (ops : List Oper) : Nat -> List Oper -> FSt -> (FSt -> Option α) -> Option α
 | _, [], s, k => k s
 | i, o :: l, s, k => match Z3F ops s o with
  | none => none
  | some w => if Z0b n o.dst = true then
    if w = true then match Z2v P S s o with
     | none => none
     | some r => if chkH P S ops o s r.chk = true then (if s.fresh r.news = true then
        (match guards ops i, r.v with
        | true, .val (.bool b) => if b = true then regK P S n ops (i + 1) l (s.apply o.dst { r with v := .val (.bool true) }) k else regK P S n ops (i + 1) l (s.apply o.dst { r with v := .val (.bool false) }) k
        | _, _ => regK P S n ops (i + 1) l (s.apply o.dst r) k) else none) else none
    else regK P S n ops (i + 1) l (s.put o.dst (.val undef)) k
   else none
structure Tab where
 slots : List SV
 heap : List (Nat × Blk)
def look : List (Nat × Blk) -> Nat -> Option Blk
 | [], _ => none
 | (i, b) :: l, x => bif Nat.beq x i then some b else look l x
def Tab.st (t : Tab) : FSt := ⟨fun i => t.slots.getD i .junk, look t.heap⟩
def Z7F (H : Nat -> Option Blk) : List Nat -> List (Nat × Blk)
 | [] => []
 | i :: l => match H i with | some b => (i, b) :: Z7F H l | none => Z7F H l
def Z8d (l : List Nat) : SV -> SV
 | .ptr i o => bif l.any (Nat.beq i) then .ptr i o else .junk
 | .row i => bif l.any (Nat.beq i) then .row i else .junk
 | .sub i o n z => bif l.any (Nat.beq i) then .sub i o n z else .junk
 | .clo f q => bif q.all (fun i => l.any (Nat.beq i)) then .clo f q else .junk
 | .tup _ => .junk
 | .agr _ => .junk
 | v => v
def ZcK (l : List Nat) : Blk -> Blk
 | .box e q => .box e (q.map (Z8d l))
 | .rop q => .rop (q.map (Z8d l))
 | b => b
def ownB : Blk -> Bool
 | .box .. => true
 | .row .. => true
 | .dee own .. => own
 | _ => false
def ZwV (H : Nat -> Option Blk) (i : Nat) : Bool := match H i with
 | some b => ownB b
 | none => false
def Zc5 : Code -> List Oper
 | .region _ ops _ => ops.toList
 | .seq a b => Zc5 a ++ Zc5 b
 | .cond _ a b => Zc5 a ++ Zc5 b
 | .block _ a => Zc5 a
 | .loop a => Zc5 a
 | _ => []
def apOp (o : Oper) : Option Nat := match o.op with
 | .call c => match c.callee with
  | .builtin .append => match c.args.toList with
   | .tmp t :: _ => some t
   | _ => none
  | _ => none
 | _ => none
def mvOp (o : Oper) : Option (Nat × Nat) := match o.op, o.dst with
 | .move (.tmp t), some d => some (d, t)
 | .assign (.tmp t), some d => some (d, t)
 | _, _ => none
def Zuo (m : List (Nat × Nat)) (a : List Nat) : List Nat := a ++ (m.filter fun x => a.any (Nat.beq x.1) && !(a.any (Nat.beq x.2))).map (·.2)
def ZvZ (o : Oper) : Option Nat := match o.op with
 | .call c => match c.callee with
  | .value _ => o.dst
  | _ => none
 | _ => none
def appS (c : Code) : List Nat :=
 let l := Zc5 c
 let m := l.filterMap mvOp
 let cs := l.filterMap ZvZ
 Zuo m (Zuo m (l.filterMap apOp)) ++ (m.filter fun x => cs.any (Nat.beq x.2)).map (·.1)
def ZsI (b : Nat) : SV -> Bool
 | .row i => Nat.beq i b
 | _ => false
def ZgV (s : FSt) (ap : List Nat) (i : Nat) (x : SV) : SV := match x with
 | .row b => bif ZwV s.heap b then (match ap.find? fun j => ZsI b (s.slot j) with
   | some j => bif Nat.beq i j then .row b else .junk
   | none => .row b) else .row b
 | x => x
def FSt.tab (s : FSt) (ap : List Nat) (n : Nat) : Tab :=
 let hp := Z7F s.heap (List.range (4 * n))
 let l := hp.map (·.1)
 ⟨(List.range n).map fun i => ZgV s ap i (Z8d l (s.slot i)), hp.map fun x => (x.1, ZcK l x.2)⟩
def Za7 (a b : Nat) : SV -> SV
 | .row i => bif Nat.beq i a then .row b else .row i
 | .sub i o n z => bif Nat.beq i a then .junk else .sub i o n z
 | .ptr i o => bif Nat.beq i a then .junk else .ptr i o
 | .clo f l => bif l.any (Nat.beq a) then .junk else .clo f l
 | .tup l => bif Z6x a l then .junk else .tup l
 | .agr l => bif Z6x a l then .junk else .agr l
 | v => v
def renB (a b : Nat) : Blk -> Blk
 | .box e l => .box e (l.map (Za7 a b))
 | .rop l => .rop (l.map (Za7 a b))
 | c => c
def FSt.mv (s : FSt) (a b : Nat) (B : Blk) : FSt := { slot := fun t => Za7 a b (s.slot t), heap := fun x => bif Nat.beq x b then some B else bif Nat.beq x a then none else match s.heap x with | some q => some (renB a b q) | none => none }
def FSt.ren (s : FSt) (a b : Nat) : FSt := match s.heap a, s.heap b with
 | some (.row e z n c), none => s.mv a b (.row e z n c)
 | some (.dee own fr e ls), none => s.mv a b (.dee own fr e ls)
 | _, _ => s
def renOne (x : SV) (i : Nat) (s : FSt) : FSt := match x with
 | .row b => match s.slot i with
  | .row a => bif Nat.beq a b || Nat.ble a 1 then s else s.ren a b
  | _ => s
 | _ => s
def renAll : List SV -> Nat -> FSt -> FSt
 | [], _, s => s
 | x :: l, i, s => renAll l (i + 1) (renOne x i s)
def Zm6 (s : FSt) (b : Nat) : List SV -> Nat -> Bool
 | [], _ => false
 | x :: l, j => (ZsI b x && ZsI b (s.slot j)) || Zm6 s b l (j + 1)
def Zvx (s : FSt) (a : Nat) : Bool := match s.heap a with
 | some (.row ..) => true
 | _ => false
def Zxz (s : FSt) (a : Nat) : Bool := match s.heap a with
 | some (.dee ..) => true
 | _ => false
def freedAt (all : List SV) (s : FSt) (i : Nat) : SV -> FSt
 | .row b => match s.slot i, s.heap b with
  | .row a, some (.row ..) => bif Nat.ble 2 b && !(Nat.beq a b) && Zvx s a && !(Zm6 s b all 0) then s.kill b else s
  | .row a, some (.dee ..) => bif Nat.ble 2 b && !(Nat.beq a b) && Zxz s a && !(Zm6 s b all 0) then s.kill b else s
  | _, _ => s
 | _ => s
def freed (all : List SV) : List SV -> Nat -> FSt -> FSt
 | [], _, s => s
 | x :: l, i, s => freed all l (i + 1) (freedAt all s i x)
def Z9p (l : List Nat) (s : FSt) : List SV -> Nat -> List SV
 | [], _ => []
 | x :: t, i => (match x with | .junk => .junk | _ => Z8d l (s.slot i)) :: Z9p l s t (i + 1)
def Zkn (l : List Nat) : List Nat :=
 let m := bif l.any (Nat.beq 0) then l else 0 :: l
 bif m.any (Nat.beq 1) then m else 1 :: m
def FSt.weak : List (Nat × Blk) -> FSt -> FSt
 | [], s => s
 | (i, .dee own' fr' e' _) :: l, s => match s.heap i with
  | some (.dee own fr e ls) => FSt.weak l (s.set i (.dee (own && own') (fr && fr' && (own' || !own)) (bif own && own' then e else e') ls))
  | _ => FSt.weak l s
 | _ :: l, s => FSt.weak l s
def Tab.norm (t : Tab) (s : FSt) : Tab :=
 let l := Zkn (t.heap.map (·.1))
 let s' := FSt.weak t.heap (renAll t.slots 0 (freed t.slots t.slots 0 s))
 ⟨Z9p l s' t.slots 0, (Z7F s'.heap l).map fun x => (x.1, ZcK l x.2)⟩
def kSeq {α : Type} (next : FSt -> Option α) (k : Ex -> FSt -> Option α) : Ex -> FSt -> Option α := fun e s => match e with
 | .normal => next s
 | .exit i => k (.exit i) s
 | .ret => k .ret s
def Zc {α : Type} (id : Nat) (k : Ex -> FSt -> Option α) : Ex -> FSt -> Option α := fun e s => match e with
 | .normal => k .normal s
 | .exit i => bif Nat.beq i id then k .normal s else k (.exit i) s
 | .ret => k .ret s
def Zz {α : Type} (rc : Tab -> Option α) (t : Tab) (k : Ex -> FSt -> Option α) : Ex -> FSt -> Option α := fun e s => match e with
 | .normal => rc (t.norm s)
 | .exit i => k (.exit i) s
 | .ret => k .ret s
def ZH {α : Type} (body : FSt -> (Ex -> FSt -> Option α) -> Option α) : Nat -> Tab -> (Ex -> FSt -> Option α) -> Option α
 | 0, _, _ => none
 | f + 1, t, k => body t.st (Zz (fun t' => ZH body f t' k) t k)
def Z6k : Code -> Nat
 | .exit id => id + 1
 | .seq a b => bif Nat.beq (Z6k a) 0 then Z6k b else Z6k a
 | .cond _ a b => bif Nat.beq (Z6k a) 0 then Z6k b else Z6k a
 | .block _ a => Z6k a
 | .loop a => Z6k a
 | _ => 0
def Z9 (N : Nat) (cs : List Nat) (a : Code) : Nat := bif cs.any (Nat.beq (Z6k a)) then 200 else N
def remade (o : Oper) : Option Nat := match o.op, o.dst with
 | .alloc _, some d => some d
 | .box _ _, some d => some d
 | _, _ => none
def FSt.clr (s : FSt) : List Oper -> FSt
 | [] => s
 | o :: l => match remade o with
  | some d => match s.heap (4 * d) with
   | some _ => bif Nat.ble 1 d then (s.kill (4 * d)).clr l else s.clr l
   | none => s.clr l
  | none => s.clr l
def ZuS (x : Nat) : List Oper -> List Nat
 | [] => []
 | o :: l => match o.op, o.dst with
  | .move (.tmp y), some d => bif Nat.beq d x then [y] else ZuS x l
  | _, _ => ZuS x l
def frzT (ops : List Oper) : List Oper -> List Nat
 | [] => []
 | o :: l => match o.op with
  | .buildSlice _ _ parts => match parts.toList with
   | (_, .tmp x) :: _ => ZuS x ops ++ frzT ops l
   | _ => frzT ops l
  | _ => frzT ops l
def frzOne (s : FSt) (x : Nat) : FSt := match s.slot x with
 | .row j => match s.heap j with
  | some (.row _ _ n c) => s.set j (.fro true n c)
  | _ => s
 | _ => s
def FSt.frzS (z : Bool) (ops : List Oper) (s : FSt) : FSt := bif z then (frzT ops ops).foldl frzOne s else s
def exec {α : Type} (P : Program) (S : Sums) (n : Nat) (fu : Code -> Nat) : Code -> FSt -> (Ex -> FSt -> Option α) -> Option α
 | .skip, s, k => k .normal s
 | .region _ ops _, s, k => regK P S n ops.toList 0 ops.toList ((s.clr ops.toList).frzS S.z ops.toList) (k .normal)
 | .seq a b, s, k => exec P S n fu a s (kSeq (fun s' => exec P S n fu b s' k) k)
 | .cond c x y, s, k => match s.ev c with
  | .val (.bool b) => if b = true then exec P S n fu x s k else exec P S n fu y s k
  | _ => none
 | .block id a, s, k => exec P S n fu a s (Zc id k)
 | .loop a, s, k => ZH (exec P S n fu a) (fu a) (s.tab (appS a) n) k
 | .exit id, s, k => k (.exit id) s
 | .ret, s, k => k .ret s
 | _, _, _ => none
def ZtE : Nat -> PV -> SV
 | _, .v x => .val x
 | i, .s _ _ => .row (4 * i)
 | _, .f g => .fn g
 | i, .p _ => .ptr (4 * i) 0
 | i, .ps _ _ => .ptr (4 * i) 0
 | i, .pf _ => .ptr (4 * i) 0
 | i, .d _ => .row (4 * i)
def ZG : Nat -> List PV -> List (Nat × Blk)
 | _, [] => []
 | i, .s n c :: l => (4 * i, .ros n c) :: ZG (i + 1) l
 | i, .p c :: l => (4 * i, .rop (c.map .val)) :: ZG (i + 1) l
 | i, .ps n c :: l => (4 * i, .rop [.row (4 * i + 1)]) :: (4 * i + 1, .ros n c) :: ZG (i + 1) l
 | i, .pf g :: l => (4 * i, .rop [.fn g]) :: ZG (i + 1) l
 | i, .d ls :: l => (4 * i, .dee false false 0 ls) :: ZG (i + 1) l
 | i, _ :: l => ZG (i + 1) l
def Z4Z : Nat -> List PV -> List SV
 | _, [] => []
 | i, a :: l => ZtE i a :: Z4Z (i + 1) l
def Zop (args : List PV) : FSt := Tab.st ⟨Z4Z 0 args, ZG 0 args⟩
def ZnA (P : Program) (ty : TypeId) (x : Value) : Option TR := match x with
 | .slice none 0 0 => match P.underlying ty with
  | some (.slice e) => match Zu P (sizeOf e) with
   | some sz => some (.s e sz 0 (.ints []))
   | none => none
  | _ => none
 | x => some (.v x)
def zipT : List ResultVar -> List TypeId -> List (ResultVar × TypeId)
 | [], _ => []
 | x :: l, [] => (x, 0) :: zipT l []
 | x :: l, t :: ts => (x, t) :: zipT l ts
def ZdS (P : Program) (s : FSt) (q : ResultVar × TypeId) : Option TR := match q.1 with
 | .tmp t => match s.slot t with
  | .val x => ZnA P q.2 x
  | .row id => match s.heap id with
   | some (.row e sz n c) => some (.s e sz n c)
   | some (.dee true true e ls) => some (.d e ls)
   | _ => none
  | _ => none
 | .cell a t => match s.slot a, Zu P (isAgg t), Zu P (sizeOf t) with
  | .ptr id off, some ag, some sz => match ld s.heap ag sz id off with
   | some o => if o.chk = true then (match o.v with
    | .val x => ZnA P q.2 x
    | .row id => match s.heap id with
     | some (.row e sz n c) => some (.s e sz n c)
     | _ => none
    | _ => none) else none
   | none => none
  | _, _, _ => none
def Z7K (P : Program) (s : FSt) : ResultVar -> Option Nat
 | .tmp t => match s.slot t with
  | .row id => some id
  | _ => none
 | .cell a t => match s.slot a, Zu P (isAgg t), Zu P (sizeOf t) with
  | .ptr id off, some ag, some sz => match ld s.heap ag sz id off with
   | some o => match o.v with
    | .row id => some id
    | _ => none
   | none => none
  | _, _, _ => none
def Z6H : List (Option Nat) -> Bool
 | [] => true
 | some i :: l => (l.all fun j => match j with | some k => !(Nat.beq i k) | none => true) && Z6H l
 | none :: l => Z6H l
def noD : List TR -> Bool
 | [] => true
 | .d _ _ :: _ => false
 | _ :: l => noD l
def ZaD : List TR -> Bool
 | [.d _ _] => true
 | l => noD l
def ZvO : Option (List TR) -> Option (List TR)
 | some l => if ZaD l = true then some l else none
 | none => none
def finish (P : Program) (fn : Func) (e : Ex) (s : FSt) : Option (List TR) := match e with
 | .exit _ => none
 | _ => if Z6H (fn.results.toList.map (Z7K P s)) = true then ZvO (Z1N (ZdS P s) (zipT fn.results.toList fn.resultTypes.toList)) else none
def Code.sub : List Nat -> Code -> Code
 | [], c => c
 | 0 :: l, .seq a _ => Code.sub l a
 | _ :: l, .seq _ b => Code.sub l b
 | 1 :: l, .cond _ a _ => Code.sub l a
 | _ :: l, .cond _ _ b => Code.sub l b
 | _ :: l, .block _ a => Code.sub l a
 | _ :: l, .loop a => Code.sub l a
 | _, _ => .skip
def Zb (P : Program) (f : Nat) : Code := match P.funcs[f]? with
 | some fn => match fn.body with
  | some c => c
  | none => .refuse ""
 | none => .refuse ""
def ZsC {α : Type} (P : Program) (fn : Func) (dec : List TR -> Option α) (e : Ex) (s : FSt) : Option α := match finish P fn e s with
 | some rs => dec rs
 | none => none
def finT {α : Type} (P : Program) (f : Nat) (dec : List TR -> Option α) (e : Ex) (s : FSt) : Option α := match P.funcs[f]? with
 | some fn => ZsC P fn dec e s
 | none => none
def Z7W {α : Type} (P : Program) (S : Sums) (f n : Nat) (fu : Code -> Nat) (dec : List TR -> Option α) (args : List PV) : Option α :=
 if Nat.ble args.length n = true then exec P S n fu (Zb P f) (Zop args) (finT P f dec) else none

end Go.Proofs.Ytfclaacaphpoaaa
