import Derived.WalkKit
import Derived.WalkSpells
import Derived.WalkLawsBesides
import Derived.Orders
import Derived.Maps.AppendAt
import Derived.Deep.OwnRows
import Derived.Laws.OwnMore
import Derived.LoopN
import Derived.Laws.BytesString
import Derived.Laws.Strings
set_option linter.unusedSimpArgs false
set_option linter.unusedVariables false
namespace Go.Proofs.Ytikfglnhkjoioaa
open Go.RowKit
/-! A function's code read as a computation over named blocks. -/
/-- What the program's package variables hold. -/
def gvars : List (List Value) := []
inductive Cells
  | ints (l : List Int)
  | byts (l : List Int)
  | strs (l : List ByteArray)
  | vals (l : List Value)
def Cells.len : Cells → Nat
  | .ints l => l.length
  | .byts l => l.length
  | .strs l => l.length
  | .vals l => l.length
def Cells.get : Cells → Nat → Value
  | .ints l, i => .int .i64 (l.getD i 0)
  | .byts l, i => .int .u8 (l.getD i 0)
  | .strs l, i => .string (l.getD i ByteArray.empty)
  | .vals l, i => l.getD i undef
def Cells.toVals : Cells → List Value
  | .ints l => l.map (Value.int .i64)
  | .byts l => l.map (Value.int .u8)
  | .strs l => l.map Value.string
  | .vals l => l
def intsOf : List Value → Option (List Int)
  | [] => some []
  | .int .i64 n :: l => match intsOf l with | some m => some (n :: m) | none => none
  | _ => none
def bytsOf : List Value → Option (List Int)
  | [] => some []
  | .int .u8 n :: l => match bytsOf l with | some m => some (n :: m) | none => none
  | _ => none
def strsOf : List Value → Option (List ByteArray)
  | [] => some []
  | .string n :: l => match strsOf l with | some m => some (n :: m) | none => none
  | _ => none
def cellsOf (l : List Value) : Cells := match intsOf l with | some m => .ints m | none => match bytsOf l with | some m => .byts m | none => match strsOf l with | some m => .strs m | none => .vals l
def Cells.okB : Cells → Bool
  | .ints _ => true
  | .byts _ => true
  | .strs _ => true
  | .vals l => l.all (·.oneCell')
def Cells.put : Cells → Nat → Value → Option Cells
  | .ints l, i, .int .i64 n => some (.ints (l.set i n))
  | .byts l, i, .int .u8 n => some (.byts (l.set i n))
  | .strs l, i, .string n => some (.strs (l.set i n))
  | .vals l, i, .string s => some (.vals (l.set i (.string s)))
  | .vals l, i, .bool b => some (.vals (l.set i (.bool b)))
  | _, _, _ => none
def Cells.puts : Cells → Nat → List Value → Option Cells
  | c, _, [] => some c
  | c, i, v :: l => match c.put i v with | some c' => c'.puts (i + 1) l | none => none
def Cells.app : Cells → Cells → Option Cells
  | .ints a, .ints b => some (.ints (a ++ b))
  | .byts a, .byts b => some (.byts (a ++ b))
  | .ints [], .byts b => some (.byts b)
  | .byts a, .ints [] => some (.byts a)
  | .strs a, .strs b => some (.strs (a ++ b))
  | .ints [], .strs b => some (.strs b)
  | .strs a, .ints [] => some (.strs a)
  | .vals a, .vals b => some (.vals (a ++ b))
  | .ints [], .vals b => some (.vals b)
  | .vals a, .ints [] => some (.vals a)
  | _, _ => none
def Cells.cut (c : Cells) (lo n : Nat) : Cells := match c with
  | .ints l => .ints ((l.drop lo).take n)
  | .byts l => .byts ((l.drop lo).take n)
  | .strs l => .strs ((l.drop lo).take n)
  | .vals l => .vals ((l.drop lo).take n)
inductive TI
  | v (x : Value)
  | r (id : Nat)
inductive SV
  | val (x : Value)
  | ptr (id off : Nat)
  | row (id : Nat)
  | sub (id off n sz : Nat)
  | clo (f : Nat) (caps : List Nat)
  | fn (g : List Value → Option (Bool × Value))
  | tup (l : List TI)
  | agr (l : List TI)
  | junk
inductive Blk
  | box (elem : TypeId) (cells : List SV)
  | row (elem : TypeId) (sz n : Nat) (c : Cells)
  | ros (n : Nat) (c : Cells)
  | rop (cells : List SV)
  | fro (fr : Bool) (n : Nat) (c : Cells)
  | dee (own fr : Bool) (e : TypeId) (ls : List (List Int))
structure FSt where
  slot : Nat → SV
  heap : Nat → Option Blk
inductive PV
  | v (x : Value)
  | s (n : Nat) (c : Cells)
  | f (g : List Value → Option (Bool × Value))
  | p (c : List Value)
  | ps (n : Nat) (c : Cells)
  | pf (g : List Value → Option (Bool × Value))
  | d (ls : List (List Int))
inductive TR
  | v (x : Value)
  | s (elem : TypeId) (sz n : Nat) (c : Cells)
  | d (elem : TypeId) (ls : List (List Int))
inductive Ex
  | normal
  | exit (id : Nat)
  | ret
abbrev MRun := TypeId → Nat → Nat → Cells → List Value → Option (Bool × Value × Cells)
/-- A cell of a variable that is handed on by its address. -/
inductive BC
  | v (x : Value)
  | s (n : Nat) (c : Cells)
/-- A function that is handed a variable's address first: what becomes of the variable. -/
abbrev PRun := TypeId → List BC → List PV → Option (Bool × List Value × List BC)
/-- A function that makes a variable around its argument, a slice. -/
abbrev BRun := List PV → Option (Bool × TypeId × List Value)
inductive MFn
  | row (run : MRun)
  | box (run : PRun)
  | src (run : BRun)
  | cap (run : PRun)
/-- Contracts of functions: those that write nothing that is there, and those that write what their first argument leads to. -/
structure Sums where
  f : Nat → Option (List PV → Option (Bool × List TR))
  m : Nat → Option MFn
  k : Bool
  z : Bool
def semOnly {α : Type} (P : Program) : Sem α → Option α
  | .pure a => some a
  | .program k => semOnly P (k P)
  | _ => none
def FSt.ev (s : FSt) : Operand → SV
  | .tmp t => s.slot t
  | .const v => .val v
  | .global _ => .junk
  | .func f => .clo f []
def SV.vals : List SV → Option (List Value)
  | [] => some []
  | .val x :: l => match SV.vals l with | some m => some (x :: m) | none => none
  | _ => none
def SV.isVal : SV → Bool
  | .val _ => true
  | _ => false
def FSt.evV (s : FSt) (x : Operand) : Value := match s.ev x with | .val v => v | _ => undef
/-- What an operation does: a test that must hold, its value, blocks that it makes, a block that it writes, a block that it takes over. -/
structure Out where
  chk : Bool
  v : SV
  news : List (Nat × Blk)
  upd : Option (Nat × Blk)
  drop : Option Nat
def Out.pure (chk : Bool) (v : SV) : Out := ⟨chk, v, [], none, none⟩
def nilS : Value := .slice none 0 0
/-- The value of an operation that works on values alone. -/
def opVal (P : Program) (s : FSt) (o : Oper) : Option Out :=
  if (o.op.operands.toList.all fun x => (s.ev x).isVal) = true then
    match semOnly P (execOp s.evV o) with
    | some (.value v) => some (.pure true (.val v))
    | _ => none
  else none
def eqL : List Int → List Int → Bool
  | [], [] => true
  | [a], [b] => a == b
  | a :: l, b :: m => a == b && eqL l m
  | _, _ => false
def eqInts (l m : List Value) : Option Bool := match intsOf l, intsOf m with
  | some a, some b => some (eqL a b)
  | _, _ => none
/-- An array of whole numbers. -/
def intArr (P : Program) (t : TypeId) : Option Nat := match P.underlying t with
  | some (.array n e) => match P.underlying e, semOnly P (sizeOf e) with
    | some (.int _), some 1 => some n
    | _, _ => none
  | _ => none
def szB (P : Program) (t : TypeId) (k : Nat) : Bool := match semOnly P (sizeOf t) with
  | some k' => Nat.beq k k'
  | none => false
def flatFs (g : TypeId → Option Nat) : List Field → Nat → Option Nat
  | [], o => some o
  | f :: l, o => if (Nat.beq f.offset o && (f.name != "_")) = true then (match g f.type with
    | some k => flatFs g l (o + k)
    | none => none) else none
/-- A type whose cells are whole numbers, all of which tell. -/
def flatT (P : Program) : Nat → TypeId → Option Nat
  | 0, _ => none
  | d + 1, t => match P.underlying t with
    | some (.int _) => if szB P t 1 = true then some 1 else none
    | some (.array n e) => match flatT P d e with
      | some k => if (szB P t (n * k) && szB P e k) = true then some (n * k) else none
      | none => none
    | some (.struct fs) => if P.stoodInHeld t = false then (match flatFs (flatT P d) fs.toList 0 with
      | some k => if szB P t k = true then some k else none
      | none => none) else none
    | _ => none
/-- The cells of a list that is written out; an empty one has its element's kind. -/
def emptyC (P : Program) (e : TypeId) : Cells := match semOnly P (zeroValue e) with
  | some (.string _) => .strs []
  | _ => .ints []
def cellsE (P : Program) (e : TypeId) (l : List Value) : Cells := match l with
  | [] => emptyC P e
  | l => cellsOf l
def opBin (P : Program) (s : FSt) (o : Oper) (op : BinOp) (t : TypeId) (x y : Operand) : Option Out :=
  match op, s.ev x, s.ev y with
  | .add, .val (.string a), .val (.string b) => some (.pure (Nat.ble (a.size + b.size) 9223372036854775807) (.val (.string (a ++ b))))
  | .quo, .val (.int k a), .val (.int k' b) => if (k = k') then some (.pure (!(b == 0)) (.val (.int k (k.wrap (a.tdiv b))))) else none
  | .rem, .val (.int k a), .val (.int k' b) => if (k = k') then some (.pure (!(b == 0)) (.val (.int k (a.tmod b)))) else none
  | .eql, .val (.agg a), .val (.agg b) => match intArr P t, eqInts a.toList b.toList with
    | some n, some r => if (Nat.beq a.size n && Nat.beq b.size n) = true then some (.pure true (.val (.bool r))) else none
    | none, some r => match flatT P 4 t, semOnly P (isAgg t) with
      | some k, some true => if (Nat.beq a.size k && Nat.beq b.size k && !(P.eqGuardType P.depth t)) = true then some (.pure true (.val (.bool r))) else none
      | _, _ => none
    | _, _ => none
  | .neq, .val (.agg a), .val (.agg b) => match intArr P t, eqInts a.toList b.toList with
    | some n, some r => if (Nat.beq a.size n && Nat.beq b.size n) = true then some (.pure true (.val (.bool (!r)))) else none
    | none, some r => match flatT P 4 t, semOnly P (isAgg t) with
      | some k, some true => if (Nat.beq a.size k && Nat.beq b.size k && !(P.eqGuardType P.depth t)) = true then some (.pure true (.val (.bool (!r)))) else none
      | _, _ => none
    | _, _ => none
  | _, _, _ => opVal P s o
def ld (H : Nat → Option Blk) (agg : Bool) (size id off : Nat) : Option Out :=
  match H id with
  | some (.box _ cells) | some (.rop cells) =>
    if agg = true then
      match SV.vals ((cells.drop off).take size) with
      | some l => if Nat.beq l.length size = true then some (.pure true (.val (.agg l.toArray))) else none
      | none => none
    else match cells[off]? with
      | some v => some (.pure true v)
      | none => none
  | some (.row _ _ _ c) | some (.ros _ c) | some (.fro _ _ c) =>
    if agg = true then some (.pure (Nat.ble (off + size) c.len) (.val (.agg ((List.range size).map fun j => c.get (off + j)).toArray)))
    else some (.pure (Nat.ble (off + 1) c.len) (.val (c.get off)))
  | some (.dee ..) => none
  | none => none
def upd1 (y c : SV) (b : Bool) : SV := match y, c with
  | .val (.int k v), .val (.int k' x) => if k = k' then .val (.int k (bif b then v else x)) else bif b then y else c
  | _, _ => bif b then y else c
/-- One cell written, at a place that may be computed. -/
def set1 (y : SV) (off : Nat) : List SV → Nat → List SV
  | [], _ => []
  | c :: l, j => upd1 y c (Nat.beq off j) :: set1 y off l (j + 1)
def setAll : List SV → Nat → List SV → List SV
  | l, _, [] => l
  | l, i, v :: vs => setAll (set1 v i l 0) (i + 1) vs
def tiSV : TI → SV
  | .v x => .val x
  | .r id => .row id
def SV.parts (x : SV) : List SV := match x with
  | .val v => v.cells.toList.map .val
  | .agr l => l.map tiSV
  | x => [x]
def SV.keeps : SV → Bool
  | .val (.agg _) => false
  | .val (.tuple _) => false
  | .val _ => true
  | .tup _ => false
  | .agr _ => false
  | .junk => false
  | _ => true
def st (H : Nat → Option Blk) (size id off : Nat) (x : SV) : Option Out :=
  if (Nat.beq x.parts.length size && x.parts.all SV.keeps) = true then
    match H id with
    | some (.box e cells) =>
      some ⟨Nat.ble (off + size) cells.length, .val undef, [], some (id, .box e (setAll cells off x.parts)), none⟩
    | some (.row e sz n c) =>
      match x with
      | .val v => match c.puts off v.cells.toList with
        | some c' => some ⟨Nat.ble (off + size) c.len, .val undef, [], some (id, .row e sz n c'), none⟩
        | none => none
      | _ => none
    | _ => none
  else none
def bsCells (t : TypeId) (len : Nat) (parts : Array (Nat × Value)) : Sem (TypeId × Nat × Array Value) := do
  let .slice elem ← underlying t | stuck "buildSlice: slice type expected"
  let size ← sizeOf elem
  if len * size > 2 ^ 24 then unsupported (.resourceLimit "buildSlice: more than 2^24 cells")
  let zero ← if len * size = 0 then pure #[] else do pure (← zeroValue elem).cells
  let some cells := Instr.fill (fun i => some (i * size, size)) ((Array.range (len * size)).map (zero[· % zero.size]!)) parts.toList
    | stuck "buildSlice: a part of the wrong size"
  pure (elem, size, cells)
def PVof (H : Nat → Option Blk) (S : Nat → List Nat → Option (List Value → Option (Bool × Value))) : SV → Option PV
  | .val (.slice none 0 0) => some (.s 0 (.ints []))
  | .val x => some (.v x)
  | .row id => match H id with
    | some (.row _ _ n c) => some (.s n c)
    | some (.ros n c) => some (.s n c)
    | some (.fro _ n c) => some (.s n c)
    | some (.dee _ _ _ ls) => some (.d ls)
    | _ => none
  | .sub id off n sz => match H id with
    | some (.row _ _ _ c) => some (.s n (c.cut off (n * sz)))
    | some (.ros _ c) => some (.s n (c.cut off (n * sz)))
    | some (.fro _ _ c) => some (.s n (c.cut off (n * sz)))
    | some (.box _ cells) => match SV.vals ((cells.drop off).take (n * sz)) with
      | some l => if (Nat.beq l.length (n * sz) && (cellsOf l).okB) = true then some (.s n (cellsOf l)) else none
      | none => none
    | _ => none
  | .clo f caps => match S f caps with
    | some g => some (.f g)
    | none => none
  | .fn g => some (.f g)
  | _ => none
def capOf (H : Nat → Option Blk) (id : Nat) : Option PV := match H id with
  | some (.box _ [.row i]) => match H i with
    | some (.row _ _ n c) => some (.ps n c)
    | some (.ros n c) => some (.ps n c)
    | _ => none
  | some (.rop [.row i]) => match H i with
    | some (.row _ _ n c) => some (.ps n c)
    | some (.ros n c) => some (.ps n c)
    | _ => none
  | some (.box _ [.fn g]) => some (.pf g)
  | some (.rop [.fn g]) => some (.pf g)
  | some (.box _ cells) => match SV.vals cells with | some l => some (.p l) | none => none
  | some (.rop cells) => match SV.vals cells with | some l => some (.p l) | none => none
  | _ => none
def optMap {α β : Type} (f : α → Option β) : List α → Option (List β)
  | [] => some []
  | a :: l => match f a with
    | some b => match optMap f l with | some m => some (b :: m) | none => none
    | none => none
/-- A function value that the code makes, as a function on values. -/
def cloFn (S : Sums) (H : Nat → Option Blk) (f : Nat) (caps : List Nat) : Option (List Value → Option (Bool × Value)) :=
  match S.f f, optMap (capOf H) caps with
  | some run, some cs => some fun args => match run (args.map PV.v ++ cs) with
    | some (c, [.v r]) => some (c, r)
    | _ => none
  | _, _ => none
def newsOf : Nat → List TR → List (Nat × Blk) × List TI
  | _, [] => ([], [])
  | i, .v x :: l => let r := newsOf (i + 1) l; (r.1, .v x :: r.2)
  | i, .s e sz n c :: l => let r := newsOf (i + 1) l; ((i, .row e sz n c) :: r.1, .r i :: r.2)
  | i, .d e ls :: l => let r := newsOf (i + 1) l; ((i, .dee true true e ls) :: r.1, .r i :: r.2)
def maxI (x y : Int) : Int := if y > x then y else x
def minI (x y : Int) : Int := if y < x then y else x
def isV : TR → Bool
  | .v _ => true
  | _ => false
def outMany (d : Nat) (c : Bool) (rs : List TR) : Option Out :=
  if (Nat.ble rs.length 4 || rs.all isV) = true then
    match (newsOf (4 * d) rs).2 with
    | [.r i] => some ⟨c, .row i, (newsOf (4 * d) rs).1, none, none⟩
    | l => some ⟨c, .tup l, (newsOf (4 * d) rs).1, none, none⟩
  else none
def isOneV : List TR → Option Value
  | [.v x] => some x
  | _ => none
def outOf (d : Option Nat) (c : Bool) (rs : List TR) : Option Out :=
  match d with
  | none => match rs with
    | [.v _] => some (.pure c .junk)
    | [] => some (.pure c .junk)
    | _ => none
  | some d => match isOneV rs with
    | some x => some (.pure c (.val x))
    | none => outMany d c rs
def madeC (z : Value) (k : Nat) : Cells := match z with
  | .int .i64 a => .ints (List.replicate k a)
  | .int .u8 a => .byts (List.replicate k a)
  | .string a => .strs (List.replicate k a)
  | z => .vals (List.replicate k z)
/-- The cells of n elements of size sz: one cell each, or whole numbers that are 0. -/
def madeR (z : Value) (sz k : Nat) : Option Cells := match sz with
  | 1 => if z.oneCell' = true then some (madeC z k) else none
  | sz => match intsOf z.cells.toList with
    | some zs => if (zs.all (fun x => x == 0) && Nat.beq zs.length sz) = true then some (.ints (List.replicate (k * sz) 0)) else none
    | none => none
def zeroOK (i : TypeInfo) : Bool := match i.zero with
  | some z => Nat.beq z.cells.size i.size
  | none => false
def appendOut (P : Program) (s : FSt) (d : Nat) (t : TypeId) (a x : SV) : Option Out :=
  match P.underlying t with
  | some (.slice e) =>
    match semOnly P (typeInfo e) with
    | some i =>
      if (Nat.ble 1 i.size && Nat.ble i.bytes 1000 && zeroOK i) = true then
        match PVof s.heap (fun _ _ => none) x with
        | some (.s m c2) =>
          match a with
          | .val (.slice none 0 0) => some ⟨Nat.ble 0 m && Nat.ble m 2000000 && Nat.beq c2.len (m * i.size), .row (4 * d), [(4 * d, .row e i.size m c2)], none, none⟩
          | .row id => match s.heap id with
            | some (.row e' sz n c1) => if (Nat.beq e e' && Nat.beq sz i.size && Nat.ble 2 id) = true then
                match c1.app c2 with
                | some c => some ⟨Nat.ble 0 m && Nat.ble (n + m) 2000000 && Nat.beq c2.len (m * i.size), .row (4 * d), [(4 * d, .row e sz (n + m) c)], none, some id⟩
                | none => none
              else none
            | _ => none
          | _ => none
        | _ => none
      else none
    | none => none
  | _ => none
def mutOf (S : Sums) : Operand → Option MFn
  | .func g => S.m g
  | .tmp _ => bif S.k then some (.cap fun _ _ _ => none) else none
  | _ => none
def bcOf (H : Nat → Option Blk) : SV → Option BC
  | .val x => some (.v x)
  | .row id => match H id with
    | some (.ros n c) => some (.s n c)
    | _ => none
  | _ => none
def pvB (H : Nat → Option Blk) : SV → Option PV
  | .val x => some (.v x)
  | .row id => match H id with
    | some (.ros n c) => some (.s n c)
    | some (.row _ _ n c) => some (.s n c)
    | _ => none
  | _ => none
def sameB : List BC → List BC → Bool
  | [], [] => true
  | .v _ :: l, .v _ :: m => sameB l m
  | .s _ _ :: l, .s _ _ :: m => sameB l m
  | _, _ => false
def newSV : List SV → List BC → List SV
  | _ :: l, .v x :: m => .val x :: newSV l m
  | x :: l, .s _ _ :: m => x :: newSV l m
  | _, _ => []
def retV : List Value → SV
  | [x] => .val x
  | l => .tup (l.map TI.v)
def boxOut (s : FSt) (run : PRun) : List SV → Option Out
  | .ptr id 0 :: xs => match s.heap id with
    | some (.box e cells) => match optMap (bcOf s.heap) cells, optMap (pvB s.heap) xs with
      | some bcs, some pvs => match run e bcs pvs with
        | some (ok, rs, bcs') => if sameB bcs bcs' = true then some ⟨ok, retV rs, [], some (id, .box e (newSV cells bcs')), none⟩ else none
        | none => none
      | _, _ => none
    | _ => none
  | _ => none
def srcOut (s : FSt) (d : Option Nat) (run : BRun) : List SV → Option Out
  | [.row id] => match s.heap id, d with
    | some (.ros n c), some d => match run [.s n c] with
      | some (ok, e, vals) => some ⟨ok, .ptr (4 * d) 0, [(4 * d, .box e (.row id :: vals.map SV.val))], none, none⟩
      | none => none
    | _, _ => none
  | _ => none
def rowOut (s : FSt) (run : MRun) : List SV → Option Out
  | .row id :: xs => match s.heap id, SV.vals xs with
    | some (.row e sz n c), some vs => match run e sz n c vs with
      | some (ok, r, c') => some ⟨ok, .val r, [], some (id, .row e sz n c'), none⟩
      | none => none
    | _, _ => none
  | _ => none
/-- A function value that writes what a captured variable points to. -/
def capOut (S : Sums) (s : FSt) : SV → List SV → Option Out
  | .clo g [ib], xs => match S.m g with
    | some (.cap run) => match s.heap ib with
      | some (.box _ [.ptr id 0]) => boxOut s run (.ptr id 0 :: xs)
      | _ => none
    | _ => none
  | _, _ => none
def mutOut (S : Sums) (s : FSt) (d : Option Nat) (fv : SV) : MFn → List SV → Option Out
  | .row run => rowOut s run
  | .box run => boxOut s run
  | .src run => srcOut s d run
  | .cap _ => capOut S s fv
def offOK (places : Array (Nat × Nat)) (i : Nat) : Bool := match places[i]? with
  | some (o, _) => Nat.ble 1 o
  | none => false
/-- A struct whose first part is a slice. -/
def agrOut (P : Program) (s : FSt) (t : TypeId) : List (Nat × Operand) → Option Out
  | (i, x) :: rest => match s.ev x with
    | .row id =>
        if (rest.all fun q => (s.ev q.2).isVal) = true then
          match P.underlying t with
          | some (.struct fields) => match semOnly P (fields.mapM fun f => do pure (f.offset, ← sizeOf f.type)), semOnly P (zeroValue t) with
            | some places, some z => match places[i]? with
              | some (0, 1) => if (rest.all fun q => offOK places q.1) = true then
                  match Instr.fill (places[·]?) z.cells (rest.map fun q => (q.1, s.evV q.2)) with
                  | some cells => if Nat.ble 1 z.cells.size = true then some (.pure true (.agr (.r id :: (cells.toList.drop 1).map TI.v))) else none
                  | none => none
                else none
              | _ => none
            | _, _ => none
          | _ => none
        else none
    | _ => none
  | [] => none
def globOf : Operand → Option Nat
  | .global g => some g
  | _ => none
/-- A package variable, read. -/
def gload (P : Program) (t : TypeId) (g : Nat) : Option Out := match gvars[g]?, semOnly P (isAgg t), semOnly P (sizeOf t) with
  | some vals, some true, some sz => if Nat.beq vals.length sz = true then some (.pure true (.val (.agg vals.toArray))) else none
  | some [v], some false, some _ => some (.pure true (.val v))
  | _, _, _ => none
/-- A bound of a slice. -/
def bndOf (s : FSt) (d : Int) : Option Operand → Option Int
  | none => some d
  | some x => match s.ev x with
    | .val (.int .i64 k) => some k
    | _ => none
def sliceRow (P : Program) (s : FSt) (id : Nat) (lo hi : Option Operand) (e : TypeId) : Option Out :=
  match semOnly P (sizeOf e), s.heap id with
  | some sz, some (.row _ _ n _) => match bndOf s 0 lo, bndOf s (n : Int) hi with
    | some l, some h => some (.pure (decide (0 ≤ l) && decide (l ≤ h) && decide (h ≤ (n : Int))) (.sub id (l.toNat * sz) (h.toNat - l.toNat) sz))
    | _, _ => none
  | some sz, some (.ros n _) => match bndOf s 0 lo, bndOf s (n : Int) hi with
    | some l, some h => some (.pure (decide (0 ≤ l) && decide (l ≤ h) && decide (h ≤ (n : Int))) (.sub id (l.toNat * sz) (h.toNat - l.toNat) sz))
    | _, _ => none
  | some sz, some (.dee _ _ _ ls) => match bndOf s 0 lo, bndOf s (ls.length : Int) hi with
    | some l, some h => some (.pure (decide (0 ≤ l) && decide (l ≤ h) && decide (h ≤ (ls.length : Int))) (.sub id (l.toNat * sz) (h.toNat - l.toNat) sz))
    | _, _ => none
  | _, _ => none
def sliceStr (s : FSt) (b : ByteArray) (lo hi : Option Operand) : Option Out :=
  match bndOf s 0 lo, bndOf s (b.size : Int) hi with
  | some l, some h => some (.pure (decide (0 ≤ l) && decide (l ≤ h) && decide (h ≤ (b.size : Int))) (.val (.string (b.extract l.toNat h.toNat))))
  | _, _ => none
/-- A string of bytes. -/
def strOf (l : List Int) : ByteArray := l.foldl (fun s n => s.push (UInt8.ofNat n.toNat)) ByteArray.empty
def toStr (P : Program) (s : FSt) (t u : TypeId) (id : Nat) : Option Out := match P.underlying t, P.underlying u with
  | some (.slice e), some .string => match P.underlying e, s.heap id with
    | some (.int .u8), some (.row _ _ n (.byts l)) => some (.pure (Nat.beq l.length n) (.val (.string (strOf l))))
    | _, _ => none
  | _, _ => none
def opOut0 (P : Program) (S : Sums) (s : FSt) (o : Oper) : Option Out :=
  match o.op with
  | .move x | .assign x => some (.pure true (s.ev x))
  | .pick c a b => match s.ev c with
    | .val (.bool t) => match t with
      | true => some (.pure true (s.ev a))
      | false => some (.pure true (s.ev b))
    | _ => none
  | .alloc e => match o.dst, semOnly P (zeroValue e) with
    | some d, some z => some ⟨true, .ptr (4 * d) 0, [(4 * d, .box e (z.cells.toList.map .val))], none, none⟩
    | _, _ => none
  | .box e x => match o.dst, s.ev x with
    | _, .junk => none
    | some d, _ => some ⟨true, .ptr (4 * d) 0, [(4 * d, .box e (s.ev x).parts)], none, none⟩
    | none, _ => none
  | .buildSlice t len parts => match o.dst with
    | some d => if (parts.toList.all fun x => (s.ev x.2).isVal) = true then
        match semOnly P (bsCells t len (parts.map fun (i, x) => (i, s.evV x))) with
        | some (e, sz, cells) => if (Nat.beq cells.size (len * sz) && Nat.ble len 2000000 && (cellsE P e cells.toList).okB) = true then some ⟨true, .row (4 * d), [(4 * d, .row e sz len (cellsE P e cells.toList))], none, none⟩ else none
        | none => none
      else none
    | none => none
  | .load t x => match globOf x with
    | some g => gload P t g
    | none => match s.ev x, semOnly P (isAgg t), semOnly P (sizeOf t) with
      | .ptr id off, some a, some sz => ld s.heap a sz id off
      | _, _, _ => none
  | .store t x y => match o.dst with
    | some _ => none
    | none => match s.ev x, semOnly P (sizeOf t) with
      | .ptr id off, some sz => st s.heap sz id off (s.ev y)
      | _, _ => none
  | .binOp op t x y _ => opBin P s o op t x y
  | .unOp .. | .field .. => opVal P s o
  | .convert t u x => match s.ev x with
    | .row id => toStr P s t u id
    | _ => opVal P s o
  | .build t ps => match agrOut P s t ps.toList with
    | some r => some r
    | none => opVal P s o
  | .makeFunc (.func f) first captured =>
    if Nat.beq first.size 0 = true then
    match optMap (fun x => match s.ev x with | .ptr id 0 => some id | _ => none) captured.toList with
    | some l => some (.pure true (.clo f l))
    | none => none
    else none
  | .makeSlice t x y => match o.dst, s.ev x, s.ev y, P.underlying t with
    | some d, .val (.int .i64 n), .val (.int .i64 m), some (.slice e) => match semOnly P (sizeOf e), semOnly P (zeroValue e), semOnly P (typeInfo e) with
      | some sz, some z, some i => match madeR z sz n.toNat with
        | some c => if Nat.ble i.bytes 1000 = true then some ⟨decide (0 ≤ n) && decide (n ≤ 2000000) && n == m, .row (4 * d), [(4 * d, .row e sz n.toNat c)], none, none⟩ else none
        | none => none
      | _, _, _ => none
    | _, _, _, _ => none
  | .fieldAddr t x f => match s.ev x, P.underlying t with
    | .ptr id off, some (.struct fs) => match fs[f]? with
      | some fd => match semOnly P (sizeOf fd.type) with
        | some sz => if Nat.ble 1 sz = true then some (.pure true (.ptr id (off + fd.offset))) else none
        | none => none
      | none => none
    | _, _ => none
  | .indexAddr t x i => match s.ev x, s.ev i, P.underlying t with
    | .ptr id off, .val (.int _ n), some (.array len e) => match semOnly P (sizeOf e) with
      | some sz => some (.pure (decide (0 ≤ n) && decide (n < (len : Int))) (.ptr id (off + n.toNat * sz)))
      | none => none
    | .row id, .val (.int _ n), some (.slice e) => match s.heap id, semOnly P (sizeOf e) with
      | some (.row _ _ len _), some sz => some (.pure (decide (0 ≤ n) && decide (n < (len : Int))) (.ptr id (n.toNat * sz)))
      | some (.ros len _), some sz => some (.pure (decide (0 ≤ n) && decide (n < (len : Int))) (.ptr id (n.toNat * sz)))
      | some (.fro _ len _), some sz => some (.pure (decide (0 ≤ n) && decide (n < (len : Int))) (.ptr id (n.toNat * sz)))
      | some (.dee _ _ _ ls), some sz => some (.pure (decide (0 ≤ n) && decide (n < (ls.length : Int))) (.ptr id (n.toNat * sz)))
      | _, _ => none
    | .sub id off len _, .val (.int _ n), some (.slice e) => match semOnly P (sizeOf e) with
      | some sz => some (.pure (decide (0 ≤ n) && decide (n < (len : Int))) (.ptr id (off + n.toNat * sz)))
      | none => none
    | _, _, _ => none
  | .index t x i => match s.ev x, s.ev i, P.underlying t with
    | .val (.agg cs), .val (.int _ n), some (.array len e) => match semOnly P (sizeOf e) with
      | some sz => match semOnly P (part e cs (n.toNat * sz)) with
        | some v => some (.pure (decide (0 ≤ n) && decide (n < (len : Int))) (.val v))
        | none => none
      | none => none
    | .val (.string b), .val (.int _ n), some .string => some (.pure (decide (0 ≤ n) && decide (n < (b.size : Int))) (.val (.int .u8 (b.data.getD n.toNat 0).toNat)))
    | _, _, _ => none
  | .slice t x lo hi mx => match s.ev x, lo, hi, mx, P.underlying t with
    | .ptr id off, none, none, none, some (.array n e) => match semOnly P (sizeOf e) with
      | some sz => some (.pure true (.sub id off n sz))
      | none => none
    | .ptr id off, none, some hx, none, some (.array n e) => match s.ev hx with
      | .val hv => match semOnly P (Instr.sliceBounds false n n none (some hv) none), semOnly P (sizeOf e) with
        | some (0, h, m), some sz => if Nat.ble h m = true then some (.pure true (.sub id off h sz)) else none
        | _, _ => none
      | _ => none
    | .row id, none, none, none, some (.slice e) => match semOnly P (sizeOf e) with
      | some _ => match s.heap id with
        | some (.row ..) => some (.pure true (.row id))
        | some (.ros ..) => some (.pure true (.row id))
        | _ => none
      | none => none
    | .row id, lo, hi, none, some (.slice e) => sliceRow P s id lo hi e
    | .val (.string b), lo, hi, none, some .string => sliceStr s b lo hi
    | _, _, _, _, _ => none
  | .nilCheck x => match s.ev x with
    | .ptr id off => some (.pure true (.ptr id off))
    | _ => none
  | .sliceToArrayPointer t x => match s.ev x, P.underlying t with
    | .row id, some (.array len _) => match s.heap id with
      | some (.row _ _ m _) => some (.pure (Nat.ble len m && Nat.ble 1 m) (.ptr id 0))
      | some (.ros m _) => some (.pure (Nat.ble len m && Nat.ble 1 m) (.ptr id 0))
      | _ => none
    | _, _ => none
  | .extract x i => match s.ev x with
    | .tup l => match l[i]? with
      | some (.v v) => some (.pure true (.val v))
      | some (.r id) => some (.pure true (.row id))
      | none => none
    | _ => none
  | .call c => match c.callee with
    | .value f => match mutOf S f with
      | some run => mutOut S s o.dst (s.ev f) run (c.args.toList.map s.ev)
      | none => match s.ev f with
        | .clo g caps => match S.f g, optMap (fun x => PVof s.heap (cloFn S s.heap) (s.ev x)) c.args.toList, optMap (capOf s.heap) caps with
          | some run, some args, some cs => match run (args ++ cs) with
            | some (ok, rs) => outOf o.dst ok rs
            | none => none
          | _, _, _ => none
        | .fn g => match SV.vals (c.args.toList.map s.ev) with
          | some args => match g args with
            | some (ok, r) => outOf o.dst ok [.v r]
            | none => none
          | none => none
        | _ => none
    | .builtin .len => match c.args.toList.map s.ev, c.argTypes.toList with
      | [.val (.string b)], [t] => match P.underlying t with
        | some .string => some (.pure true (.val (.int .i64 b.size)))
        | _ => none
      | [.row id], [t] => match s.heap id, P.underlying t with
        | some (.row _ _ n _), some (.slice _) => some (.pure true (.val (.int .i64 n)))
        | some (.ros n _), some (.slice _) => some (.pure true (.val (.int .i64 n)))
        | some (.fro _ n _), some (.slice _) => some (.pure true (.val (.int .i64 n)))
        | some (.dee _ _ _ ls), some (.slice _) => some (.pure true (.val (.int .i64 ls.length)))
        | _, _ => none
      | [.sub _ _ n _], [t] => match P.underlying t with
        | some (.slice _) => some (.pure true (.val (.int .i64 n)))
        | _ => none
      | _, _ => none
    | .builtin .max => match c.args.toList.map s.ev with
      | [.val (.int .i64 x), .val (.int .i64 y)] => some (.pure true (.val (.int .i64 (maxI x y))))
      | _ => none
    | .builtin .min => match c.args.toList.map s.ev with
      | [.val (.int .i64 x), .val (.int .i64 y)] => some (.pure true (.val (.int .i64 (minI x y))))
      | _ => none
    | .builtin .append => match o.dst, c.args.toList.map s.ev, c.argTypes.toList with
      | some d, [a, x], [t, u] => if Nat.beq t u = true then appendOut P s d t a x else none
      | _, _, _ => none
    | _ => none
  | _ => none
/-! Slices of slices. -/
/-- A new row that nobody writes any more. -/
def frzN : List (Nat × Blk) → List (Nat × Blk)
  | [(i, .row _ _ n c)] => [(i, .fro true n c)]
  | l => l
def Out.frz (r : Out) : Out := ⟨r.chk, r.v, frzN r.news, r.upd, r.drop⟩
def deeOf (H : Nat → Option Blk) : SV → Option (Bool × Bool × List (List Int))
  | .row id => match H id with
    | some (.dee _ fr _ ls) => some (true, fr, ls)
    | _ => none
  | .sub id off n sz => match H id with
    | some (.dee _ fr _ ls) => if Nat.beq sz 1 = true then some (Nat.ble (off + n) ls.length, fr, (ls.drop off).take n) else none
    | _ => none
  | _ => none
def rowOf (H : Nat → Option Blk) : SV → Option (Bool × Nat × List Int)
  | .row j => match H j with
    | some (.fro fr n (.ints l)) => some (fr, n, l)
    | _ => none
  | _ => none
/-- The element of a slice of slices. -/
def sliceE (P : Program) (t : TypeId) : Option TypeId := match P.underlying t with
  | some (.slice e) => match P.underlying e, semOnly P (sizeOf e), semOnly P (zeroValue e) with
    | some (.slice _), some 1, some _ => some e
    | _, _, _ => none
  | _ => none
def buildD (P : Program) (s : FSt) (d : Nat) (t : TypeId) (len : Nat) : List (Nat × Operand) → Option Out
  | [] => match sliceE P t with
    | some e => if Nat.beq len 0 = true then some ⟨true, .row (4 * d), [(4 * d, .dee true true e [])], none, none⟩ else none
    | none => none
  | [(0, x)] => match sliceE P t, rowOf s.heap (s.ev x) with
    | some e, some (fr, n, l) => if Nat.beq len 1 = true then some ⟨Nat.beq l.length n, .row (4 * d), [(4 * d, .dee true fr e [l])], none, none⟩ else none
    | _, _ => none
  | _ => none
def loadD (P : Program) (s : FSt) (d : Nat) (t : TypeId) : SV → Option Out
  | .ptr id off => match s.heap id, semOnly P (isAgg t), semOnly P (sizeOf t) with
    | some (.dee _ fr _ ls), some false, some 1 => some ⟨Nat.ble (off + 1) ls.length, .row (4 * d), [(4 * d, .fro fr (ls.getD off []).length (.ints (ls.getD off [])))], none, none⟩
    | _, _, _ => none
  | _ => none
def storeD (P : Program) (s : FSt) (t : TypeId) (y : SV) : SV → Option Out
  | .ptr id off => match s.heap id, rowOf s.heap y, semOnly P (sizeOf t) with
    | some (.dee true fr e ls), some (fr2, n, l), some 1 => some ⟨Nat.ble (off + 1) ls.length && Nat.beq l.length n, .val undef, [], some (id, .dee true (fr && fr2) e (ls.set off l)), none⟩
    | _, _, _ => none
  | _ => none
def appD (P : Program) (s : FSt) (d : Nat) (t : TypeId) (x : SV) : SV → Option Out
  | .row id => match s.heap id, deeOf s.heap x, P.underlying t with
    | some (.dee true fr e ls), some (ck, fr2, ms), some (.slice e') => match semOnly P (typeInfo e') with
      | some i => if (Nat.beq e e' && Nat.ble 2 id && Nat.beq i.size 1 && Nat.ble i.bytes 1000 && zeroOK i) = true then
          some ⟨ck && Nat.ble (ls.length + ms.length) 2000000, .row (4 * d), [(4 * d, .dee true (fr && fr2) e (ls ++ ms))], none, some id⟩
        else none
      | none => none
    | _, _, _ => none
  | _ => none
def opD (P : Program) (S : Sums) (s : FSt) (o : Oper) : Option Out := match o.op, o.dst with
  | .buildSlice t len parts, some d => match buildD P s d t len parts.toList with
    | some r => some r
    | none => match parts.toList with
      | [] => none
      | _ => match opOut0 P S s o with
        | some r => some r.frz
        | none => none
  | .load t x, some d => loadD P s d t (s.ev x)
  | .store t x y, none => storeD P s t (s.ev y) (s.ev x)
  | .call c, some d => match c.callee with
    | .value f => match mutOf S f with
      | some _ => none
      | none => match opOut0 P S s o with
        | some r => some r.frz
        | none => none
    | .builtin .append => match c.args.toList.map s.ev, c.argTypes.toList with
      | [a, x], [t, u] => if Nat.beq t u = true then appD P s d t x a else none
      | _, _ => none
    | _ => none
  | _, _ => none
def opOut (P : Program) (S : Sums) (s : FSt) (o : Oper) : Option Out := bif S.z then (match opD P S s o with
  | some r => some r
  | none => opOut0 P S s o) else opOut0 P S s o
def FSt.put (s : FSt) (d : Option Nat) (v : SV) : FSt := match d with
  | none => s
  | some d => { s with slot := fun t => bif Nat.beq t d then v else s.slot t }
def killTI (id : Nat) (l : List TI) : Bool := l.any fun | .r i => Nat.beq i id | _ => false
def killSV (id : Nat) : SV → SV
  | .ptr i o => bif Nat.beq i id then .junk else .ptr i o
  | .row i => bif Nat.beq i id then .junk else .row i
  | .sub i o n z => bif Nat.beq i id then .junk else .sub i o n z
  | .clo f l => bif l.any (Nat.beq id) then .junk else .clo f l
  | .tup l => bif killTI id l then .junk else .tup l
  | .agr l => bif killTI id l then .junk else .agr l
  | v => v
def killB (id : Nat) : Blk → Blk
  | .box e l => .box e (l.map (killSV id))
  | .rop l => .rop (l.map (killSV id))
  | b => b
def FSt.kill (s : FSt) (id : Nat) : FSt where
  slot := fun t => killSV id (s.slot t)
  heap := fun x => bif Nat.beq x id then none else match s.heap x with | some b => some (killB id b) | none => none
def FSt.set (s : FSt) (id : Nat) (b : Blk) : FSt := { s with heap := fun x => bif Nat.beq x id then some b else s.heap x }
def FSt.fresh (s : FSt) : List (Nat × Blk) → Bool
  | [] => true
  | (i, _) :: l => match s.heap i with | some _ => false | none => s.fresh l
def FSt.news (s : FSt) : List (Nat × Blk) → FSt
  | [] => s
  | (i, b) :: l => (s.set i b).news l
def FSt.dropped (s : FSt) : Option Nat → FSt
  | some id => s.kill id
  | none => s
def FSt.upd (s : FSt) : Option (Nat × Blk) → FSt
  | some (id, b) => s.set id b
  | none => s
def FSt.apply (s : FSt) (d : Option Nat) (o : Out) : FSt := (((s.dropped o.drop).news o.news).upd o.upd).put d o.v
def inRange (n : Nat) : Option Nat → Bool
  | some d => Nat.ble (d + 1) n
  | none => true
def wantedB (ops : List Oper) (s : FSt) (o : Oper) : Option Bool := match o.guard with
  | none => some true
  | some (j, w) => match ops[j]? with
    | some q => match q.dst with
      | some d => match s.slot d with
        | .val (.bool b) => some (b == w)
        | .val (.tuple _) => some false
        | _ => none
      | none => none
    | none => none
/-- Where a store writes or a load reads, if it is a temporary. -/
def storeAt (o : Oper) : Option Nat := match o.op with | .store _ (.tmp x) _ => some x | .load _ (.tmp x) => some x | _ => none
def isSt (o : Oper) : Bool := match o.op with | .store .. => true | _ => false
def loadAt (o : Oper) : Bool := match o.op with | .load _ (.tmp _) => true | _ => false
/-- A temporary of the region itself. -/
def madeIn (ops : List Oper) (x : Nat) : Bool := ops.any fun q => match q.dst with | some d => Nat.beq d x | none => false
/-- The address that a call is handed first, if the call writes there. -/
def srcOf (S : Sums) (o : Oper) : Option Operand := match o.op with
  | .call c => match c.callee with
    | .value f => match mutOf S f with
      | some (.box _) => c.args.toList.head?
      | _ => none
    | _ => none
  | _ => none
def isSrc (S : Sums) (o : Oper) : Bool := match srcOf S o with | some _ => true | none => false
/-- The type of the variable that such a call writes. -/
def srcTy (P : Program) (o : Oper) : Option TypeId := match o.op with
  | .call c => match c.argTypes.toList with
    | t :: _ => match P.underlying t with
      | some (.pointer e) => some e
      | _ => none
    | [] => none
  | _ => none
/-- Another store of the region may come before or behind. -/
def crowded (ops : List Oper) (o : Oper) : Bool := match storeAt o with
  | some x => !(madeIn ops x) && ops.any fun q => match storeAt q with
    | some y => (isSt o || isSt q) && (!(Nat.beq x y) && !(madeIn ops y))
    | none => false
  | none => false
/-- A variable of a type that no call of the region writes. -/
def farB (P : Program) (S : Sums) (ops : List Oper) (e : TypeId) : Bool := ops.all fun q => bif isSrc S q then (match srcTy P q with | some e' => !(Nat.beq e e') | none => false) else true
/-- An operation that the other one does not wait for, told among its edges. -/
def loose (ops : List Oper) (o q : Oper) : Bool := match o.dst with
  | some d => q.after.toList.any fun e => !(Region.binds .any e) && (match ops[e.on]? with
    | some z => (match z.dst with | some d' => Nat.beq d' d | none => false)
    | none => false)
  | none => false
/-- A load and a later store, in any order. -/
def mixB (ops : List Oper) (o q : Oper) : Bool := match storeAt o, storeAt q with
  | some x, some y => loadAt o && isSt q && (!(Nat.beq x y) && loose ops o q)
  | _, _ => false
def isApp (o : Oper) : Bool := match o.op with
  | .call c => match c.callee with
    | .builtin .append => true
    | _ => false
  | _ => false
def isBuild (o : Oper) : Bool := match o.op with
  | .buildSlice .. => true
  | _ => false
def bare (o : Oper) : Bool := match o.guard with
  | none => true
  | some _ => false
def laterB (o q : Oper) : List Oper → Bool
  | [] => false
  | z :: l => match o.dst, z.dst, q.dst with
    | some d, some d', some e => bif Nat.beq d d' then l.any fun y => (match y.dst with | some e' => Nat.beq e e' | none => false) else laterB o q l
    | _, _, _ => laterB o q l
/-- An append and a later load, or a later list that is made, in any order. -/
def lateB (ops : List Oper) (o q : Oper) : Bool := isApp o && ((loadAt q || isBuild q) && (bare o && bare q && laterB o q ops))
def mixH (ops : List Oper) (o : Oper) (s : FSt) (x : Nat) : Bool :=
  bif loadAt o then ops.all fun q => bif mixB ops o q then (match storeAt q, s.slot x with
    | some y, .ptr i _ => !(Nat.beq i (4 * y))
    | _, _ => false) else true
  else bif ops.any (fun z => mixB ops z o) then (match s.slot x with
    | .ptr i _ => Nat.beq i (4 * x)
    | _ => false) else true
def appArg (o : Oper) (s : FSt) : SV := match o.op with
  | .call c => match c.args.toList with
    | a :: _ => s.ev a
    | [] => .junk
  | _ => .junk
def lateH (ops : List Oper) (o : Oper) (s : FSt) : Bool :=
  bif isApp o then ops.all fun q => bif isBuild q && lateB ops o q then (match q.dst, appArg o s with
    | some d, .row id => !(Nat.beq id (4 * d))
    | some _, .val _ => true
    | _, _ => false) else true
  else true
/-- Such a store goes to the variable that its temporary was made for; a call that writes goes to a variable of the type that it names, a load in such a region to one of another type. -/
def home0 (P : Program) (S : Sums) (ops : List Oper) (o : Oper) (s : FSt) : Bool := match storeAt o with
  | some x => (bif crowded ops o then (match s.slot x with | .ptr i _ => Nat.beq i (4 * x) | _ => false) else true) && (bif loadAt o && ops.any (isSrc S) then (match s.slot x with | .ptr i _ => (match s.heap i with | some (.box e _) => farB P S ops e | some _ => true | none => false) | _ => false) else true)
  | none => match srcOf S o with
    | some x => match s.ev x with
      | .ptr i _ => match s.heap i, srcTy P o with
        | some (.box e _), some e' => Nat.beq e e'
        | _, _ => false
      | _ => false
    | none => true
def home1 (ops : List Oper) (o : Oper) (s : FSt) : Bool := match storeAt o with
  | some x => mixH ops o s x
  | none => lateH ops o s
def homeB (P : Program) (S : Sums) (ops : List Oper) (o : Oper) (s : FSt) : Bool := home1 ops o s && home0 P S ops o s
def chkH (P : Program) (S : Sums) (ops : List Oper) (o : Oper) (s : FSt) (c : Bool) : Bool := bif homeB P S ops o s then c else false
theorem chkH_ok {P : Program} {S : Sums} {ops : List Oper} {o : Oper} {s : FSt} {c : Bool} (h : chkH P S ops o s c = true) : c = true ∧ homeB P S ops o s = true := by
  unfold chkH at h
  cases hh : homeB P S ops o s
  · rw [hh] at h; cases h
  · rw [hh] at h; exact ⟨h, rfl⟩
/-- One operation: what it does. -/
def stepOut (P : Program) (S : Sums) (n : Nat) (ops : List Oper) (o : Oper) (s : FSt) : Option Out :=
  match wantedB ops s o with
  | none => none
  | some w => if inRange n o.dst = true then
      if w = true then match opOut P S s o with
        | none => none
        | some r => if chkH P S ops o s r.chk = true then some r else none
      else some (.pure true (.val undef))
    else none
def step (P : Program) (S : Sums) (n : Nat) (ops : List Oper) (o : Oper) (s : FSt) : Option FSt :=
  match stepOut P S n ops o s with
  | none => none
  | some r => if s.fresh r.news = true then some (s.apply o.dst r) else none
def stepsL (P : Program) (S : Sums) (n : Nat) (ops : List Oper) : List Oper → FSt → Option FSt
  | [], s => some s
  | o :: l, s => match step P S n ops o s with | some s' => stepsL P S n ops l s' | none => none
def guards (ops : List Oper) (i : Nat) : Bool := ops.any fun o => match o.guard with | some (j, _) => Nat.beq j i | none => false
/-- The operations of a region one after the other; at a value that guards others the reading splits. -/
def regK {α : Type} (P : Program) (S : Sums) (n : Nat) (ops : List Oper) : Nat → List Oper → FSt → (FSt → Option α) → Option α
  | _, [], s, k => k s
  | i, o :: l, s, k => match wantedB ops s o with
    | none => none
    | some w => if inRange n o.dst = true then
        if w = true then match opOut P S s o with
          | none => none
          | some r => if chkH P S ops o s r.chk = true then (if s.fresh r.news = true then
                (match guards ops i, r.v with
                | true, .val (.bool b) => if b = true then regK P S n ops (i + 1) l (s.apply o.dst { r with v := .val (.bool true) }) k else regK P S n ops (i + 1) l (s.apply o.dst { r with v := .val (.bool false) }) k
                | _, _ => regK P S n ops (i + 1) l (s.apply o.dst r) k) else none) else none
        else regK P S n ops (i + 1) l (s.put o.dst (.val undef)) k
      else none
/-! Loops: at the head of a round every slot that was nothing at the entry is nothing, and blocks of the round are gone or have the entry's names. -/
structure Tab where
  slots : List SV
  heap : List (Nat × Blk)
def look : List (Nat × Blk) → Nat → Option Blk
  | [], _ => none
  | (i, b) :: l, x => bif Nat.beq x i then some b else look l x
def Tab.st (t : Tab) : FSt := ⟨fun i => t.slots.getD i .junk, look t.heap⟩
def allOf (H : Nat → Option Blk) : List Nat → List (Nat × Blk)
  | [] => []
  | i :: l => match H i with | some b => (i, b) :: allOf H l | none => allOf H l
/-- Nothing but the blocks of a list stays. -/
def keepSV (l : List Nat) : SV → SV
  | .ptr i o => bif l.any (Nat.beq i) then .ptr i o else .junk
  | .row i => bif l.any (Nat.beq i) then .row i else .junk
  | .sub i o n z => bif l.any (Nat.beq i) then .sub i o n z else .junk
  | .clo f q => bif q.all (fun i => l.any (Nat.beq i)) then .clo f q else .junk
  | .tup _ => .junk
  | .agr _ => .junk
  | v => v
def keepB (l : List Nat) : Blk → Blk
  | .box e q => .box e (q.map (keepSV l))
  | .rop q => .rop (q.map (keepSV l))
  | b => b
def ownB : Blk → Bool
  | .box .. => true
  | .row .. => true
  | .dee own .. => own
  | _ => false
def ownAt (H : Nat → Option Blk) (i : Nat) : Bool := match H i with
  | some b => ownB b
  | none => false
/-- The slots that a loop appends to: at its head each such row has one name. -/
def codeOps : Code → List Oper
  | .region _ ops _ => ops.toList
  | .seq a b => codeOps a ++ codeOps b
  | .cond _ a b => codeOps a ++ codeOps b
  | .block _ a => codeOps a
  | .loop a => codeOps a
  | _ => []
def apOp (o : Oper) : Option Nat := match o.op with
  | .call c => match c.callee with
    | .builtin .append => match c.args.toList with
      | .tmp t :: _ => some t
      | _ => none
    | _ => none
  | _ => none
def mvOp (o : Oper) : Option (Nat × Nat) := match o.op, o.dst with
  | .move (.tmp t), some d => some (d, t)
  | .assign (.tmp t), some d => some (d, t)
  | _, _ => none
def apMore (m : List (Nat × Nat)) (a : List Nat) : List Nat := a ++ (m.filter fun x => a.any (Nat.beq x.1) && !(a.any (Nat.beq x.2))).map (·.2)
def callDst (o : Oper) : Option Nat := match o.op with
  | .call c => match c.callee with
    | .value _ => o.dst
    | _ => none
  | _ => none
def appS (c : Code) : List Nat :=
  let l := codeOps c
  let m := l.filterMap mvOp
  let cs := l.filterMap callDst
  apMore m (apMore m (l.filterMap apOp)) ++ (m.filter fun x => cs.any (Nat.beq x.2)).map (·.1)
def isRow (b : Nat) : SV → Bool
  | .row i => Nat.beq i b
  | _ => false
def keepOne (s : FSt) (ap : List Nat) (i : Nat) (x : SV) : SV := match x with
  | .row b => bif ownAt s.heap b then (match ap.find? fun j => isRow b (s.slot j) with
      | some j => bif Nat.beq i j then .row b else .junk
      | none => .row b) else .row b
  | x => x
def FSt.tab (s : FSt) (ap : List Nat) (n : Nat) : Tab :=
  let hp := allOf s.heap (List.range (4 * n))
  let l := hp.map (·.1)
  ⟨(List.range n).map fun i => keepOne s ap i (keepSV l (s.slot i)), hp.map fun x => (x.1, keepB l x.2)⟩
def renSV (a b : Nat) : SV → SV
  | .row i => bif Nat.beq i a then .row b else .row i
  | .sub i o n z => bif Nat.beq i a then .junk else .sub i o n z
  | .ptr i o => bif Nat.beq i a then .junk else .ptr i o
  | .clo f l => bif l.any (Nat.beq a) then .junk else .clo f l
  | .tup l => bif killTI a l then .junk else .tup l
  | .agr l => bif killTI a l then .junk else .agr l
  | v => v
def renB (a b : Nat) : Blk → Blk
  | .box e l => .box e (l.map (renSV a b))
  | .rop l => .rop (l.map (renSV a b))
  | c => c
def FSt.mv (s : FSt) (a b : Nat) (B : Blk) : FSt := { slot := fun t => renSV a b (s.slot t), heap := fun x => bif Nat.beq x b then some B else bif Nat.beq x a then none else match s.heap x with | some q => some (renB a b q) | none => none }
/-- Block a gets the name b, which no block has. -/
def FSt.ren (s : FSt) (a b : Nat) : FSt := match s.heap a, s.heap b with
  | some (.row e z n c), none => s.mv a b (.row e z n c)
  | some (.dee own fr e ls), none => s.mv a b (.dee own fr e ls)
  | _, _ => s
def renOne (x : SV) (i : Nat) (s : FSt) : FSt := match x with
  | .row b => match s.slot i with
    | .row a => bif Nat.beq a b || Nat.ble a 1 then s else s.ren a b
    | _ => s
  | _ => s
def renAll : List SV → Nat → FSt → FSt
  | [], _, s => s
  | x :: l, i, s => renAll l (i + 1) (renOne x i s)
def stillRow (s : FSt) (b : Nat) : List SV → Nat → Bool
  | [], _ => false
  | x :: l, j => (isRow b x && isRow b (s.slot j)) || stillRow s b l (j + 1)
def ownRowAt (s : FSt) (a : Nat) : Bool := match s.heap a with
  | some (.row ..) => true
  | _ => false
/-- A row that a round has put another one in place of is forgotten. -/
def deeAt (s : FSt) (a : Nat) : Bool := match s.heap a with
  | some (.dee ..) => true
  | _ => false
def freedAt (all : List SV) (s : FSt) (i : Nat) : SV → FSt
  | .row b => match s.slot i, s.heap b with
    | .row a, some (.row ..) => bif Nat.ble 2 b && !(Nat.beq a b) && ownRowAt s a && !(stillRow s b all 0) then s.kill b else s
    | .row a, some (.dee ..) => bif Nat.ble 2 b && !(Nat.beq a b) && deeAt s a && !(stillRow s b all 0) then s.kill b else s
    | _, _ => s
  | _ => s
def freed (all : List SV) : List SV → Nat → FSt → FSt
  | [], _, s => s
  | x :: l, i, s => freed all l (i + 1) (freedAt all s i x)
def keepSlots (l : List Nat) (s : FSt) : List SV → Nat → List SV
  | [], _ => []
  | x :: t, i => (match x with | .junk => .junk | _ => keepSV l (s.slot i)) :: keepSlots l s t (i + 1)
def keepIds (l : List Nat) : List Nat :=
  let m := bif l.any (Nat.beq 0) then l else 0 :: l
  bif m.any (Nat.beq 1) then m else 1 :: m
/-- A slice of slices may be looked at as one that is not owned. -/
def FSt.weak : List (Nat × Blk) → FSt → FSt
  | [], s => s
  | (i, .dee own' fr' e' _) :: l, s => match s.heap i with
    | some (.dee own fr e ls) => FSt.weak l (s.set i (.dee (own && own') (fr && fr' && (own' || !own)) (bif own && own' then e else e') ls))
    | _ => FSt.weak l s
  | _ :: l, s => FSt.weak l s
def Tab.norm (t : Tab) (s : FSt) : Tab :=
  let l := keepIds (t.heap.map (·.1))
  let s' := FSt.weak t.heap (renAll t.slots 0 (freed t.slots t.slots 0 s))
  ⟨keepSlots l s' t.slots 0, (allOf s'.heap l).map fun x => (x.1, keepB l x.2)⟩
def kSeq {α : Type} (next : FSt → Option α) (k : Ex → FSt → Option α) : Ex → FSt → Option α := fun e s => match e with
  | .normal => next s
  | .exit i => k (.exit i) s
  | .ret => k .ret s
def kBlock {α : Type} (id : Nat) (k : Ex → FSt → Option α) : Ex → FSt → Option α := fun e s => match e with
  | .normal => k .normal s
  | .exit i => bif Nat.beq i id then k .normal s else k (.exit i) s
  | .ret => k .ret s
def kLoop {α : Type} (rc : Tab → Option α) (t : Tab) (k : Ex → FSt → Option α) : Ex → FSt → Option α := fun e s => match e with
  | .normal => rc (t.norm s)
  | .exit i => k (.exit i) s
  | .ret => k .ret s
def loopK {α : Type} (body : FSt → (Ex → FSt → Option α) → Option α) : Nat → Tab → (Ex → FSt → Option α) → Option α
  | 0, _, _ => none
  | f + 1, t, k => body t.st (kLoop (fun t' => loopK body f t' k) t k)
def firstExit : Code → Nat
  | .exit id => id + 1
  | .seq a b => bif Nat.beq (firstExit a) 0 then firstExit b else firstExit a
  | .cond _ a b => bif Nat.beq (firstExit a) 0 then firstExit b else firstExit a
  | .block _ a => firstExit a
  | .loop a => firstExit a
  | _ => 0
/-- Rounds for a loop: 200 for those that are told by their exits, N for the others. -/
def fuelOf (N : Nat) (cs : List Nat) (a : Code) : Nat := bif cs.any (Nat.beq (firstExit a)) then 200 else N
/-- A variable that a region makes anew gives up its name. -/
def remade (o : Oper) : Option Nat := match o.op, o.dst with
  | .alloc _, some d => some d
  | .box _ _, some d => some d
  | _, _ => none
def FSt.clr (s : FSt) : List Oper → FSt
  | [] => s
  | o :: l => match remade o with
    | some d => match s.heap (4 * d) with
      | some _ => bif Nat.ble 1 d then (s.kill (4 * d)).clr l else s.clr l
      | none => s.clr l
    | none => s.clr l
/-- The rows that a region moves into a list of slices are written no more. -/
def frzMv (x : Nat) : List Oper → List Nat
  | [] => []
  | o :: l => match o.op, o.dst with
    | .move (.tmp y), some d => bif Nat.beq d x then [y] else frzMv x l
    | _, _ => frzMv x l
def frzT (ops : List Oper) : List Oper → List Nat
  | [] => []
  | o :: l => match o.op with
    | .buildSlice _ _ parts => match parts.toList with
      | (_, .tmp x) :: _ => frzMv x ops ++ frzT ops l
      | _ => frzT ops l
    | _ => frzT ops l
def frzOne (s : FSt) (x : Nat) : FSt := match s.slot x with
  | .row j => match s.heap j with
    | some (.row _ _ n c) => s.set j (.fro true n c)
    | _ => s
  | _ => s
def FSt.frzS (z : Bool) (ops : List Oper) (s : FSt) : FSt := bif z then (frzT ops ops).foldl frzOne s else s
def exec {α : Type} (P : Program) (S : Sums) (n : Nat) (fu : Code → Nat) : Code → FSt → (Ex → FSt → Option α) → Option α
  | .skip, s, k => k .normal s
  | .region _ ops _, s, k => regK P S n ops.toList 0 ops.toList ((s.clr ops.toList).frzS S.z ops.toList) (k .normal)
  | .seq a b, s, k => exec P S n fu a s (kSeq (fun s' => exec P S n fu b s' k) k)
  | .cond c x y, s, k => match s.ev c with
    | .val (.bool b) => if b = true then exec P S n fu x s k else exec P S n fu y s k
    | _ => none
  | .block id a, s, k => exec P S n fu a s (kBlock id k)
  | .loop a, s, k => loopK (exec P S n fu a) (fu a) (s.tab (appS a) n) k
  | .exit id, s, k => k (.exit id) s
  | .ret, s, k => k .ret s
  | _, _, _ => none
def entrySlot : Nat → PV → SV
  | _, .v x => .val x
  | i, .s _ _ => .row (4 * i)
  | _, .f g => .fn g
  | i, .p _ => .ptr (4 * i) 0
  | i, .ps _ _ => .ptr (4 * i) 0
  | i, .pf _ => .ptr (4 * i) 0
  | i, .d _ => .row (4 * i)
def entryHeap : Nat → List PV → List (Nat × Blk)
  | _, [] => []
  | i, .s n c :: l => (4 * i, .ros n c) :: entryHeap (i + 1) l
  | i, .p c :: l => (4 * i, .rop (c.map .val)) :: entryHeap (i + 1) l
  | i, .ps n c :: l => (4 * i, .rop [.row (4 * i + 1)]) :: (4 * i + 1, .ros n c) :: entryHeap (i + 1) l
  | i, .pf g :: l => (4 * i, .rop [.fn g]) :: entryHeap (i + 1) l
  | i, .d ls :: l => (4 * i, .dee false false 0 ls) :: entryHeap (i + 1) l
  | i, _ :: l => entryHeap (i + 1) l
def entrySlots : Nat → List PV → List SV
  | _, [] => []
  | i, a :: l => entrySlot i a :: entrySlots (i + 1) l
def entrySt (args : List PV) : FSt := Tab.st ⟨entrySlots 0 args, entryHeap 0 args⟩
def nilTR (P : Program) (ty : TypeId) (x : Value) : Option TR := match x with
  | .slice none 0 0 => match P.underlying ty with
    | some (.slice e) => match semOnly P (sizeOf e) with
      | some sz => some (.s e sz 0 (.ints []))
      | none => none
    | _ => none
  | x => some (.v x)
def zipT : List ResultVar → List TypeId → List (ResultVar × TypeId)
  | [], _ => []
  | x :: l, [] => (x, 0) :: zipT l []
  | x :: l, t :: ts => (x, t) :: zipT l ts
def resTR (P : Program) (s : FSt) (q : ResultVar × TypeId) : Option TR := match q.1 with
  | .tmp t => match s.slot t with
    | .val x => nilTR P q.2 x
    | .row id => match s.heap id with
      | some (.row e sz n c) => some (.s e sz n c)
      | some (.dee true true e ls) => some (.d e ls)
      | _ => none
    | _ => none
  | .cell a t => match s.slot a, semOnly P (isAgg t), semOnly P (sizeOf t) with
    | .ptr id off, some ag, some sz => match ld s.heap ag sz id off with
      | some o => if o.chk = true then (match o.v with
        | .val x => nilTR P q.2 x
        | .row id => match s.heap id with
          | some (.row e sz n c) => some (.s e sz n c)
          | _ => none
        | _ => none) else none
      | none => none
    | _, _, _ => none
def resId (P : Program) (s : FSt) : ResultVar → Option Nat
  | .tmp t => match s.slot t with
    | .row id => some id
    | _ => none
  | .cell a t => match s.slot a, semOnly P (isAgg t), semOnly P (sizeOf t) with
    | .ptr id off, some ag, some sz => match ld s.heap ag sz id off with
      | some o => match o.v with
        | .row id => some id
        | _ => none
      | none => none
    | _, _, _ => none
def apartIds : List (Option Nat) → Bool
  | [] => true
  | some i :: l => (l.all fun j => match j with | some k => !(Nat.beq i k) | none => true) && apartIds l
  | none :: l => apartIds l
/-- A slice of slices is handed back alone. -/
def noD : List TR → Bool
  | [] => true
  | .d _ _ :: _ => false
  | _ :: l => noD l
def soleD : List TR → Bool
  | [.d _ _] => true
  | l => noD l
def soleO : Option (List TR) → Option (List TR)
  | some l => if soleD l = true then some l else none
  | none => none
def finish (P : Program) (fn : Func) (e : Ex) (s : FSt) : Option (List TR) := match e with
  | .exit _ => none
  | _ => if apartIds (fn.results.toList.map (resId P s)) = true then soleO (optMap (resTR P s) (zipT fn.results.toList fn.resultTypes.toList)) else none
def Code.sub : List Nat → Code → Code
  | [], c => c
  | 0 :: l, .seq a _ => Code.sub l a
  | _ :: l, .seq _ b => Code.sub l b
  | 1 :: l, .cond _ a _ => Code.sub l a
  | _ :: l, .cond _ _ b => Code.sub l b
  | _ :: l, .block _ a => Code.sub l a
  | _ :: l, .loop a => Code.sub l a
  | _, _ => .skip
def bodyF (P : Program) (f : Nat) : Code := match P.funcs[f]? with
  | some fn => match fn.body with
    | some c => c
    | none => .refuse ""
  | none => .refuse ""
def finishT {α : Type} (P : Program) (fn : Func) (dec : List TR → Option α) (e : Ex) (s : FSt) : Option α := match finish P fn e s with
  | some rs => dec rs
  | none => none
def finT {α : Type} (P : Program) (f : Nat) (dec : List TR → Option α) (e : Ex) (s : FSt) : Option α := match P.funcs[f]? with
  | some fn => finishT P fn dec e s
  | none => none
def execT {α : Type} (P : Program) (S : Sums) (f n : Nat) (fu : Code → Nat) (dec : List TR → Option α) (args : List PV) : Option α :=
  if Nat.ble args.length n = true then exec P S n fu (bodyF P f) (entrySt args) (finT P f dec) else none

end Go.Proofs.Ytikfglnhkjoioaa
