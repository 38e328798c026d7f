/- A symbolic run of the program's code over a memory that is known by places: the definitions. Nothing is assumed; what it says of the real run is proved in the next text. -/
import Derived.Calls
import Derived.Tactics
import Derived.KernelRfl
import Derived.Laws.Rows
import Derived.Laws.Tables
import Derived.Laws.CopyRow
import Derived.Laws.MakeOwn
import Derived.Laws.StructEq
import Derived.Deep.MidRow
import Derived.Below
import Derived.Orders
import Derived.Laws.Strings
set_option linter.unusedSectionVars false
set_option linter.unusedVariables false
set_option linter.unusedSimpArgs false
namespace Go.X
open Go

/-- where a place of the known memory really lies: its block, its first cell, the cells of a row, how many rows its block has -/
structure Loc where
  blk : Nat
  base : Nat
  m : Nat
  cap : Nat
  deriving Inhabited

def renA (env : Nat → Loc) (a : Addr) : Addr :=
  match a.spot with
  | none => ⟨(env a.block).blk, (env a.block).base + a.off, none⟩
  | some r => ⟨(env a.block).blk, (env a.block).base + r * (env a.block).m + a.off, none⟩

/-- the capacity of a slice; one whose address has an offset has the rest of its block, whatever that is. (Offset 2: a slice that is nil if its place has no block. Offset 3: a slice of what was there at the start; nil, if its place's capacity is 0; one without room, if it is 1; else it has one less. Offset 6: one without room.) -/
def rcap (env : Nat → Loc) (a : Addr) (c : Nat) : Nat :=
  match a.off with
  | 0 => c
  | _ + 1 => (env a.block).cap - a.spot.getD 0

/-- the spot of a slice without room, told by a number -/
def spotOf : Nat → Option Nat
  | 0 => none
  | k + 1 => some k

def renS (env : Nat → Loc) (a : Addr) (l c : Nat) : Value :=
  match a.off with
  | 2 => match (env a.block).cap with
    | 0 => .slice none l 0
    | _ + 1 => .slice (some (renA env { a with off := 0 })) l (rcap env a c)
  | 3 => match (env a.block).cap with
    | 0 => .slice none l 0
    | 1 => .slice (some ⟨(env a.block).blk, (env a.block).base, spotOf (env a.block).m⟩) l 0
    | k + 2 => .slice (some (renA env { a with off := 0 })) l (k + 1 - a.spot.getD 0)
  | 6 => .slice (some (renA env { a with off := 0 })) l 0
  | _ => .slice (some (renA env { a with off := 0 })) l (rcap env a c)

def ren (env : Nat → Loc) : Value → Value
  | .pointer (some a) => .pointer (some (renA env a))
  | .slice (some a) l c => renS env a l c
  | .map (some r) => .map (some (env r).blk)
  | .iface t v => .iface t (ren env v)
  | .agg cs => .agg (cs.map (ren env))
  | .tuple vs => .tuple (vs.map (ren env))
  | .func fn a b => .func fn (a.map (ren env)) (b.map (ren env))
  | .pointer none => .pointer none
  | .slice none l c => .slice none l c
  | .map none => .map none
  | .bool b => .bool b
  | .int k n => .int k n
  | .float k n => .float k n
  | .complex k a b => .complex k a b
  | .string s => .string s
  | .chan r => .chan r
  | .nilFunc => .nilFunc
  | .nilIface => .nilIface

/-- a cell of a row that was there at the start: a value; a slice of rows -/
inductive ACell where
  | val (v : Value)
  | sl (t : TypeId) (m n : Nat) (f : Nat → List Value)

inductive VObj where
  | cells (t : TypeId) (c : List Value)
  | rows (own : Bool) (t : TypeId) (m n cap : Nat) (f : Nat → List Value)
  | iter (s : ByteArray) (pos : Nat)
  | vec (t : TypeId) (m n : Nat) (f : Nat → List Value)
  | arg (t : TypeId) (m n : Nat) (f : Nat → List Value)
  | tab (t : TypeId) (m n : Nat) (f : Nat → List ACell)
  | raw (t : TypeId) (m n cap : Nat) (f : Nat → List Value) (hs : List (Nat × List Value))
  | mp (es : List (Value × Value × Nat)) (clock : Nat)
  | mq (g : Int → Int)
  | dead

abbrev VW := List VObj

structure VSt where
  tmps : List Value
  V : VW

/-- a value that is not known -/
def unk : Value := .complex .f32 0 0

def bsplit (b : Bool) (A B : Prop) : Prop := Bool.rec B A b

def setK {α β : Type} : List α → Nat → α → (List α → β) → β
  | [], _, _, k => k []
  | _ :: xs, 0, v, k => k (v :: xs)
  | x :: xs, n + 1, v, k => setK xs n v (fun r => k (x :: r))

def appK {α β : Type} : List α → α → (List α → β) → β
  | [], v, k => k [v]
  | x :: xs, v, k => appK xs v (fun r => k (x :: r))

def nth {α : Type} (d : α) : List α → Nat → α
  | [], _ => d
  | x :: _, 0 => x
  | _ :: xs, n + 1 => nth d xs n

def vcells : Value → List Value
  | .agg cs => cs.toList
  | v => [v]

def fN {β : Type} (n : Nat) (k : Nat → β) : β := match n with | 0 => k 0 | m + 1 => k (m + 1)

def fI {β : Type} (n : Int) (k : Int → β) : β := match n with | .ofNat m => fN m fun m => k (.ofNat m) | .negSucc m => fN m fun m => k (.negSucc m)

def fA {β : Type} (a : Addr) (k : Addr → β) : β :=
  match a with
  | ⟨b, o, none⟩ => fN b fun b => fN o fun o => k ⟨b, o, none⟩
  | ⟨b, o, some r⟩ => fN b fun b => fN o fun o => k ⟨b, o, some r⟩

def normL (g : Value → (Value → Prop) → Prop) : List Value → (List Value → Prop) → Prop
  | [], k => k []
  | v :: vs, k => g v fun v' => normL g vs fun vs' => k (v' :: vs')

/-- a value brought into a form that begins with its constructors; its places lie below n -/
def normV (cl : Bool) (n : Nat) : Nat → Value → (Value → Prop) → Prop
  | 0, _, _ => False
  | d + 1, v, k =>
    match v with
    | .int a b => match cl with | true => fI b fun b => k (.int a b) | false => k (.int a b)
    | .bool b => match cl with | true => (match b with | true => k (.bool true) | false => k (.bool false)) | false => k (.bool b)
    | .string s => k (.string s)
    | .pointer none => k (.pointer none)
    | .pointer (some a) => fA a fun a => match Nat.blt a.block n with | true => k (.pointer (some a)) | false => False
    | .slice none l c => k (.slice none l c)
    | .slice (some a) l c => fA a fun a => match Nat.blt a.block n with | true => k (.slice (some a) l c) | false => False
    | .nilFunc => k .nilFunc
    | .nilIface => k .nilIface
    | .map none => k (.map none)
    | .map (some r) => fN r fun r => match Nat.blt r n with | true => k (.map (some r)) | false => False
    | .iface t v => normV cl n d v fun v => k (.iface t v)
    | .agg cs => normL (normV cl n d) cs.toList fun l => k (.agg ⟨l⟩)
    | .func fn a b => normL (normV cl n d) a.toList fun l => normL (normV cl n d) b.toList fun l' => k (.func fn ⟨l⟩ ⟨l'⟩)
    | _ => False

/-- a result: a value, or a tuple of values; what is not known stays so -/
def norm (cl : Bool) (n : Nat) (v : Value) (k : Value → Prop) : Prop :=
  match v with
  | .tuple vs => normL (normV cl n 6) vs.toList fun l => k (.tuple ⟨l⟩)
  | .complex .f32 0 0 => k unk
  | v => normV cl n 6 v k

/-- one cell's value, with no place in it -/
def plainC : Value → Bool
  | .int .. | .bool _ | .string _ | .pointer none | .slice none _ _ | .nilFunc | .nilIface | .map none => true
  | _ => false

/-- one cell's value -/
def cellC : Value → Bool
  | .agg _ | .tuple _ | .complex .. | .float .. | .chan _ => false
  | _ => true

/-- no tuple, and known -/
def isC (v : Value) : Bool := match v with | .complex .. => true | .tuple .. => true | _ => false

def isAggT (P : Program) (t : TypeId) : Bool :=
  match P.underlying t with
  | some (.struct _) | some (.array _ _) => true
  | _ => false

def take? (n : Nat) (l : List Value) : Option (List Value) := if (l.take n).length = n then some (l.take n) else none

def partOf (P : Program) (t : TypeId) (cs : List Value) (off : Nat) : Option Value :=
  match P.underlying t, P.info? t with
  | some (.struct _), some i | some (.array _ _), some i => (take? i.size (cs.drop off)).map fun l => .agg ⟨l⟩
  | some _, some _ => (cs.drop off).head?
  | _, _ => none

def splice (cs : List Value) (off : Nat) (new : List Value) : Option (List Value) :=
  if off + new.length ≤ cs.length then some (cs.take off ++ new ++ cs.drop (off + new.length)) else none

/-- the places of a value lie below n -/
def scB (n : Nat) : Nat → Value → Bool
  | 0, _ => false
  | d + 1, v =>
    match v with
    | .pointer (some a) => Nat.blt a.block n
    | .slice (some a) _ _ => Nat.blt a.block n
    | .map (some r) => Nat.blt r n
    | .iface _ v => scB n d v
    | .agg cs => cs.toList.all (scB n d)
    | .tuple cs => cs.toList.all (scB n d)
    | .func _ a b => a.toList.all (scB n d) && b.toList.all (scB n d)
    | _ => true

inductive Res where
  | val (v : Value)
  | ob (p : Prop) (v : Value)
  | sto (i : Nat) (t : TypeId) (c : List Value)
  | sob (p : Prop) (i r : Nat) (c : List Value)
  | alc (t : TypeId) (c : List Value)
  | alr (t : TypeId) (m : Nat) (rows : List (List Value))
  | call (f : FuncId) (args : List Value)
  | new (p : Prop) (os : List VObj) (v : Value)
  | grow (p : Prop) (i : Option Nat) (o : VObj) (v : Nat → Value)
  | nxt (i : Nat) (s : ByteArray) (pos : Nat)
  | cpy (p : Prop) (i : Nat) (o : VObj) (v : Value)
  | bad

def Res.ofOpt : Option Value → Res
  | some v => .val v
  | none => .bad

def xload (P : Program) (V : VW) (t : TypeId) (a : Addr) : Res :=
  match V[a.block]?, a.spot with
  | some (.cells _ c), none => .ofOpt (partOf P t c a.off)
  | some (.rows _ _ _ n _ f), some r =>
    match partOf P t (f r) a.off with
    | some v => .ob (r < n) v
    | none => .bad
  | some (.vec _ _ n f), some r =>
    match partOf P t (f r) a.off with
    | some v => .ob (r < n) v
    | none => .bad
  | some (.arg _ _ n f), some r =>
    match partOf P t (f r) a.off with
    | some v => .ob (r < n) v
    | none => .bad
  | some (.raw _ _ n _ f hs), some r =>
    match hs with
    | [] =>
      match partOf P t (f r) a.off with
      | some v => match isC v, (vcells v).all plainC with | false, true => .ob (r < n) v | _, _ => .bad
      | none => .bad
    | [(k, c)] =>
      match partOf P t c a.off with
      | some v => .ob (r = k ∧ r < n) v
      | none => .bad
    | _ => .bad
  | _, _ => .bad

/-- cells that were there at the start, with a place for each slice among them -/
def openA : Nat → List ACell → List VObj
  | _, [] => []
  | N, .val _ :: r => openA N r
  | N, .sl t m n f :: r => .arg t m n f :: openA (N + 1) r
def openV : Nat → List ACell → List Value
  | _, [] => []
  | N, .val v :: r => v :: openV N r
  | N, .sl _ _ n _ :: r => .slice (some ⟨N, 3, some 0⟩) n 0 :: openV (N + 1) r

def takeA? (n : Nat) (l : List ACell) : Option (List ACell) := if (l.take n).length = n then some (l.take n) else none

def xtab (P : Program) (N : Nat) (t : TypeId) (n r : Nat) (cs : List ACell) (off : Nat) : Res :=
  match P.underlying t, P.info? t with
  | some (.struct _), some i | some (.array _ _), some i =>
    match takeA? i.size (cs.drop off) with
    | some l => .new (r < n) (openA N l) (.agg ⟨openV N l⟩)
    | none => .bad
  | some _, some _ =>
    match cs.drop off with
    | .val v :: _ => .new (r < n) [] v
    | .sl t m k f :: _ => .new (r < n) [.arg t m k f] (.slice (some ⟨N, 3, some 0⟩) k 0)
    | [] => .bad
  | _, _ => .bad

/-- a load, of what was there at the start, too -/
def xloadX (P : Program) (V : VW) (t : TypeId) (a : Addr) : Res :=
  match V[a.block]? with
  | some (.tab _ _ n f) => match a.spot with | some r => xtab P V.length t n r (f r) a.off | none => .bad
  | _ => xload P V t a

def xstore (P : Program) (V : VW) (t : TypeId) (a : Addr) (v : Value) : Res :=
  match isC v, (vcells v).all cellC, P.info? t with
  | false, true, some i =>
    if (vcells v).length = i.size then
      match V[a.block]?, a.spot with
      | some (.cells t c), none =>
        match splice c a.off (vcells v) with
        | some c' => .sto a.block t c'
        | none => .bad
      | some (.rows true _ _ n _ f), some r =>
        match splice (f r) a.off (vcells v) with
        | some c' => .sob (r < n) a.block r c'
        | none => .bad
      | _, _ => .bad
    else .bad
  | _, _, _ => .bad

def veqF (P : Program) (eq : TypeId → Value → Value → Option Bool) (xs ys : List Value) : List Field → Option Bool
  | [] => some true
  | f :: fs =>
    if f.name = "_" then none else
    match partOf P f.type xs f.offset, partOf P f.type ys f.offset with
    | some x, some y =>
      match eq f.type x y, veqF P eq xs ys fs with
      | some b, some r => some (b && r)
      | _, _ => none
    | _, _ => none

/-- is a slice nil? -/
def nilq : Option Addr → Option Bool
  | none => some true
  | some a => match Nat.blt a.off 2 with | true => some false | false => none

def veq (P : Program) : Nat → TypeId → Value → Value → Option Bool
  | 0, _, _, _ => none
  | d + 1, t, x, y =>
    match P.underlying t, x, y with
    | some .bool, .bool a, .bool b => some (a == b)
    | some (.int _), .int k a, .int k' b => if k = k' then some (a == b) else none
    | some .string, .string a, .string b => some (a.data.toList == b.data.toList)
    | some (.struct fs), .agg xs, .agg ys =>
      match P.stoodInHeld t with
      | true => none
      | false => veqF P (veq P d) xs.toList ys.toList fs.toList
    | some (.pointer _), .pointer none, .pointer b => some b.isNone
    | some (.pointer _), .pointer a, .pointer none => some a.isNone
    | some (.slice _), .slice none _ _, .slice b _ _ => nilq b
    | some (.slice _), .slice a _ _, .slice none _ _ => nilq a
    | some (.map _ _), .map none, .map b => some b.isNone
    | some (.map _ _), .map a, .map none => some a.isNone
    | some (.func _ _ _), .nilFunc, .nilFunc => some true
    | some (.func _ _ _), .func .., .nilFunc => some false
    | some (.func _ _ _), .nilFunc, .func .. => some false
    | some (.interface _), .nilIface, .iface _ _ => some false
    | some (.interface _), .iface _ _, .nilIface => some false
    | some (.interface _), .iface t a, .iface t' b =>
      match Nat.beq t t' with
      | false => some false
      | true =>
        match P.info? t with
        | some i => match i.comparable with | true => veq P d t a b | false => none
        | none => none
    | _, _, _ => none

/-- the equality of two operands -/
def xeq (P : Program) (t : TypeId) (x y : Value) : Option Bool :=
  match x, y with
  | .agg _, .agg _ => match P.eqGuardType P.depth t with | true => none | false => veq P 20 t x y
  | .int .., _ | .string _, _ | .float .., _ | .complex .., _ => none
  | x, y => veq P 20 t x y

def xbin (P : Program) (op : BinOp) (t : TypeId) (x y : Value) : Res :=
  match x, y with
  | .int k a, .int k' b =>
    match op with
    | .shl => .ob (0 ≤ b) (.int k (k.wrap (a * 2 ^ (min b.toNat k.bits))))
    | .shr => .ob (0 ≤ b) (.int k (a.fdiv (2 ^ (min b.toNat k.bits))))
    | op =>
      if k = k' then
        match op with
        | .add => .val (.int k (k.wrap (a + b)))
        | .sub => .val (.int k (k.wrap (a - b)))
        | .mul => .val (.int k (k.wrap (a * b)))
        | .eql => .val (.bool (a == b))
        | .neq => .val (.bool (a != b))
        | .lss => .val (.bool (a < b))
        | .leq => .val (.bool (a ≤ b))
        | .gtr => .val (.bool (a > b))
        | .geq => .val (.bool (a ≥ b))
        | .quo => .ob (b ≠ 0) (.int k (k.wrap (a.tdiv b)))
        | .rem => .ob (b ≠ 0) (.int k (a.tmod b))
        | .and => .val (.int k (k.wrap (BitVec.ofInt k.bits a &&& BitVec.ofInt k.bits b).toNat))
        | .or => .val (.int k (k.wrap (BitVec.ofInt k.bits a ||| BitVec.ofInt k.bits b).toNat))
        | .xor => .val (.int k (k.wrap (BitVec.ofInt k.bits a ^^^ BitVec.ofInt k.bits b).toNat))
        | .andNot => .val (.int k (k.wrap (BitVec.ofInt k.bits a &&& ~~~ BitVec.ofInt k.bits b).toNat))
        | _ => .bad
      else .bad
  | .string a, .string b =>
    match op with
    | .add => .ob (((a.size + b.size : Nat) : Int) ≤ IntKind.i64.max) (.string (a ++ b))
    | .eql => .val (.bool (a.data.toList == b.data.toList))
    | .neq => .val (.bool !(a.data.toList == b.data.toList))
    | .lss => .val (.bool (Op.bytesLess a.data.toList b.data.toList))
    | .leq => .val (.bool (Op.bytesLess a.data.toList b.data.toList || a.data.toList == b.data.toList))
    | .gtr => .val (.bool !(Op.bytesLess a.data.toList b.data.toList || a.data.toList == b.data.toList))
    | .geq => .val (.bool !(Op.bytesLess a.data.toList b.data.toList))
    | _ => .bad
  | x, y =>
    match op with
    | .eql => match xeq P t x y with | some b => .val (.bool b) | none => .bad
    | .neq => match xeq P t x y with | some b => .val (.bool !b) | none => .bad
    | _ => .bad

def isK (x : Operand) : Bool := match x with | .const _ => true | _ => false

/-- two nil values of an interface type, one of them the literal nil -/
def xnil (P : Program) (op : BinOp) (t : TypeId) (lit : Bool) (a b : Value) : Option Bool :=
  match lit, a, b, P.underlying t, op with
  | true, .nilIface, .nilIface, some (.interface _), .eql => some true
  | true, .nilIface, .nilIface, some (.interface _), .neq => some false
  | _, _, _, _, _ => none

def xbinN (P : Program) (op : BinOp) (t : TypeId) (lit : Bool) (a b : Value) : Res :=
  match xnil P op t lit a b with
  | some r => .val (.bool r)
  | none => xbin P op t a b

def fillL (places : List (Nat × Nat)) (cells : List Value) : List (Nat × Value) → Option (List Value)
  | [] => some cells
  | (i, v) :: rest =>
    match places[i]? with
    | none => none
    | some (off, size) =>
      if (vcells v).length = size then
        match isC v, splice cells off (vcells v) with
        | false, some c => fillL places c rest
        | _, _ => none
      else none

def placesOf (P : Program) : List Field → Option (List (Nat × Nat))
  | [] => some []
  | f :: fs => match P.info? f.type, placesOf P fs with
    | some i, some l => some ((f.offset, i.size) :: l)
    | _, _ => none

def xbuild (P : Program) (t : TypeId) (parts : List (Nat × Value)) : Res :=
  match P.info? t, P.underlying t with
  | some i, some (.struct fs) =>
    match i.zero, placesOf P fs.toList with
    | some z, some pl =>
      match (vcells z).all plainC, isC z, fillL pl (vcells z) parts with
      | true, false, some l => .val (.agg ⟨l⟩)
      | _, _, _ => .bad
    | _, _ => .bad
  | some i, some (.array _ e) =>
    match i.zero, P.info? e with
    | some z, some ie =>
      match (vcells z).all plainC, isC z, fillL ((List.range (vcells z).length).map fun j => (j * ie.size, ie.size)) (vcells z) parts with
      | true, false, some l => .val (.agg ⟨l⟩)
      | _, _, _ => .bad
    | _, _ => .bad
  | _, _ => .bad

def chunk : Nat → Nat → List Value → List (List Value)
  | 0, _, _ => []
  | n + 1, m, l => l.take m :: chunk n m (l.drop m)

def xbuildRows (P : Program) (t : TypeId) (len : Nat) (parts : List (Nat × Value)) : Option (TypeId × Nat × List (List Value)) :=
  match P.underlying t with
  | some (.slice e) =>
    match P.info? e with
    | some ie =>
      match ie.zero with
      | some z =>
        match (vcells z).all plainC, isC z, Nat.ble (len * ie.size) 16777216, Nat.blt 0 (len * ie.size), Nat.beq (vcells z).length ie.size with
        | true, false, true, true, true =>
          match fillL ((List.range len).map fun j => (j * ie.size, ie.size)) (List.replicate len (vcells z)).flatten parts with
          | some l =>
            match Nat.beq l.length (len * ie.size), l.all cellC with
            | true, true => some (e, ie.size, chunk len ie.size l)
            | _, _ => none
          | none => none
        | _, _, _, _, _ => none
      | none => none
    | none => none
  | _ => none

def slC (v : Value) : Bool := match v with | .slice .. => true | _ => false
/-- has a type slices in it? -/
def slT (P : Program) (e : TypeId) : Bool :=
  match P.info? e with
  | some ie => (match ie.zero with | some z => (vcells z).any slC | none => false)
  | none => false

def xbuildSlice (P : Program) (t : TypeId) (len : Nat) (parts : List (Nat × Value)) : Res :=
  match xbuildRows P t len parts with
  | some (e, m, rows) => match rows.all (fun c => c.all (scB 0 6)), slT P e with | true, false => .alr e m rows | _, _ => .bad
  | none => .bad

def xfieldAddr (P : Program) (s : TypeId) (v : Value) (k : Nat) : Res :=
  match P.underlying s, v with
  | some (.struct fs), .pointer (some a) =>
    match fs.toList[k]? with
    | some f =>
      match P.info? f.type with
      | some i => if i.size = 0 then .bad else .val (.pointer (some { a with off := a.off + f.offset }))
      | none => .bad
    | none => .bad
  | _, _ => .bad

def xfield (P : Program) (s : TypeId) (v : Value) (k : Nat) : Res :=
  match P.underlying s, v with
  | some (.struct fs), .agg cs =>
    match fs.toList[k]? with
    | some f => .ofOpt (partOf P f.type cs.toList f.offset)
    | none => .bad
  | _, _ => .bad

def xindexAddr (P : Program) (V : VW) (t : TypeId) (v ix : Value) : Res :=
  match P.underlying t, v, ix with
  | some (.slice e), .slice (some a) len _, .int _ i =>
    match a.spot, V[a.block]?, P.info? e with
    | some r, some (.rows _ _ m _ _ _), some ie =>
      if ie.size = m then
        match Nat.blt a.off 2 with
        | false => .bad
        | true => .ob (0 ≤ i ∧ i < (len : Int)) (.pointer (some { a with off := 0, spot := some (r + i.toNat) }))
      else .bad
    | some r, some (.raw _ m _ _ _ _), some ie =>
      if ie.size = m then
        match Nat.blt a.off 2 with
        | false => .bad
        | true => .ob (0 ≤ i ∧ i < (len : Int)) (.pointer (some { a with off := 0, spot := some (r + i.toNat) }))
      else .bad
    | some r, some (.vec _ m n _), some ie =>
      if ie.size = m then
        match Nat.blt a.off 3 with
        | true => .ob (0 ≤ i ∧ i < (len : Int) ∧ r + len ≤ n) (.pointer (some { a with off := 0, spot := some (r + i.toNat) }))
        | false => .bad
      else .bad
    | some r, some (.arg _ m n _), some ie =>
      if ie.size = m then
        match Nat.beq a.off 3 with
        | true => .ob (0 ≤ i ∧ i < (len : Int) ∧ r + len ≤ n) (.pointer (some { a with off := 0, spot := some (r + i.toNat) }))
        | false => .bad
      else .bad
    | some r, some (.tab _ m n _), some ie =>
      if ie.size = m then
        match Nat.beq a.off 3 with
        | true => .ob (0 ≤ i ∧ i < (len : Int) ∧ r + len ≤ n) (.pointer (some { a with off := 0, spot := some (r + i.toNat) }))
        | false => .bad
      else .bad
    | _, _, _ => .bad
  | some (.array n e), .pointer (some a), .int _ i =>
    match P.info? e with
    | some ie => .ob (0 ≤ i ∧ i < (n : Int)) (.pointer (some { a with off := a.off + i.toNat * ie.size }))
    | none => .bad
  | _, _, _ => .bad

def strAt (s : ByteArray) (i : Nat) : Nat := (s.data.getD i 0).toNat

def xindex (P : Program) (t : TypeId) (v ix : Value) : Res :=
  match P.underlying t, v, ix with
  | some .string, .string s, .int _ i => .ob (0 ≤ i ∧ i < (s.size : Int)) (.int .u8 (strAt s i.toNat))
  | some (.array n e), .agg cs, .int _ i =>
    match P.info? e with
    | some ie => match partOf P e cs.toList (i.toNat * ie.size) with
      | some v => .ob (0 ≤ i ∧ i < (n : Int)) v
      | none => .bad
    | none => .bad
  | _, _, _ => .bad

def xlen (P : Program) (t : TypeId) (v : Value) : Res :=
  match P.underlying t, v with
  | some .string, .string s => .val (.int .i64 (s.size : Nat))
  | some (.slice _), .slice _ n _ => .val (.int .i64 (n : Nat))
  | some (.array n _), .agg _ => .val (.int .i64 (n : Nat))
  | _, _ => .bad

def intOr (d : Int) : Option Value → Option Int
  | none => some d
  | some (.int _ n) => some n
  | _ => none

/-- 's[lo:hi]' of a string or of a slice -/
def xslice (P : Program) (V : VW) (t : TypeId) (x : Value) (lo hi : Option Value) : Res :=
  match P.underlying t, x with
  | some .string, .string s =>
    match intOr 0 lo, intOr (s.size : Nat) hi with
    | some l, some h => .ob (0 ≤ l ∧ l ≤ h ∧ h ≤ (s.size : Int)) (.string (s.extract l.toNat h.toNat))
    | _, _ => .bad
  | some (.slice e), .slice none len cap =>
    match intOr 0 lo, intOr (len : Nat) hi, P.info? e with
    | some l, some h, some _ => .ob (0 ≤ l ∧ l ≤ h ∧ h ≤ (cap : Int)) (.slice none (h.toNat - l.toNat) (cap - l.toNat))
    | _, _, _ => .bad
  | some (.slice e), .slice (some a) len cap =>
    match intOr 0 lo, intOr (len : Nat) hi, a.spot, V[a.block]?, P.info? e with
    | some l, some h, some r, some (.rows own _ m n _ _), some ie =>
      if ie.size = m then
        match a.off with
        | 0 => .ob (0 ≤ l ∧ l ≤ h ∧ h ≤ (cap : Int)) (.slice (some { a with spot := some (r + if cap = l.toNat then 0 else l.toNat) }) (h.toNat - l.toNat) (cap - l.toNat))
        | 1 =>
          match own with
          | true => .ob (0 ≤ l ∧ l ≤ h ∧ (r : Int) + h ≤ (n : Int) ∧ (l = 0 ∨ (r : Int) + l < (n : Int))) (.slice (some { a with spot := some (r + l.toNat) }) (h.toNat - l.toNat) 0)
          | false => .bad
        | _ => .bad
      else .bad
    | some l, some h, some r, some (.arg _ m n _), some ie =>
      if ie.size = m then
        match Nat.beq a.off 3 with
        | true => .ob (0 ≤ l ∧ l ≤ h ∧ h ≤ (len : Int) ∧ r + len ≤ n ∧ (l = 0 ∨ l < (len : Int))) (.slice (some { a with spot := some (r + l.toNat) }) (h.toNat - l.toNat) 0)
        | false => .bad
      else .bad
    | some l, some h, some r, some (.tab _ m n _), some ie =>
      if ie.size = m then
        match Nat.beq a.off 3 with
        | true => .ob (0 ≤ l ∧ l ≤ h ∧ h ≤ (len : Int) ∧ r + len ≤ n ∧ (l = 0 ∨ l < (len : Int))) (.slice (some { a with spot := some (r + l.toNat) }) (h.toNat - l.toNat) 0)
        | false => .bad
      else .bad
    | _, _, _, _, _ => .bad
  | _, _ => .bad

def xcap (P : Program) (t : TypeId) (v : Value) : Res :=
  match P.underlying t, v with
  | some (.slice _), .slice none _ n => .val (.int .i64 (n : Nat))
  | some (.slice _), .slice (some a) _ n => match a.off with | 0 => .val (.int .i64 (n : Nat)) | _ + 1 => .bad
  | _, _ => .bad

def xmin (x y : Value) : Res :=
  match x, y with
  | .int k a, .int k' b => if k = k' then .val (.int k (if b < a then b else a)) else .bad
  | _, _ => .bad

def xmax (x y : Value) : Res :=
  match x, y with
  | .int k a, .int k' b => if k = k' then .val (.int k (if b > a then b else a)) else .bad
  | _, _ => .bad

def cst (v : Value) : Value := match plainC v with | true => v | false => unk

def ev (S : VSt) : Operand → Value
  | .tmp t => nth undef S.tmps t
  | .const v => cst v
  | .global _ => unk
  | .func f => .func (.func f) #[] #[]

/-- what is put behind a row: its condition, how many rows, which -/
inductive Src where
  | src (p : Prop) (k : Nat) (g : Nat → List Value)
  | none

def u8 (s : ByteArray) (j : Nat) : List Value := [.int .u8 ((s.data.toList.getD j 0).toNat : Int)]

def xsrc (P : Program) (V : VW) (u : TypeId) (m : Nat) (x : Value) : Src :=
  match P.underlying u, x with
  | some .string, .string s => match Nat.beq m 1 with | true => .src True s.size (u8 s) | false => .none
  | some (.slice _), .slice (some b) k _ =>
    match b.spot, V[b.block]? with
    | some r, some (.rows _ _ m' n _ g) => if m' = m then (match Nat.blt b.off 2 with | false => .none | true => .src (r + k ≤ n) k (fun j => g (r + j))) else .none
    | some r, some (.arg _ m' n g) => if m' = m then (match Nat.beq b.off 3 with | false => .none | true => .src (r + k ≤ n) k (fun j => g (r + j))) else .none
    | _, _ => .none
  | _, _ => .none

/-- a row, and others behind it -/
def joinF (len : Nat) (f g : Nat → List Value) (j : Nat) : List Value := if j < len then f j else g (j - len)

structure fitsN (n bytes : Nat) : Prop where
  len : n ≤ 9223372036854775807
  room : n * bytes ≤ 140737488355328

def xappend0 (P : Program) (V : VW) (t u : TypeId) (s x : Value) : Res :=
  match P.underlying t with
  | some (.slice e) =>
    match P.info? e with
    | some ie =>
      match ie.zero with
      | some z =>
        match isC z, Nat.beq (vcells z).length ie.size, Nat.blt 0 ie.size, xsrc P V u ie.size x with
        | false, true, true, .src q k g =>
          match s with
          | .slice none 0 0 => .grow (q ∧ 0 < k ∧ fitsN k ie.bytes) none (.rows true e ie.size k 0 g) (fun N => .slice (some ⟨N, 1, some 0⟩) k 0)
          | .slice (some a) len cap =>
            match a.spot, V[a.block]? with
            | some 0, some (.rows true t' m n cap' f) =>
              if t' = e then
                if m = ie.size then
                  .grow (q ∧ len ≤ n ∧ (match a.off with | 0 => 0 < cap ∧ cap = cap' | 1 => True | _ => False) ∧ fitsN (len + k) ie.bytes) (some a.block)
                    (.rows true e ie.size (len + k) 0 (joinF len f g)) (fun N => .slice (some ⟨N, 1, some 0⟩) (len + k) 0)
                else .bad
              else .bad
            | _, _ => .bad
          | _ => .bad
        | _, _, _, _ => .bad
      | none => .bad
    | none => .bad
  | _ => .bad

/-- the same to a row that may be nil -/
def xappendV (P : Program) (V : VW) (t u : TypeId) (i t' m n : Nat) (f : Nat → List Value) (len : Nat) (x : Value) : Res :=
  match P.underlying t with
  | some (.slice e) =>
    match P.info? e with
    | some ie =>
      match ie.zero with
      | some z =>
        match isC z, Nat.beq (vcells z).length ie.size, Nat.blt 0 ie.size, xsrc P V u ie.size x with
        | false, true, true, .src q k g =>
          if t' = e then
            if m = ie.size then
              .grow (q ∧ len = n ∧ 0 < k ∧ fitsN (len + k) ie.bytes) (some i) (.rows true e ie.size (len + k) 0 (joinF len f g)) (fun N => .slice (some ⟨N, 1, some 0⟩) (len + k) 0)
            else .bad
          else .bad
        | _, _, _, _ => .bad
      | none => .bad
    | none => .bad
  | _ => .bad

/-- 'append' to a row of which it is known whether there is room (offset 4: there is; offset 5: there is none): the row stays a place of its own -/
def xappendK (P : Program) (V : VW) (t u : TypeId) (a : Addr) (len : Nat) (x : Value) (room : Bool) : Res :=
  match P.underlying t with
  | some (.slice e) =>
    match P.info? e with
    | some ie =>
      match ie.zero with
      | some z =>
        match isC z, Nat.beq (vcells z).length ie.size, Nat.blt 0 ie.size, xsrc P V u ie.size x with
        | false, true, true, .src q k g =>
          match a.spot, V[a.block]? with
          | some 0, some (.rows true t' m n cap f) =>
            if t' = e then
              if m = ie.size then
                match room with
                | true => .cpy (q ∧ len = n ∧ 0 < cap ∧ len + k ≤ cap) a.block (.rows true e ie.size (len + k) cap (joinF len f g)) (.slice (some ⟨a.block, 1, some 0⟩) (len + k) 0)
                | false => .grow (q ∧ len = n ∧ 0 < cap ∧ cap < len + k ∧ fitsN (len + k) ie.bytes) none (.rows true e ie.size (len + k) 0 (joinF len f g)) (fun N => .slice (some ⟨N, 1, some 0⟩) (len + k) 0)
              else .bad
            else .bad
          | _, _ => .bad
        | _, _, _, _ => .bad
      | none => .bad
    | none => .bad
  | _ => .bad

def xappend (P : Program) (V : VW) (t u : TypeId) (s x : Value) : Res :=
  match s with
  | .slice (some a) len _ =>
    match a.off with
    | 4 => xappendK P V t u a len x true
    | 5 => xappendK P V t u a len x false
    | 2 =>
      match a.spot, V[a.block]? with
      | some 0, some (.vec t' m n f) => xappendV P V t u a.block t' m n f len x
      | _, _ => .bad
    | 6 => xappend0 P V t u (match len with | 0 => .slice none 0 0 | _ + 1 => unk) x
    | _ => xappend0 P V t u s x
  | s => xappend0 P V t u s x

def byteOf : List Value → UInt8
  | [.int _ n] => UInt8.ofNat n.toNat
  | _ => 0

/-- the bytes of a row -/
def strOf (f : Nat → List Value) (r k : Nat) : ByteArray := ⟨((List.range k).map fun j => byteOf (f (r + j))).toArray⟩

structure areBytes (f : Nat → List Value) (r k : Nat) : Prop where
  at_ : ∀ j, j < k → ∃ b : UInt8, f (r + j) = [.int .u8 (b.toNat : Int)]

/-- 'string(b)' of bytes -/
def xtext (P : Program) (V : VW) (e : TypeId) (x : Value) : Res :=
  match P.underlying e, P.info? e, x with
  | some (.int .u8), some ie, .slice none 0 0 => match Nat.beq ie.size 1 with | true => .val (.string ⟨#[]⟩) | false => .bad
  | some (.int .u8), some ie, .slice (some a) k _ =>
    match a.spot, V[a.block]?, Nat.beq ie.size 1 with
    | some r, some (.rows _ _ 1 n _ f), true => match Nat.blt a.off 2 with | false => .bad | true => .ob (r + k ≤ n ∧ areBytes f r k) (.string (strOf f r k))
    | some 0, some (.vec _ 1 n f), true => match Nat.blt a.off 3 with | false => .bad | true => .ob (k = n ∧ areBytes f 0 k) (.string (strOf f 0 k))
    | some r, some (.arg _ 1 n f), true => match Nat.beq a.off 3 with | false => .bad | true => .ob (r + k ≤ n ∧ areBytes f r k) (.string (strOf f r k))
    | _, _, _ => .bad
  | _, _, _ => .bad

/-- rows laid over rows, from row r on -/
def layF (r k : Nat) (f g : Nat → List Value) (j : Nat) : List Value := if r ≤ j ∧ j < r + k then g (j - r) else f j

/-- 'copy' of bytes (of elements of one cell) -/
def xcopy (P : Program) (V : VW) (t u : TypeId) (d x : Value) : Res :=
  match P.underlying t, P.underlying u, d with
  | some (.slice e), some (.slice _), .slice (some a) dl _ =>
    match (P.info? e).map (·.size), Nat.blt a.off 2, a.spot, V[a.block]? with
    | some 1, true, some r, some (.rows true t' 1 n cap f) =>
      match x with
      | .slice none 0 0 => .cpy True a.block (.rows true t' 1 n cap f) (.int .i64 0)
      | .slice (some b) k _ =>
        match b.spot, V[b.block]? with
        | some r', some (.arg _ 1 n' g) =>
          match Nat.beq b.off 3 with
          | true => .cpy (r' + k ≤ n' ∧ r + dl ≤ n) a.block (.rows true t' 1 n cap (layF r (Nat.min k dl) f fun j => g (r' + j))) (.int .i64 (Nat.min k dl : Nat))
          | false => .bad
        | some r', some (.rows _ _ 1 n' _ g) => match Nat.blt b.off 2 with | false => .bad | true => .cpy (r' + k ≤ n' ∧ r + dl ≤ n) a.block (.rows true t' 1 n cap (layF r (Nat.min k dl) f fun j => g (r' + j))) (.int .i64 (Nat.min k dl : Nat))
        | _, _ => .bad
      | _ => .bad
    | _, _, _, _ => .bad
  | _, _, _ => .bad

/-- 'make' of a slice -/
def xmake (P : Program) (t : TypeId) (x y : Value) : Res :=
  match P.underlying t, x, y with
  | some (.slice e), .int _ a, .int _ b =>
    match P.info? e with
    | some ie =>
      match ie.zero with
      | some z =>
        match (vcells z).all plainC, isC z, Nat.beq (vcells z).length ie.size, Nat.blt 0 ie.size with
        | true, false, true, true =>
          .grow (0 ≤ a ∧ a ≤ b ∧ fitsN b.toNat ie.bytes) none (.rows true e ie.size b.toNat b.toNat fun _ => vcells z) (fun N => .slice (some ⟨N, 0, some 0⟩) a.toNat b.toNat)
        | _, _, _, _ => .bad
      | none => .bad
    | none => .bad
  | _, _, _ => .bad

/-- a builtin that yields a value -/
def xbi (P : Program) (S : VSt) (b : Builtin) (c : Call) : Res :=
  match b, c.args.toList, c.argTypes.toList with
  | .len, [x], t :: _ => xlen P t (ev S x)
  | .cap, [x], t :: _ => xcap P t (ev S x)
  | .min, [x, y], _ => xmin (ev S x) (ev S y)
  | .max, [x, y], _ => xmax (ev S x) (ev S y)
  | .append, [x, y], [t, u] => xappend P S.V t u (ev S x) (ev S y)
  | .copy, [x, y], [t, u] => xcopy P S.V t u (ev S x) (ev S y)
  | _, _, _ => .bad

def xop (P : Program) (S : VSt) (o : Op) : Res :=
  match o with
  | .move x | .assign x => .val (ev S x)
  | .pick c a b =>
    match ev S c with
    | .bool c =>
      match ev S a, ev S b with
      | .bool x, .bool y => .val (.bool (bif c then x else y))
      | x, y => match c with | true => .val x | false => .val y
    | _ => .bad
  | .alloc t =>
    match P.info? t with
    | some i =>
      match i.zero with
      | some z => match (vcells z).all plainC, isC z with | true, false => .alc t (vcells z) | _, _ => .bad
      | none => .bad
    | none => .bad
  | .box t x => match isC (ev S x), (vcells (ev S x)).all cellC with | false, true => .alc t (vcells (ev S x)) | _, _ => .bad
  | .build t parts => xbuild P t (parts.toList.map fun (i, x) => (i, ev S x))
  | .makeSlice t x y => xmake P t (ev S x) (ev S y)
  | .buildSlice t len parts => xbuildSlice P t len (parts.toList.map fun (i, x) => (i, ev S x))
  | .load t a => match ev S a with | .pointer (some a) => xload P S.V t a | _ => .bad
  | .store t a v =>
    match ev S a with
    | .pointer (some p) => xstore P S.V t p (ev S v)
    | _ => .bad
  | .nilCheck x => match ev S x with | .pointer (some a) => .val (.pointer (some a)) | _ => .bad
  | .binOp op t x y _ => xbinN P op t (match isK x with | true => true | false => isK y) (ev S x) (ev S y)
  | .unOp .not _ x => match ev S x with | .bool b => .val (.bool !b) | _ => .bad
  | .unOp .neg _ x => match ev S x with | .int k n => .val (.int k (k.wrap (0 - n))) | _ => .bad
  | .unOp .xor _ x => match ev S x with | .int k n => .val (.int k (k.wrap (BitVec.ofInt k.bits (match k.signed with | true => -1 | false => k.max) ^^^ BitVec.ofInt k.bits n).toNat)) | _ => .bad
  | .convert src dst x =>
    match P.underlying src, P.underlying dst, ev S x with
    | some (.int _), some (.int k), .int _ n => .val (.int k (k.wrap n))
    | some (.int _), some .string, .int _ n => .val (.string (Utf8.encode n))
    | some .string, some .string, .string s => .val (.string s)
    | some (.slice e), some .string, x => xtext P S.V e x
    | some .string, some (.slice e), .string s =>
      match P.underlying e with
      | some (.int .u8) => .grow True none (.rows false e 1 s.size 0 (u8 s)) fun N => .slice (some ⟨N, 1, some 0⟩) s.size 0
      | _ => .bad
    | _, _, _ => .bad
  | .range t x =>
    match P.underlying t, ev S x with
    | some .string, .string s => .grow True none (.iter s 0) fun N => .pointer (some ⟨N, 0, none⟩)
    | _, _ => .bad
  | .next x str =>
    match ev S x, str with
    | .pointer (some a), true =>
      match a.off, a.spot, S.V[a.block]? with
      | 0, none, some (.iter s pos) => .nxt a.block s pos
      | _, _, _ => .bad
    | _, _ => .bad
  | .makeInterface t x =>
    match P.underlying t, isC (ev S x) with
    | some (.interface _), _ => .bad
    | some _, false => .val (.iface t (ev S x))
    | _, _ => .bad
  | .makeFunc fn first cap =>
    match (first.toList.map (ev S)).any isC, (cap.toList.map (ev S)).any isC with
    | false, false => .val (.func fn ⟨first.toList.map (ev S)⟩ ⟨cap.toList.map (ev S)⟩)
    | _, _ => .bad
  | .fieldAddr s x k => xfieldAddr P s (ev S x) k
  | .field s x k => xfield P s (ev S x) k
  | .indexAddr t x i => xindexAddr P S.V t (ev S x) (ev S i)
  | .index t x i => xindex P t (ev S x) (ev S i)
  | .slice t x lo hi mx => match mx with | none => xslice P S.V t (ev S x) (lo.map (ev S)) (hi.map (ev S)) | some _ => .bad
  | .extract t k => match ev S t with | .tuple vs => .ofOpt (vs.toList[k]?) | _ => .bad
  | .call c =>
    match c.callee with
    | .builtin b => xbi P S b c
    | .value x =>
      match ev S x with
      | .func (.func f) fst cap =>
        match (c.args.toList.map (ev S)).any isC with
        | false => .call f (fst.toList ++ c.args.toList.map (ev S) ++ cap.toList)
        | true => .bad
      | _ => .bad
    | _ => .bad
  | _ => .bad

/-- what is known of the functions that are called, and of loops; cl: all numbers are closed -/
structure Ctx where
  cl : Bool
  fn : FuncId → Option (List Value → VW → Res)
  call : FuncId → Option (List Value → VW → (Value → VW → Prop) → Prop)
  blk : Nat → Option (VSt → (Exit → VSt → Prop) → Prop)
  ext : FuncId → Option (List Value → Res)

def putK (cl : Bool) (S : VSt) (dst : Option Tmp) (v : Value) (k : VSt → Prop) : Prop :=
  norm cl S.V.length v fun v' =>
    match dst with
    | some d => setK S.tmps d v' fun l => k ⟨l, S.V⟩
    | none => k S

def appsK {α β : Type} : List α → List α → (List α → β) → β
  | l, [], k => k l
  | l, x :: xs, k => appK l x fun l' => appsK l' xs k

def normRows (g : Value → (Value → Prop) → Prop) : List (List Value) → (List (List Value) → Prop) → Prop
  | [], k => k []
  | v :: vs, k => normL g v fun v' => normRows g vs fun vs' => k (v' :: vs')

/-- a row of new cells, and the slice of all of it -/
def rowsObj (t : TypeId) (m : Nat) (rows : List (List Value)) : VObj := .rows true t m rows.length rows.length (nth [] rows)

def nodst (o : Oper) (k : Prop) : Prop := match o.dst with | none => k | some _ => False

def killK {β : Type} (V : VW) (i : Option Nat) (k : VW → β) : β :=
  match i with
  | some i => setK V i .dead k
  | none => k V

/-- an operation that makes places and is no call -/
def xopn (P : Program) (S : VSt) (o : Op) : Res :=
  match o with
  | .load t x => match ev S x with | .pointer (some a) => xloadX P S.V t a | _ => .bad
  | .convert src dst x =>
    match P.underlying src, P.underlying dst, ev S x with
    | some (.slice _), some (.slice e), .slice (some a) l c =>
      match Nat.beq src dst, P.underlying e, Nat.blt a.off 2, S.V[a.block]? with
      | true, some (.int .u8), true, some (.rows true t m n cap f) => .cpy True a.block (.rows false t m n cap f) (.slice (some a) l c)
      | _, _, _, _ => .bad
    | _, _, _ => .bad
  | _ => .bad

/-! ### Rows that are known but for some, whose slices are places -/
inductive RawR where
  | sto (p : Prop) (i : Nat) (ob : VObj)
  | bld (ob : VObj) (n : Nat)
  | app (p : Prop) (i : Option Nat) (ob : VObj) (n : Nat)
  | no

def holesOk (n : Nat) (hs : List (Nat × List Value)) : Bool := hs.all fun h => h.2.all fun v => scB n 6 v && cellC v

def okRaw (n : Nat) (ob : VObj) (k : Prop) : Prop :=
  match ob with
  | .raw _ _ _ _ _ hs => match holesOk n hs with | true => k | false => False
  | _ => False

def numH : Nat → List (List Value) → List (Nat × List Value)
  | _, [] => []
  | i, c :: cs => (i, c) :: numH (i + 1) cs

def shiftH (k : Nat) : List (Nat × List Value) → List (Nat × List Value)
  | [] => []
  | (i, c) :: r => (k + i, c) :: shiftH k r

def appH : List (Nat × List Value) → List (Nat × List Value) → List (Nat × List Value)
  | [], l => l
  | h :: r, l => h :: appH r l

def xstoreR (P : Program) (V : VW) (t : TypeId) (p : Addr) (v : Value) : RawR :=
  match isC v, (vcells v).all cellC, P.info? t with
  | false, true, some i =>
    if (vcells v).length = i.size then
      match V[p.block]?, p.spot with
      | some (.raw t' m n cap f [(k, c)]), some r =>
        match splice c p.off (vcells v) with
        | some c' => .sto (r = k ∧ r < n) p.block (.raw t' m n cap f [(k, c')])
        | none => .no
      | some (.raw t' m n cap f []), some r =>
        match Nat.beq p.off 0, Nat.beq (vcells v).length m with
        | true, true => .sto (r < n) p.block (.raw t' m n cap f [(r, vcells v)])
        | _, _ => .no
      | _, _ => .no
    else .no
  | _, _, _ => .no

def xbuildR (P : Program) (t : TypeId) (len : Nat) (parts : List (Nat × Value)) : RawR :=
  match xbuildRows P t len parts with
  | some (e, m, rows) => .bld (.raw e m rows.length rows.length (fun _ => []) (numH 0 rows)) rows.length
  | none => .no

def xappR (P : Program) (V : VW) (t u : TypeId) (s x : Value) : RawR :=
  match P.underlying t, P.underlying u, x with
  | some (.slice e), some (.slice _), .slice (some b) k _ =>
    match P.info? e with
    | some ie =>
      match ie.zero with
      | some z =>
        match isC z, Nat.beq (vcells z).length ie.size, Nat.blt 0 ie.size, Nat.blt b.off 2 with
        | false, true, true, true =>
          match b.spot, V[b.block]? with
          | some 0, some (.raw _ m' n' _ g hs') =>
            if m' = ie.size then
              match s with
              | .slice none 0 0 => .app (k = n' ∧ 0 < k ∧ fitsN k ie.bytes) none (.raw e ie.size k 0 g hs') k
              | .slice (some a) len cap =>
                match a.spot, V[a.block]? with
                | some 0, some (.raw t' m n cap' f hs) =>
                  if t' = e then
                    if m = ie.size then
                      .app (k = n' ∧ len = n ∧ (match a.off with | 0 => 0 < cap ∧ cap = cap' | 1 => True | _ => False) ∧ fitsN (len + k) ie.bytes) (some a.block)
                        (.raw e ie.size (len + k) 0 (joinF len f g) (appH hs (shiftH len hs'))) (len + k)
                    else .no
                  else .no
                | _, _ => .no
              | _ => .no
            else .no
          | _, _ => .no
        | _, _, _, _ => .no
      | none => .no
    | none => .no
  | _, _, _ => .no

def xraw (P : Program) (S : VSt) (o : Op) : RawR :=
  match o with
  | .store t x v => match ev S x with | .pointer (some p) => xstoreR P S.V t p (ev S v) | _ => .no
  | .buildSlice t len parts => xbuildR P t len (parts.toList.map fun (i, x) => (i, ev S x))
  | .call c =>
    match c.callee with
    | .builtin .append => match c.args.toList, c.argTypes.toList with | [x, y], [t, u] => xappR P S.V t u (ev S x) (ev S y) | _, _ => .no
    | _ => .no
  | _ => .no

/-! ### Maps, type assertions, slices with three numbers -/
def keyB (P : Program) : Nat → TypeId → Value → Bool
  | 0, _, _ => false
  | d + 1, t, v =>
    match P.underlying t, v with
    | some (.int _), .int _ _ => true
    | some .string, .string _ => true
    | some .bool, .bool _ => true
    | some (.struct fs), .agg cs => fs.toList.all fun f => !(f.name == "_") && (match partOf P f.type cs.toList f.offset with | some x => keyB P d f.type x | none => false)
    | _, _ => false

/-- are two keys the same? -/
def kmeq (P : Program) (kt : TypeId) (k k' : Value) : Option Bool :=
  match P.underlying kt, k, k' with
  | some (.int _), .int a b, .int a' b' => if a = a' then some (b == b') else none
  | some .string, .string a, .string b => some (a.data.toList == b.data.toList)
  | some (.struct _), .agg xs, .agg ys => veq P 20 kt (.agg xs) (.agg ys)
  | _, _, _ => none

def mfind (P : Program) (kt : TypeId) (k : Value) : List (Value × Value × Nat) → Nat → Option (Option (Nat × Value × Value × Nat))
  | [], _ => some none
  | (k', v, b) :: es, i =>
    match kmeq P kt k k' with
    | some true => some (some (i, k', v, b))
    | some false => mfind P kt k es (i + 1)
    | none => none

def sameC : Value → Value → Bool
  | .int j a, .int k b => decide (j = k) && a == b
  | .string a, .string b => a.data.toList == b.data.toList
  | .bool a, .bool b => a == b
  | _, _ => false
def sameK : Value → Value → Bool
  | .agg a, .agg b => Nat.beq a.toList.length b.toList.length && (a.toList.zip b.toList).all fun x => sameC x.1 x.2
  | x, y => sameC x y

def zeroOf (P : Program) (t : TypeId) : Option Value :=
  match P.info? t with
  | some i =>
    match i.zero with
    | some z => match (vcells z).all plainC, isC z with | true, false => some z | _, _ => none
    | none => none
  | none => none

def bornIx : List (Value × Value × Nat) → Int → Nat → Option (Nat × Value × Nat)
  | [], _, _ => none
  | (k, _, b) :: es, n, i => match decide ((b : Int) = n) with | true => some (i, k, b) | false => bornIx es n (i + 1)

inductive Mor where
  | val (p : Prop) (v : Value)
  | mnew
  | mset (r : Nat) (es : List (Value × Value × Nat)) (clock : Nat) (v : Option Value)
  | qset (r : Nat) (g : Int → Int)
  | call (f : FuncId) (args : List Value)
  | new (p : Prop) (o : VObj) (v : Nat → Value)
  | no

def mapAt (V : VW) (x : Value) : Option (List (Value × Value × Nat)) :=
  match x with
  | .map none => some []
  | .map (some r) => match V[r]? with | some (.mp es _) => some es | _ => none
  | _ => none

def two (ok : Bool) (v : Value) (b : Bool) : Value := match ok with | true => .tuple ⟨[v, .bool b]⟩ | false => v

/-- a map of ints that is told by what a lookup gives -/
def qAt (V : VW) (x : Value) : Option (Nat × (Int → Int)) :=
  match x with
  | .map (some r) => match V[r]? with | some (.mq g) => some (r, g) | _ => none
  | _ => none
def intMap (P : Program) (t : TypeId) : Bool :=
  match P.underlying t with
  | some (.map kt et) => (match P.underlying kt, P.underlying et with | some (.int .i64), some (.int .i64) => (match zeroOf P et with | some (.int .i64 (.ofNat 0)) => true | _ => false) | _, _ => false)
  | _ => false
def updQ (g : Int → Int) (n m : Int) (x : Int) : Int := if x = n then m else g x

def xlookup0 (P : Program) (V : VW) (t : TypeId) (x k : Value) (ok : Bool) : Mor :=
  match P.underlying t with
  | some (.map kt et) =>
    match mapAt V x, keyB P 4 kt k with
    | some es, true =>
      match mfind P kt k es 0 with
      | some (some (_, _, v, _)) => match isC v with | false => .val True (two ok v true) | true => .no
      | some none => match zeroOf P et with | some z => .val True (two ok z false) | none => .no
      | none => .no
    | _, _ => .no
  | _ => .no

def xlookup (P : Program) (V : VW) (t : TypeId) (x k : Value) (ok : Bool) : Mor :=
  match qAt V x with
  | some (_, g) => match intMap P t, k, ok with | true, .int .i64 n, false => .val True (.int .i64 (g n)) | _, _, _ => .no
  | none => xlookup0 P V t x k ok

def xmapUpdate0 (P : Program) (V : VW) (t : TypeId) (x k v : Value) : Mor :=
  match P.underlying t, x with
  | some (.map kt _), .map (some r) =>
    match V[r]?, keyB P 4 kt k, isC v with
    | some (.mp es c), true, false =>
      match mfind P kt k es 0 with
      | some (some (i, k', _, b)) => match sameK k' k with | true => .mset r (es.set i (k, v, b)) c none | false => .no
      | some none => .mset r (es ++ [(k, v, c)]) (c + 1) none
      | none => .no
    | _, _, _ => .no
  | _, _ => .no

def xmapUpdate (P : Program) (V : VW) (t : TypeId) (x k v : Value) : Mor :=
  match qAt V x with
  | some (r, g) => match intMap P t, k, v with | true, .int .i64 n, .int .i64 m => .qset r (updQ g n m) | _, _, _ => .no
  | none => xmapUpdate0 P V t x k v

def xmapEntry (P : Program) (V : VW) (t : TypeId) (x k : Value) : Mor :=
  match P.underlying t, x with
  | some (.map kt et), .map (some r) =>
    match V[r]?, keyB P 4 kt k with
    | some (.mp es c), true =>
      match mfind P kt k es 0 with
      | some (some (i, k', v, b)) => match sameK k' k, isC v with | true, false => .mset r (es.set i (k, v, b)) c (some (.tuple ⟨[v, .int .i64 (b : Nat)]⟩)) | _, _ => .no
      | some none => match zeroOf P et with | some z => .mset r (es ++ [(k, z, c)]) (c + 1) (some (.tuple ⟨[z, .int .i64 (c : Nat)]⟩)) | none => .no
      | none => .no
    | _, _ => .no
  | _, _ => .no

def xentryStore (V : VW) (x s v : Value) : Mor :=
  match x, s with
  | .map (some r), .int _ n =>
    match V[r]?, isC v with
    | some (.mp es c), false => match bornIx es n 0 with | some (i, k, b) => .mset r (es.set i (k, v, b)) c none | none => .no
    | _, _ => .no
  | _, _ => .no

def xassert (P : Program) (x : Value) (t : TypeId) (ok : Bool) : Mor :=
  match P.underlying t, x with
  | some (.interface _), _ => .no
  | some _, .iface t' v =>
    match Nat.beq t' t, ok with
    | true, _ => match isC v with | false => .val True (two ok v true) | true => .no
    | false, true => match zeroOf P t with | some z => .val True (.tuple ⟨[z, .bool false]⟩) | none => .no
    | false, false => .no
  | some _, .nilIface => match ok, zeroOf P t with | true, some z => .val True (.tuple ⟨[z, .bool false]⟩) | _, _ => .no
  | _, _ => .no

def zeroK : Option Operand → Bool
  | some (.const (.int _ n)) => decide (n = 0)
  | _ => false

/-- 's[:0:0]' -/
def xslice3 (P : Program) (t : TypeId) (x : Value) (lo hi mx : Option Operand) : Mor :=
  match lo, zeroK hi, zeroK mx with
  | none, true, true =>
    match P.underlying t, x with
    | some (.slice e), .slice none 0 0 => match P.info? e with | some _ => .val True (.slice none 0 0) | none => .no
    | some (.slice e), .slice (some a) _ _ =>
      match P.info? e, Nat.blt a.off 2 with
      | some _, true => .val True (.slice (some { a with off := 6 }) 0 0)
      | _, _ => .no
    | _, _ => .no
  | _, _, _ => .no

/-- 'append' that takes nothing away: of nothing; to a slice that has no room -/
def xappend1 (P : Program) (V : VW) (t u : TypeId) (s x : Value) : Mor :=
  match P.underlying t, P.underlying u, s, x with
  | some (.slice e), some (.slice _), .slice none 0 0, .slice none 0 0 => match P.info? e with | some _ => .val True (.slice none 0 0) | none => .no
  | some (.slice e), _, .slice (some ⟨_, 6, _⟩) 0 0, x =>
    match P.info? e with
    | some ie =>
      match ie.zero with
      | some z =>
        match isC z, Nat.beq (vcells z).length ie.size, Nat.blt 0 ie.size, xsrc P V u ie.size x with
        | false, true, true, .src q k g => .new (q ∧ 0 < k ∧ fitsN k ie.bytes) (.rows true e ie.size k 0 g) (fun N => .slice (some ⟨N, 1, some 0⟩) k 0)
        | _, _, _, _ => .no
      | none => .no
    | none => .no
  | _, _, _, _ => .no

def xmeth (P : Program) (t : TypeId) (name : String) : Option FuncId :=
  match P.info? t, P.underlying t with
  | some i, some u =>
    match i.methods.toList.find? (fun m => m.name == name) with
    | some m =>
      match m.path.toList, m.func, u with
      | [], some (f, true), .pointer _ => some f
      | [], some (f, false), .struct _ => some f
      | [], some (f, false), .int _ => some f
      | _, _, _ => none
    | none => none
  | _, _ => none

def xmlen (P : Program) (V : VW) (t : TypeId) (x : Value) : Mor :=
  match P.underlying t with
  | some (.map _ _) => match mapAt V x with | some es => .val True (.int .i64 (es.length : Nat)) | none => .no
  | _ => .no

/-- an empty slice that is not nil -/
def xempty (P : Program) (t : TypeId) (len : Nat) (parts : List (Nat × Operand)) : Mor :=
  match len, parts with
  | 0, [] =>
    match P.underlying t with
    | some (.slice e) => match P.info? e with | some ie => .new True (.rows true e ie.size 0 0 fun _ => []) (fun N => .slice (some ⟨N, 6, some 0⟩) 0 0) | none => .no
    | _ => .no
  | _, _ => .no

def xmapOp (P : Program) (S : VSt) (o : Op) : Mor :=
  match o with
  | .buildSlice t len parts => xempty P t len parts.toList
  | .makeMap t r =>
    match r with
    | none => .mnew
    | some x => match P.underlying t, ev S x with | some (.map _ _), .int _ _ => .mnew | _, _ => .no
  | .lookup t x k ok => xlookup P S.V t (ev S x) (ev S k) ok
  | .mapUpdate t x k v => xmapUpdate P S.V t (ev S x) (ev S k) (ev S v)
  | .insert t x k v => xmapUpdate P S.V t (ev S x) (ev S k) (ev S v)
  | .mapEntry t x k => xmapEntry P S.V t (ev S x) (ev S k)
  | .entryStore _ x s v => xentryStore S.V (ev S x) (ev S s) (ev S v)
  | .typeAssert x _ t ok => xassert P (ev S x) t ok
  | .slice t x lo hi mx => xslice3 P t (ev S x) lo hi mx
  | .call c =>
    match c.callee with
    | .builtin .len => match c.args.toList, c.argTypes.toList with | [x], t :: _ => xmlen P S.V t (ev S x) | _, _ => .no
    | .builtin .append => match c.args.toList, c.argTypes.toList with | [x, y], [t, u] => xappend1 P S.V t u (ev S x) (ev S y) | _, _ => .no
    | .invoke x name =>
      match ev S x with
      | .iface t v =>
        match xmeth P t name, isC v, (c.args.toList.map (ev S)).any isC with
        | some f, false, false => .call f (v :: c.args.toList.map (ev S))
        | _, _, _ => .no
      | _ => .no
    | _ => .no
  | _ => .no

def normE (g : Value → (Value → Prop) → Prop) : List (Value × Value × Nat) → (List (Value × Value × Nat) → Prop) → Prop
  | [], k => k []
  | (a, v, b) :: r, k => g a fun a' => g v fun v' => fN b fun b' => normE g r fun r' => k ((a', v', b') :: r')

def xmor (P : Program) (C : Ctx) (S : VSt) (o : Oper) (k : VSt → Prop) : Prop :=
  match xmapOp P S o.op with
  | .val p v => p ∧ putK C.cl S o.dst v k
  | .mnew => appK S.V (.mp [] 0) fun V' => putK C.cl ⟨S.tmps, V'⟩ o.dst (.map (some S.V.length)) k
  | .mset r es c v => normE (normV C.cl S.V.length 6) es fun es' => fN c fun c' => setK S.V r (.mp es' c') fun V' =>
      match v with
      | some v => putK C.cl ⟨S.tmps, V'⟩ o.dst v k
      | none => nodst o (k ⟨S.tmps, V'⟩)
  | .qset r g => setK S.V r (.mq g) fun V' => nodst o (k ⟨S.tmps, V'⟩)
  | .new p ob v => p ∧ appK S.V ob fun V' => putK C.cl ⟨S.tmps, V'⟩ o.dst (v S.V.length) k
  | .call f args =>
    match C.fn f with
    | some g =>
      match g args S.V with
      | .val v => putK C.cl S o.dst v k
      | .ob p v => p ∧ putK C.cl S o.dst v k
      | .new p os v => p ∧ appsK S.V os fun V' => putK C.cl ⟨S.tmps, V'⟩ o.dst v k
      | _ => False
    | none =>
      match C.call f with
      | some T => T args S.V fun v V' => putK C.cl ⟨S.tmps, V'⟩ o.dst v k
      | none => False
  | .no => False

/-! ### Conditions that are seen to hold, where all numbers are closed -/
def fitT (n bytes : Nat) : Bool := Nat.ble n 9223372036854775807 && Nat.ble (n * bytes) 140737488355328

def srcT (V : VW) : Value → Option Nat
  | .string s => some s.size
  | .slice (some b) k _ =>
    match b.spot, V[b.block]? with
    | some r, some (.rows _ _ _ n _ _) => match Nat.ble (r + k) n with | true => some k | false => none
    | _, _ => none
  | _ => none

def appT (P : Program) (V : VW) (t : TypeId) (s x : Value) : Bool :=
  match P.underlying t with
  | some (.slice e) =>
    match P.info? e, srcT V x with
    | some ie, some k =>
      match s with
      | .slice none 0 0 => Nat.blt 0 k && fitT k ie.bytes
      | .slice (some a) len cap =>
        match a.off, V[a.block]? with
        | 0, some (.rows _ _ _ n cap' _) => Nat.ble len n && Nat.blt 0 cap && Nat.beq cap cap' && fitT (len + k) ie.bytes
        | 1, some (.rows _ _ _ n _ _) => Nat.ble len n && fitT (len + k) ie.bytes
        | 6, _ => Nat.beq len 0 && (Nat.blt 0 k && fitT k ie.bytes)
        | _, _ => false
      | _ => false
    | _, _ => false
  | _ => false

def rowT (V : VW) (x : Value) : Bool :=
  match x with
  | .pointer (some a) => match V[a.block]?, a.spot with | some (.rows _ _ _ n _ _), some r => Nat.blt r n | _, _ => false
  | _ => false

def inT (i : Int) (n : Nat) : Bool := match i with | .ofNat j => Nat.blt j n | .negSucc _ => false

def obT (P : Program) (S : VSt) (o : Op) : Bool :=
  match o with
  | .load _ x => rowT S.V (ev S x)
  | .store _ x _ => rowT S.V (ev S x)
  | .indexAddr t x i =>
    match ev S x, ev S i with
    | .slice (some a) len _, .int _ i => match S.V[a.block]? with | some (.rows ..) => inT i len | _ => false
    | .pointer (some _), .int _ i => match P.underlying t with | some (.array n _) => inT i n | _ => false
    | _, _ => false
  | .index t x i =>
    match ev S x, ev S i with
    | .string s, .int _ i => inT i s.size
    | .agg _, .int _ i => match P.underlying t with | some (.array n _) => inT i n | _ => false
    | _, _ => false
  | .binOp op _ x y _ =>
    match op, ev S x, ev S y with
    | .shl, .int .., .int _ b | .shr, .int .., .int _ b => (match b with | .ofNat _ => true | .negSucc _ => false)
    | .quo, .int .., .int _ b | .rem, .int .., .int _ b => (match b with | .ofNat 0 => false | _ => true)
    | _, _, _ => false
  | .call c =>
    match c.callee with
    | .builtin .append => match c.args.toList, c.argTypes.toList with | [x, y], [t, _] => appT P S.V t (ev S x) (ev S y) | _, _ => false
    | _ => false
  | _ => false

/-- a condition, and what comes then; the condition is left out, if it is seen to hold -/
def andC (b : Bool) (p k : Prop) : Prop := match b with | true => k | false => p ∧ k

def seen (P : Program) (C : Ctx) (S : VSt) (o : Op) : Bool := match C.cl with | true => obT P S o | false => false

def xone (P : Program) (C : Ctx) (S : VSt) (o : Oper) (k : VSt → Prop) : Prop :=
  match xop P S o.op with
  | .val v => putK C.cl S o.dst v k
  | .ob p v => andC (seen P C S o.op) p (putK C.cl S o.dst v k)
  | .sto i t c => nodst o (normL (normV C.cl S.V.length 6) c fun c' => setK S.V i (.cells t c') fun V' => k ⟨S.tmps, V'⟩)
  | .sob p i r c => andC (seen P C S o.op) p (nodst o (normL (normV C.cl 0 6) c fun c' =>
      match S.V[i]?, c'.all cellC with
      | some (.rows own t m n cap f), true => setK S.V i (.rows own t m n cap fun j => if j = r then c' else f j) fun V' => k ⟨S.tmps, V'⟩
      | _, _ => False))
  | .alc t c => normL (normV C.cl S.V.length 6) c fun c' => appK S.V (.cells t c') fun V' => putK C.cl ⟨S.tmps, V'⟩ o.dst (.pointer (some ⟨S.V.length, 0, none⟩)) k
  | .alr t m rows => normRows (normV C.cl 0 6) rows fun rows' =>
    match rows'.all fun x => x.all cellC with
    | true => appK S.V (rowsObj t m rows') fun V' => putK C.cl ⟨S.tmps, V'⟩ o.dst (.slice (some ⟨S.V.length, 0, some 0⟩) rows'.length rows'.length) k
    | false => False
  | .new .. => False
  | .grow p i ob v => andC (seen P C S o.op) p (killK S.V i fun V' => appK V' ob fun V'' => putK C.cl ⟨S.tmps, V''⟩ o.dst (v S.V.length) k)
  | .cpy p i ob v => p ∧ setK S.V i ob fun V' => putK C.cl ⟨S.tmps, V'⟩ o.dst v k
  | .nxt i s pos => bsplit (pos < s.size)
      (setK S.V i (.iter s (pos + (Utf8.decode s pos).2)) fun V' => putK C.cl ⟨S.tmps, V'⟩ o.dst (.tuple ⟨[.bool true, .int .i64 (pos : Nat), .int .i32 ((Utf8.decode s pos).1 : Nat)]⟩) k)
      (putK C.cl S o.dst (.tuple ⟨[.bool false]⟩) k)
  | .call f args =>
    match C.fn f with
    | some g =>
      match g args S.V with
      | .val v => putK C.cl S o.dst v k
      | .ob p v => p ∧ putK C.cl S o.dst v k
      | .new p os v => p ∧ appsK S.V os fun V' => putK C.cl ⟨S.tmps, V'⟩ o.dst v k
      | _ => False
    | none =>
      match C.call f with
      | some T => T args S.V fun v V' => putK C.cl ⟨S.tmps, V'⟩ o.dst v k
      | none =>
        match C.ext f with
        | some g =>
          match g args with
          | .val v => putK C.cl S o.dst v k
          | .ob p v => p ∧ putK C.cl S o.dst v k
          | _ => False
        | none => False
  | .bad =>
    match xopn P S o.op with
    | .new p os v => p ∧ appsK S.V os fun V' => putK C.cl ⟨S.tmps, V'⟩ o.dst v k
    | .cpy p i ob v => p ∧ setK S.V i ob fun V' => putK C.cl ⟨S.tmps, V'⟩ o.dst v k
    | _ =>
      match xraw P S o.op with
      | .sto p i ob => p ∧ nodst o (okRaw S.V.length ob (setK S.V i ob fun V' => k ⟨S.tmps, V'⟩))
      | .bld ob n => okRaw S.V.length ob (appK S.V ob fun V' => putK C.cl ⟨S.tmps, V'⟩ o.dst (.slice (some ⟨S.V.length, 0, some 0⟩) n n) k)
      | .app p i ob n => p ∧ okRaw S.V.length ob (killK S.V i fun V' => appK V' ob fun V'' => putK C.cl ⟨S.tmps, V''⟩ o.dst (.slice (some ⟨S.V.length, 1, some 0⟩) n 0) k)
      | .no => xmor P C S o k

def guardTmp (ops : List Oper) (j : Nat) : Option Tmp := match ops[j]? with | some o => o.dst | none => none

def skipK (S : VSt) (o : Oper) (k : VSt → Prop) : Prop :=
  match o.dst with
  | some d => setK S.tmps d undef fun l => k ⟨l, S.V⟩
  | none => k S

def xops (P : Program) (C : Ctx) (all : List Oper) : List Oper → VSt → (VSt → Prop) → Prop
  | [], S, k => k S
  | o :: rest, S, k =>
    match o.guard with
    | none => xone P C S o fun S' => xops P C all rest S' k
    | some (j, want) =>
      match guardTmp all j with
      | none => False
      | some g =>
        match nth undef S.tmps g with
        | .bool b =>
          match want with
          | true => bsplit b
              (setK S.tmps g (.bool true) fun l => xone P C ⟨l, S.V⟩ o fun S' => xops P C all rest S' k)
              (setK S.tmps g (.bool false) fun l => skipK ⟨l, S.V⟩ o fun S' => xops P C all rest S' k)
          | false => bsplit b
              (setK S.tmps g (.bool true) fun l => skipK ⟨l, S.V⟩ o fun S' => xops P C all rest S' k)
              (setK S.tmps g (.bool false) fun l => xone P C ⟨l, S.V⟩ o fun S' => xops P C all rest S' k)
        | .tuple ⟨[]⟩ => skipK S o fun S' => xops P C all rest S' k
        | _ => False

/-! A region that draws its order: it is run in the text's order; what each operation yields, reads and stores is noted; the check says that every order that the edges allow yields the same. -/
structure TE where
  dst : Option Tmp
  v : Value
  st : Option (Nat × VObj)
  rd : Option (Option Nat)
  nw : List VObj

/-- what of the known memory an operation reads: nothing, all, one place -/
def mrd (S : VSt) : Op → Option (Option Nat)
  | .load _ x => match ev S x with | .pointer (some p) => some (some p.block) | _ => none
  | .store _ x _ => match ev S x with | .pointer (some p) => some (some p.block) | _ => none
  | .indexAddr _ x _ => match ev S x with | .slice (some p) _ _ => some (some p.block) | _ => none
  | .slice _ x _ _ _ => match ev S x with | .slice (some p) _ _ => some (some p.block) | _ => none
  | .next x _ => match ev S x with | .pointer (some p) => some (some p.block) | _ => none
  | .convert _ _ x => match ev S x with | .slice (some p) _ _ => some (some p.block) | _ => none
  | .lookup _ x _ _ => match ev S x with | .map (some r) => some (some r) | _ => none
  | .mapUpdate .. | .insert .. | .mapEntry .. | .entryStore .. => some none
  | .call c =>
    match c.callee with
    | .builtin .append | .builtin .copy => some none
    | .builtin .len => match c.args.toList.map (ev S) with | [.map (some r)] => some (some r) | _ => none
    | .builtin _ => none
    | _ => some none
  | _ => none

def maskOf (acc : List Nat) (o : Oper) : Nat :=
  o.after.toList.foldl (fun s e => match Region.binds .any e with | true => s ||| (1 <<< e.on) ||| acc.getD e.on 0 | false => s) 0

def masks : List Oper → List Nat → List Nat
  | [], acc => acc
  | o :: os, acc => masks os (acc ++ [maskOf acc o])

def edgesOk : List Oper → Nat → Bool
  | [], _ => true
  | o :: os, i => (o.after.toList.all fun e => !Region.binds .any e || Nat.blt e.on i) && edgesOk os (i + 1)

/-- operation i against operation j: who writes what is read -/
def pairOk (ms : List Nat) (looks : List Tmp) (i : Nat) (ei : TE) (j : Nat) (ej : TE) : Bool :=
  match Nat.beq i j with
  | true => true
  | false =>
    (match ej.dst with
     | none => true
     | some t => (ei.dst != some t) && (!looks.contains t || (Nat.blt j i && (ms.getD i 0).testBit j) || (Nat.blt i j && (ms.getD j 0).testBit i))) &&
    (match ej.st with
     | none => true
     | some (b, _) =>
       match ei.rd with
       | none => true
       | some none => Nat.blt i j && (ms.getD j 0).testBit i
       | some (some b') => b != b' || (Nat.blt i j && (ms.getD j 0).testBit i))

def rowOk (ms : List Nat) (looks : List Tmp) (i : Nat) (ei : TE) : List TE → Nat → Bool
  | [], _ => true
  | ej :: es, j => pairOk ms looks i ei j ej && rowOk ms looks i ei es (j + 1)

def rowsOk (all : Array Oper) (ms : List Nat) (tr : List TE) : List Oper → List TE → Nat → Bool
  | o :: os, e :: es, i => rowOk ms (o.looksAt all) i e tr 0 && rowsOk all ms tr os es (i + 1)
  | [], [], _ => true
  | _, _, _ => false

/-- operation i against one that makes new places: itself, ordered behind, or ordered ahead -/
def ordOk (ms : List Nat) (i j : Nat) (ej : TE) : Bool :=
  match ej.nw with
  | [] => true
  | _ :: _ => match Nat.beq i j with | true => true | false => (Nat.blt j i && (ms.getD i 0).testBit j) || (Nat.blt i j && (ms.getD j 0).testBit i)

def ordsOk (ms : List Nat) (i : Nat) : List TE → Nat → Bool
  | [], _ => true
  | e :: es, j => ordOk ms i j e && ordsOk ms i es (j + 1)

/-- an operation that neither makes new places nor looks at any -/
def oldOk (nV : Nat) (e : TE) : Bool :=
  e.nw.isEmpty && (match e.rd with | some none => false | some (some b) => Nat.blt b nV | none => true) && scB nV 6 e.v && (match e.st with | some (_, .cells _ c) => c.all (scB nV 6) | some (_, .raw _ _ _ _ _ hs) => holesOk nV hs | some (_, .mp ..) => false | _ => true)

def newsOk (ms : List Nat) (nV : Nat) (all : List TE) : List TE → Nat → Bool
  | [], _ => true
  | e :: es, i => (match oldOk nV e with | true => true | false => ordsOk ms i all 0) && newsOk ms nV all es (i + 1)

def dchk (nT nV : Nat) (ops : List Oper) (tr : List TE) : Bool :=
  edgesOk ops 0 && (tr.all fun e => (match e.dst with | some t => Nat.blt t nT | none => true) && (match e.st with | some (b, _) => Nat.blt b nV | none => true)) &&
    rowsOk ops.toArray (masks ops []) tr ops tr 0 && (match tr.all (fun e => e.nw.isEmpty) with | true => true | false => newsOk (masks ops []) nV tr tr 0)

/-- a value, of one of the further operations -/
def xvalM (P : Program) (C : Ctx) (S : VSt) (o : Op) : Res :=
  match xmapOp P S o with
  | .val p v => .ob p v
  | .call f args => match C.fn f with | some g => (match g args S.V with | .val v => .val v | .ob p v => .ob p v | .new p os v => .new p os v | _ => .bad) | none => .bad
  | _ => .bad

/-- a value, of the operation or of the function that it calls -/
def xval (P : Program) (C : Ctx) (S : VSt) (o : Op) : Res :=
  match xop P S o with
  | .call f args => match C.fn f with | some g => (match g args S.V with | .val v => .val v | .ob p v => .ob p v | .new p os v => .new p os v | _ => .bad) | none => .bad
  | .bad => xvalM P C S o
  | r => r

/-- the operation's own condition -/
def notM : Res → Bool
  | .ob .. => true
  | _ => false

def drawOne1 (P : Program) (C : Ctx) (S : VSt) (o : Oper) (k : VSt → TE → Prop) : Prop :=
  match xval P C S o.op with
  | .val v => norm C.cl S.V.length v fun v' => putK C.cl S o.dst v' fun S' => k S' ⟨o.dst, v', none, mrd S o.op, []⟩
  | .ob p v => andC (seen P C S o.op && notM (xop P S o.op)) p (norm C.cl S.V.length v fun v' => putK C.cl S o.dst v' fun S' => k S' ⟨o.dst, v', none, mrd S o.op, []⟩)
  | .sto i t c => nodst o (normL (normV C.cl S.V.length 6) c fun c' => setK S.V i (.cells t c') fun V' => k ⟨S.tmps, V'⟩ ⟨none, undef, some (i, .cells t c'), mrd S o.op, []⟩)
  | .alc t c => normL (normV C.cl S.V.length 6) c fun c' => appK S.V (.cells t c') fun V' => putK C.cl ⟨S.tmps, V'⟩ o.dst (.pointer (some ⟨S.V.length, 0, none⟩)) fun S' => k S' ⟨o.dst, .pointer (some ⟨S.V.length, 0, none⟩), none, mrd S o.op, [.cells t c']⟩
  | .alr t m rows => normRows (normV C.cl 0 6) rows fun rows' =>
    match rows'.all fun x => x.all cellC with
    | true => appK S.V (rowsObj t m rows') fun V' => putK C.cl ⟨S.tmps, V'⟩ o.dst (.slice (some ⟨S.V.length, 0, some 0⟩) rows'.length rows'.length) fun S' =>
      k S' ⟨o.dst, .slice (some ⟨S.V.length, 0, some 0⟩) rows'.length rows'.length, none, mrd S o.op, [rowsObj t m rows']⟩
    | false => False
  | .new p os v => p ∧ appsK S.V os fun V' => norm C.cl V'.length v fun v' => putK C.cl ⟨S.tmps, V'⟩ o.dst v' fun S' => k S' ⟨o.dst, v', none, mrd S o.op, os⟩
  | .cpy p i ob v => p ∧ setK S.V i ob fun V' => norm C.cl S.V.length v fun v' => putK C.cl ⟨S.tmps, V'⟩ o.dst v' fun S' => k S' ⟨o.dst, v', some (i, ob), mrd S o.op, []⟩
  | .grow p i ob v => p ∧ killK S.V i fun V' => appK V' ob fun V'' => norm C.cl V''.length (v S.V.length) fun v' => putK C.cl ⟨S.tmps, V''⟩ o.dst v' fun S' => k S' ⟨o.dst, v', i.map fun i => (i, .dead), mrd S o.op, [ob]⟩
  | .sob p i r c => p ∧ nodst o (normL (normV C.cl 0 6) c fun c' =>
      match S.V[i]?, c'.all cellC with
      | some (.rows own t m n cap f), true => setK S.V i (.rows own t m n cap fun j => if j = r then c' else f j) fun V' => k ⟨S.tmps, V'⟩ ⟨none, undef, some (i, .rows own t m n cap fun j => if j = r then c' else f j), mrd S o.op, []⟩
      | _, _ => False)
  | .bad =>
    match xraw P S o.op with
    | .sto p i ob => p ∧ nodst o (okRaw S.V.length ob (setK S.V i ob fun V' => k ⟨S.tmps, V'⟩ ⟨none, undef, some (i, ob), mrd S o.op, []⟩))
    | .bld ob n => okRaw S.V.length ob (appK S.V ob fun V' => putK C.cl ⟨S.tmps, V'⟩ o.dst (.slice (some ⟨S.V.length, 0, some 0⟩) n n) fun S' => k S' ⟨o.dst, .slice (some ⟨S.V.length, 0, some 0⟩) n n, none, mrd S o.op, [ob]⟩)
    | .app p i ob n => p ∧ okRaw S.V.length ob (killK S.V i fun V' => appK V' ob fun V'' => putK C.cl ⟨S.tmps, V''⟩ o.dst (.slice (some ⟨S.V.length, 1, some 0⟩) n 0) fun S' => k S' ⟨o.dst, .slice (some ⟨S.V.length, 1, some 0⟩) n 0, i.map fun i => (i, .dead), mrd S o.op, [ob]⟩)
    | .no => False
  | _ => False

/-- a call that looks at no memory -/
def pureC (P : Program) (C : Ctx) (S : VSt) (o : Op) : Res :=
  match xop P S o with
  | .call f args =>
    match C.fn f, args.all (scB 0 6) with
    | some g, true =>
      match g args [] with
      | .val v => match scB 0 6 v with | true => .val v | false => .bad
      | .ob p v => match scB 0 6 v with | true => .ob p v | false => .bad
      | _ => .bad
    | _, _ => .bad
  | _ => .bad

def drawOne (P : Program) (C : Ctx) (S : VSt) (o : Oper) (k : VSt → TE → Prop) : Prop :=
  match pureC P C S o.op with
  | .val v => norm C.cl S.V.length v fun v' => putK C.cl S o.dst v' fun S' => k S' ⟨o.dst, v', none, none, []⟩
  | .ob p v => p ∧ norm C.cl S.V.length v fun v' => putK C.cl S o.dst v' fun S' => k S' ⟨o.dst, v', none, none, []⟩
  | _ => drawOne1 P C S o k

def drawGo (P : Program) (C : Ctx) (all : List Oper) : List Oper → VSt → List TE → (VSt → List TE → Prop) → Prop
  | [], S, tr, k => k S tr
  | o :: rest, S, tr, k =>
    match o.guard with
    | none => drawOne P C S o fun S' e => appK tr e fun tr' => drawGo P C all rest S' tr' k
    | some (j, want) =>
      match guardTmp all j with
      | none => False
      | some g =>
        match nth undef S.tmps g with
        | .bool b =>
          match want with
          | true => bsplit b
              (setK S.tmps g (.bool true) fun l => drawOne P C ⟨l, S.V⟩ o fun S' e => appK tr e fun tr' => drawGo P C all rest S' tr' k)
              (setK S.tmps g (.bool false) fun l => skipK ⟨l, S.V⟩ o fun S' => appK tr ⟨o.dst, undef, none, none, []⟩ fun tr' => drawGo P C all rest S' tr' k)
          | false => bsplit b
              (setK S.tmps g (.bool true) fun l => skipK ⟨l, S.V⟩ o fun S' => appK tr ⟨o.dst, undef, none, none, []⟩ fun tr' => drawGo P C all rest S' tr' k)
              (setK S.tmps g (.bool false) fun l => drawOne P C ⟨l, S.V⟩ o fun S' e => appK tr e fun tr' => drawGo P C all rest S' tr' k)
        | .tuple ⟨[]⟩ => skipK S o fun S' => appK tr ⟨o.dst, undef, none, none, []⟩ fun tr' => drawGo P C all rest S' tr' k
        | _ => False

/-! Variables that are made in a region that draws its order: each has its place ahead of all, which is dead until it is made. -/
def allocOf (P : Program) (o : Oper) : Option (TypeId × List Value) :=
  match o.guard, o.op with
  | none, .alloc t =>
    match P.info? t with
    | some i =>
      match i.zero with
      | some z => match (vcells z).all plainC, isC z with | true, false => some (t, vcells z) | _, _ => none
      | none => none
    | none => none
  | _, _ => none

/-- the operations that make variables, and their places -/
def allocPl (P : Program) : List Oper → Nat → Nat → List (Nat × Nat)
  | [], _, _ => []
  | o :: os, i, p => match allocOf P o with | some _ => (i, p) :: allocPl P os (i + 1) (p + 1) | none => allocPl P os (i + 1) p
def allocObs (P : Program) : List Oper → VW
  | [] => []
  | o :: os => match allocOf P o with | some (t, c) => .cells t c :: allocObs P os | none => allocObs P os

def drawGoA (P : Program) (C : Ctx) (all : List Oper) : List Oper → Nat → VSt → List TE → (VSt → List TE → Prop) → Prop
  | [], _, S, tr, k => k S tr
  | o :: rest, p, S, tr, k =>
    match allocOf P o with
    | some _ => putK C.cl S o.dst (.pointer (some ⟨p, 0, none⟩)) fun S' => appK tr ⟨o.dst, .pointer (some ⟨p, 0, none⟩), none, none, []⟩ fun tr' => drawGoA P C all rest (p + 1) S' tr' k
    | none =>
    match o.guard with
    | none => drawOne P C S o fun S' e => appK tr e fun tr' => drawGoA P C all rest p S' tr' k
    | some (j, want) =>
      match guardTmp all j with
      | none => False
      | some g =>
        match nth undef S.tmps g with
        | .bool b =>
          match want with
          | true => bsplit b
              (setK S.tmps g (.bool true) fun l => drawOne P C ⟨l, S.V⟩ o fun S' e => appK tr e fun tr' => drawGoA P C all rest p S' tr' k)
              (setK S.tmps g (.bool false) fun l => skipK ⟨l, S.V⟩ o fun S' => appK tr ⟨o.dst, undef, none, none, []⟩ fun tr' => drawGoA P C all rest p S' tr' k)
          | false => bsplit b
              (setK S.tmps g (.bool true) fun l => skipK ⟨l, S.V⟩ o fun S' => appK tr ⟨o.dst, undef, none, none, []⟩ fun tr' => drawGoA P C all rest p S' tr' k)
              (setK S.tmps g (.bool false) fun l => drawOne P C ⟨l, S.V⟩ o fun S' e => appK tr e fun tr' => drawGoA P C all rest p S' tr' k)
        | .tuple ⟨[]⟩ => skipK S o fun S' => appK tr ⟨o.dst, undef, none, none, []⟩ fun tr' => drawGoA P C all rest p S' tr' k
        | _ => False

/-- a value that does not name a place -/
def freeB (p : Nat) : Nat → Value → Bool
  | 0, _ => false
  | d + 1, v =>
    match v with
    | .pointer (some a) => !Nat.beq a.block p
    | .slice (some a) _ _ => !Nat.beq a.block p
    | .map (some r) => !Nat.beq r p
    | .iface _ v => freeB p d v
    | .agg cs => cs.toList.all (freeB p d)
    | .tuple cs => cs.toList.all (freeB p d)
    | .func _ a b => a.toList.all (freeB p d) && b.toList.all (freeB p d)
    | _ => true
def freeO (p : Nat) : VObj → Bool
  | .cells _ c => c.all (freeB p 6)
  | .raw _ _ _ _ _ hs => hs.all fun h => h.2.all (freeB p 6)
  | .mp es _ => es.all fun e => freeB p 6 e.1 && freeB p 6 e.2.1
  | _ => true

/-- operation j, that does not come behind the making of a place, neither names nor reads it -/
def apartOk (ms : List Nat) (i p : Nat) (j : Nat) (e : TE) : Bool :=
  match Nat.beq j i with
  | true => true
  | false =>
    match (ms.getD j 0).testBit i with
    | true => true
    | false => freeB p 6 e.v && (match e.st with | some (b, o) => !Nat.beq b p && freeO p o | none => true) && (match e.rd with | some none => false | some (some b) => !Nat.beq b p | none => true) && e.nw.all (freeO p)
def apartsOk (ms : List Nat) (i p : Nat) : List TE → Nat → Bool
  | [], _ => true
  | e :: es, j => apartOk ms i p j e && apartsOk ms i p es (j + 1)
def achk (ms : List Nat) (al : List (Nat × Nat)) (tr : List TE) : Bool := al.all fun x => apartsOk ms x.1 x.2 tr 0

def xdraw2 (P : Program) (C : Ctx) (ops : List Oper) (S : VSt) (k : VSt → Prop) : Prop :=
  appsK S.V (allocObs P ops) fun V => drawGoA P C ops ops S.V.length ⟨S.tmps, V⟩ [] fun S' tr =>
    match dchk S.tmps.length V.length ops tr, achk (masks ops []) (allocPl P ops 0 S.V.length) tr with
    | true, true => k S'
    | _, _ => False

def xdraw (P : Program) (C : Ctx) (ops : List Oper) (S : VSt) (k : VSt → Prop) : Prop :=
  match P.follows .mixedOrders with
  | false => False
  | true => drawGo P C ops ops S [] fun S' tr => match dchk S.tmps.length S.V.length ops tr with | true => k S' | false => xdraw2 P C ops S k

/-! A region that draws its order, in which an operation is run alone: all that comes ahead of it, then it, then the rest. What is neither ahead of it nor behind it reads no memory and leaves none. -/
def deadTE : TE := ⟨none, undef, none, none, []⟩

/-- an operation that is run alone -/
def barOp (P : Program) (C : Ctx) (S : VSt) (o : Op) : Bool :=
  match o with
  | .mapUpdate .. | .insert .. | .mapEntry .. | .entryStore .. | .makeMap .. => true
  | .call c =>
    match c.callee with
    | .builtin _ => false
    | .invoke .. => match xmapOp P S o with | .call f _ => (match C.fn f with | some _ => false | none => true) | _ => true
    | .value _ => match xop P S o with | .call f _ => (match C.fn f with | some _ => false | none => true) | _ => true
  | _ => false

/-- may a region have one? -/
def mayBar : List Oper → Bool
  | [] => false
  | o :: os =>
    match o.op with
    | .mapUpdate .. | .insert .. | .mapEntry .. | .entryStore .. | .makeMap .. => true
    | .call c => (match c.callee with | .builtin _ => mayBar os | _ => true)
    | _ => mayBar os

/-- an operation that reads what one of these writes -/
def hitsT (tr : List TE) (r : Option (Option Nat)) : Bool :=
  match r with
  | none => false
  | some none => tr.any fun e => match e.st with | some _ => true | none => false
  | some (some b) => tr.any fun e => match e.st with | some (b', _) => Nat.beq b' b | none => false

def stores2 : List Oper → Nat → Bool
  | _, 0 => true
  | [], _ => false
  | o :: os, n + 1 => match o.op with | .store .. => stores2 os n | _ => stores2 os (n + 1)

def drawSeg (P : Program) (C : Ctx) (all : List Oper) (st : Nat) : List Oper → Nat → Nat → VSt → List TE → (VSt → List TE → Prop) → (Oper → Nat → Nat → VSt → List TE → Prop) → Prop
  | [], _, _, S, tr, kE, _ => kE S tr
  | o :: rest, i, p, S, tr, kE, kB =>
    match st.testBit i with
    | true => appK tr deadTE fun tr' => match allocOf P o with | some _ => drawSeg P C all st rest (i + 1) (p + 1) S tr' kE kB | none => drawSeg P C all st rest (i + 1) p S tr' kE kB
    | false =>
      match allocOf P o with
      | some _ => putK C.cl S o.dst (.pointer (some ⟨p, 0, none⟩)) fun S' => appK tr ⟨o.dst, .pointer (some ⟨p, 0, none⟩), none, none, []⟩ fun tr' => drawSeg P C all st rest (i + 1) (p + 1) S' tr' kE kB
      | none =>
      match o.guard with
      | none =>
        match barOp P C S o.op || hitsT tr (mrd S o.op) with
        | true => kB o i p S tr
        | false => drawOne P C S o fun S' e => appK tr e fun tr' => drawSeg P C all st rest (i + 1) p S' tr' kE kB
      | some (j, want) =>
        match guardTmp all j with
        | none => False
        | some g =>
          match nth undef S.tmps g with
          | .bool b =>
            match want with
            | true => bsplit b
                (setK S.tmps g (.bool true) fun l => match barOp P C ⟨l, S.V⟩ o.op || hitsT tr (mrd ⟨l, S.V⟩ o.op) with
                  | true => kB o i p ⟨l, S.V⟩ tr
                  | false => drawOne P C ⟨l, S.V⟩ o fun S' e => appK tr e fun tr' => drawSeg P C all st rest (i + 1) p S' tr' kE kB)
                (setK S.tmps g (.bool false) fun l => skipK ⟨l, S.V⟩ o fun S' => appK tr ⟨o.dst, undef, none, none, []⟩ fun tr' => drawSeg P C all st rest (i + 1) p S' tr' kE kB)
            | false => bsplit b
                (setK S.tmps g (.bool true) fun l => skipK ⟨l, S.V⟩ o fun S' => appK tr ⟨o.dst, undef, none, none, []⟩ fun tr' => drawSeg P C all st rest (i + 1) p S' tr' kE kB)
                (setK S.tmps g (.bool false) fun l => match barOp P C ⟨l, S.V⟩ o.op || hitsT tr (mrd ⟨l, S.V⟩ o.op) with
                  | true => kB o i p ⟨l, S.V⟩ tr
                  | false => drawOne P C ⟨l, S.V⟩ o fun S' e => appK tr e fun tr' => drawSeg P C all st rest (i + 1) p S' tr' kE kB)
          | .tuple ⟨[]⟩ => skipK S o fun S' => appK tr ⟨o.dst, undef, none, none, []⟩ fun tr' => drawSeg P C all st rest (i + 1) p S' tr' kE kB
          | _ => False

/-- operations behind place c of the text that do not come behind it -/
def drawFl (P : Program) (C : Ctx) (all : List Oper) (ms : List Nat) (st c : Nat) : List Oper → Nat → Nat → VSt → List TE → (VSt → List TE → Prop) → Prop
  | [], _, _, S, tr, k => k S tr
  | o :: rest, i, p, S, tr, k =>
    match st.testBit i || (ms.getD i 0).testBit c with
    | true => appK tr deadTE fun tr' => match allocOf P o with | some _ => drawFl P C all ms st c rest (i + 1) (p + 1) S tr' k | none => drawFl P C all ms st c rest (i + 1) p S tr' k
    | false =>
      match allocOf P o with
      | some _ => putK C.cl S o.dst (.pointer (some ⟨p, 0, none⟩)) fun S' => appK tr ⟨o.dst, .pointer (some ⟨p, 0, none⟩), none, none, []⟩ fun tr' => drawFl P C all ms st c rest (i + 1) (p + 1) S' tr' k
      | none =>
      match o.guard with
      | none => drawOne P C S o fun S' e => appK tr e fun tr' => drawFl P C all ms st c rest (i + 1) p S' tr' k
      | some (j, want) =>
        match guardTmp all j with
        | none => False
        | some g =>
          match nth undef S.tmps g with
          | .bool b =>
            match want with
            | true => bsplit b
                (setK S.tmps g (.bool true) fun l => drawOne P C ⟨l, S.V⟩ o fun S' e => appK tr e fun tr' => drawFl P C all ms st c rest (i + 1) p S' tr' k)
                (setK S.tmps g (.bool false) fun l => skipK ⟨l, S.V⟩ o fun S' => appK tr ⟨o.dst, undef, none, none, []⟩ fun tr' => drawFl P C all ms st c rest (i + 1) p S' tr' k)
            | false => bsplit b
                (setK S.tmps g (.bool true) fun l => skipK ⟨l, S.V⟩ o fun S' => appK tr ⟨o.dst, undef, none, none, []⟩ fun tr' => drawFl P C all ms st c rest (i + 1) p S' tr' k)
                (setK S.tmps g (.bool false) fun l => drawOne P C ⟨l, S.V⟩ o fun S' e => appK tr e fun tr' => drawFl P C all ms st c rest (i + 1) p S' tr' k)
          | .tuple ⟨[]⟩ => skipK S o fun S' => appK tr ⟨o.dst, undef, none, none, []⟩ fun tr' => drawFl P C all ms st c rest (i + 1) p S' tr' k
          | _ => False

/-- an operation of the segment ahead of c -/
def preB (ms : List Nat) (st c i : Nat) : Bool := !st.testBit i && !Nat.beq i c && (Nat.blt i c || !(ms.getD i 0).testBit c)

/-- what is neither ahead of c nor behind it: it reads no memory, leaves none, and is another tmp than c's -/
def flOk (ms : List Nat) (st st' c : Nat) (d : Option Tmp) : Nat → List TE → Bool
  | _, [] => true
  | i, e :: es =>
    (match preB ms st c i && !st'.testBit i with
     | true => (match e.st, e.nw with | none, [] => true | _, _ => false) && (match e.dst, d with | some t, some t' => !Nat.beq t t' | _, _ => true)
     | false => true) && flOk ms st st' c d (i + 1) es

def exOf (ms : List Nat) (st st' c : Nat) : Nat → List TE → List (Nat × Option Tmp × Value)
  | _, [] => []
  | i, e :: es => match preB ms st c i && !st'.testBit i with | true => (i, e.dst, e.v) :: exOf ms st st' c (i + 1) es | false => exOf ms st st' c (i + 1) es

def cutEx : List (Nat × Option Tmp × Value) → List Value → (List Value → Prop) → Prop
  | [], T, k => k T
  | (_, some d, _) :: r, T, k => setK T d unk fun T' => cutEx r T' k
  | (_, none, _) :: r, T, k => cutEx r T k

def addrT (a b : Addr) : Bool := Nat.beq a.block b.block && Nat.beq a.off b.off && (match a.spot, b.spot with | none, none => true | some i, some j => Nat.beq i j | _, _ => false)
/-- are two values seen to be the same? -/
def eqT : Value → Value → Bool
  | .int j a, .int k b => decide (j = k) && decide (a = b)
  | .bool a, .bool b => a == b
  | .pointer (some a), .pointer (some b) => addrT a b
  | .pointer none, .pointer none => true
  | .slice (some a) l c, .slice (some b) l' c' => addrT a b && Nat.beq l l' && Nat.beq c c'
  | .map (some a), .map (some b) => Nat.beq a b
  | _, _ => false

def exOk (tr : List TE) : List (Nat × Option Tmp × Value) → Prop → Prop
  | [], k => k
  | (i, d, v) :: r, k =>
    match nth deadTE tr i, d with
    | ⟨some d', v', none, _, []⟩, some d => (match Nat.beq d' d with | true => andC (eqT v' v) (v' = v) (exOk tr r k) | false => False)
    | ⟨none, _, none, _, []⟩, none => exOk tr r k
    | _, _ => False

def guardOk (all : List Oper) (o : Oper) (T : List Value) (k : Prop) : Prop :=
  match o.guard with
  | none => k
  | some (j, want) =>
    match guardTmp all j with
    | none => False
    | some g =>
      match want, nth undef T g with
      | true, .bool true => k
      | false, .bool false => k
      | _, _ => False

/-- the variables that are not made by the operations of st -/
def alOf (P : Program) (ops : List Oper) (p0 st : Nat) : List (Nat × Nat) := (allocPl P ops 0 p0).filter fun x => !st.testBit x.1

def killAl : List (Nat × Nat) → VW → (VW → Prop) → Prop
  | [], V, k => k V
  | x :: r, V, k => setK V x.2 .dead fun V' => killAl r V' k

def setAl (P : Program) (ops : List Oper) : List (Nat × Nat) → VW → (VW → Prop) → Prop
  | [], V, k => k V
  | x :: r, V, k =>
    match ops[x.1]? with
    | some o => match allocOf P o with | some (t, c) => setK V x.2 (.cells t c) fun V' => setAl P ops r V' k | none => False
    | none => False

/-- what is live and not ours was there -/
def okOld : VW → VW → Bool
  | [], _ => true
  | o :: os, [] => (match o with | .arg .. => false | .rows false .. => false | _ => true) && okOld os []
  | o :: os, o' :: os' => (match o, o' with | .arg .., .arg .. => true | .arg .., _ => false | .rows false .., .rows .. => true | .rows false .., _ => false | _, _ => true) && okOld os os'

def reviveOk (al : List (Nat × Nat)) (Vd : VW) (S2 : VSt) : Bool :=
  match al with
  | [] => true
  | al => okOld S2.V Vd && al.all fun x => (match S2.V[x.2]? with | some .dead => true | _ => false) && S2.tmps.all (freeB x.2 6) && S2.V.all (freeO x.2)

/-- nothing is stored in the variables -/
def noSt (al : List (Nat × Nat)) (tr : List TE) : Bool := al.all fun x => tr.all fun e => match e.st with | some (b, _) => !Nat.beq b x.2 | none => true

def drawBar (P : Program) (C : Ctx) (ops : List Oper) (ms : List Nat) (p0 : Nat) : Nat → Nat → List (Nat × Option Tmp × Value) → VSt → (VSt → Prop) → Prop
  | 0, _, _, _, _ => False
  | n + 1, st, ex, S, k =>
    drawSeg P C ops st ops 0 p0 S []
      (fun S' tr => match dchk S.tmps.length S.V.length ops tr, achk ms (alOf P ops p0 st) tr with | true, true => exOk tr ex (k S') | _, _ => False)
      (fun o c p S1 tr => appK tr deadTE fun tr1 => drawFl P C ops ms st c (ops.drop (c + 1)) (c + 1) (match allocOf P o with | some _ => p + 1 | none => p) S1 tr1 fun Sp tr2 =>
        match dchk S.tmps.length S.V.length ops tr2, achk ms (alOf P ops p0 st) tr2, flOk ms st (st ||| ms.getD c 0 ||| (1 <<< c)) c o.dst 0 tr2 && ex.all (fun x => preB ms st c x.1 || st.testBit x.1) && noSt (alOf P ops p0 (st ||| ms.getD c 0 ||| (1 <<< c))) tr2 with
        | true, true, true => exOk tr2 ex (cutEx (exOf ms st (st ||| ms.getD c 0 ||| (1 <<< c)) c 0 tr2) Sp.tmps fun T => killAl (alOf P ops p0 (st ||| ms.getD c 0 ||| (1 <<< c))) Sp.V fun Vd => guardOk ops o T (xone P C ⟨T, Vd⟩ o fun S2 =>
            match reviveOk (alOf P ops p0 (st ||| ms.getD c 0 ||| (1 <<< c))) Vd S2 with
            | true => setAl P ops (alOf P ops p0 (st ||| ms.getD c 0 ||| (1 <<< c))) S2.V fun V2 => drawBar P C ops ms p0 n (st ||| ms.getD c 0 ||| (1 <<< c)) (exOf ms st (st ||| ms.getD c 0 ||| (1 <<< c)) c 0 tr2) ⟨S2.tmps, V2⟩ k
            | false => False))
        | _, _, _ => False)

def xdrawT (P : Program) (C : Ctx) (ops : List Oper) (S : VSt) (k : VSt → Prop) : Prop :=
  match mayBar ops || (C.cl && stores2 ops 2) with
  | false => xdraw P C ops S k
  | true =>
    match P.follows .mixedOrders with
    | false => False
    | true =>
      appsK S.V (allocObs P ops) fun V => drawSeg P C ops 0 ops 0 S.V.length ⟨S.tmps, V⟩ [] (fun _ _ => xdraw P C ops S k) (fun _ _ _ _ _ => drawBar P C ops (masks ops []) S.V.length 12 0 [] ⟨S.tmps, V⟩ k)

def X (P : Program) (C : Ctx) : Nat → Code → VSt → (Exit → VSt → Prop) → Prop
  | 0, _, _, _ => False
  | n + 1, c, S, K =>
    match c with
    | .skip => K .normal S
    | .label _ => K .normal S
    | .seq a b => X P C n a S fun e S' => match e with | .normal => X P C n b S' K | e => K e S'
    | .cond c t e =>
      match ev S c with
      | .bool b => bsplit b (X P C n t S K) (X P C n e S K)
      | _ => False
    | .block id body =>
      match C.blk id with
      | some T => T S K
      | none => X P C n body S fun e S' => match e with | .exit i => if i = id then K .normal S' else K (.exit i) S' | e => K e S'
    | .loop body => X P C n body S fun e S' => match e with | .normal => X P C n (.loop body) S' K | e => K e S'
    | .region _ ops draw =>
      match draw with
      | false => xops P C ops.toList ops.toList S fun S' => K .normal S'
      | true => xdrawT P C ops.toList S fun S' => K .normal S'
    | .ret => K .ret S
    | .exit id => K (.exit id) S
    | .scope body => X P C n body S fun e S' => match e with | .goto _ => False | e => K e S'
    | _ => False

def xres (P : Program) (S : VSt) : List ResultVar → (List Value → Prop) → Prop
  | [], k => k []
  | .tmp t :: rs, k => match isC (nth undef S.tmps t) with | false => xres P S rs fun l => k (nth undef S.tmps t :: l) | true => False
  | .cell a t :: rs, k =>
    match nth undef S.tmps a with
    | .pointer (some p) =>
      match xload P S.V t p with
      | .val v => xres P S rs fun l => k (v :: l)
      | .ob p v => p ∧ xres P S rs fun l => k (v :: l)
      | _ => False
    | _ => False

def pad {β : Type} : Nat → List Value → (List Value → β) → β
  | 0, _, k => k []
  | n + 1, [], k => pad n [] fun l => k (undef :: l)
  | n + 1, x :: xs, k => pad n xs fun l => k (x :: l)

/-- the end of a body: its results -/
def xend (P : Program) (C : Ctx) (fn : Func) (K : Value → VW → Prop) (e : Exit) (S : VSt) : Prop :=
  match e with
  | .normal | .ret => xres P S fn.results.toList fun l =>
    match l with
    | [v] => norm C.cl S.V.length v fun v' => K v' S.V
    | l => norm C.cl S.V.length (.tuple ⟨l⟩) fun v' => K v' S.V
  | _ => False

/-- a function's body, run on arguments -/
def XF (P : Program) (C : Ctx) (fuel : Nat) (fn : Func) (args : List Value) (V : VW) (K : Value → VW → Prop) : Prop :=
  match fn.body with
  | some c => normL (normV C.cl V.length 6) args fun args => if args.length ≤ fn.ntmps then pad fn.ntmps args fun l => X P C fuel c ⟨l, V⟩ (xend P C fn K) else False
  | none => False

/-- the blocks of a code that have a contract -/
def blksOf (C : Ctx) : Code → List (Nat × Code)
  | .seq a b => blksOf C a ++ blksOf C b
  | .cond _ a b => blksOf C a ++ blksOf C b
  | .block id body => match C.blk id with | some _ => [(id, body)] | none => blksOf C body
  | .loop body => blksOf C body
  | .scope body => blksOf C body
  | _ => []

def leT : List Value → List Value → Prop
  | [], [] => True
  | x :: xs, y :: ys =>
    match x with
    | .complex .f32 0 0 => leT xs ys
    | x => x = y ∧ leT xs ys
  | _, _ => False

def leV : VW → VW → Prop
  | [], _ => True
  | o :: os, o' :: os' => o = o' ∧ leV os os'
  | _, _ => False

/-- what is less is known -/
def Le (S S' : VSt) : Prop := leT S.tmps S'.tmps ∧ leV S.V S'.V

end Go.X
