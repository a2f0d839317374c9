/-
  A RUN OF A GO FUNCTION OVER A SMALL PICTURE OF MEMORY, first part: what it does at each operation is what the model does.
-/
import Derived.Below
import Derived.Orders
import Derived.Scope
import Derived.Laws.StructEq
import Derived.Lib.ConvBytes
import Derived.Laws.BytesString
import Derived.Laws.Slices
import Derived.ChangeKeysEq
import Derived.Laws.MakeOwn
namespace Go.Proofs.YtpnoifikpmfpdaaDoorX
open Go
noncomputable section

/-- One or the other. -/
def cnd {β : Type} (b : Bool) (x y : β) : β := Bool.rec (motive := fun _ => β) y x b

/-- A path's step. -/
inductive D where
  | a | b | c | d
  deriving DecidableEq

/-- A tree by paths. -/
inductive T (α : Type) where
  | nil
  | node (v : Option α) (t0 t1 t2 t3 : T α)

def T.get {α : Type} (p : List D) : T α → Option α :=
  List.rec (motive := fun _ => T α → Option α) (T.rec (motive := fun _ => Option α) none (fun v _ _ _ _ _ _ _ _ => v))
    (fun x _ ih t => T.rec (motive := fun _ => Option α) none (fun _ t0 t1 t2 t3 _ _ _ _ => D.rec (motive := fun _ => Option α) (ih t0) (ih t1) (ih t2) (ih t3) x) t) p

def T.put {α : Type} (a : Option α) (p : List D) : T α → T α :=
  List.rec (motive := fun _ => T α → T α) (T.rec (motive := fun _ => T α) (.node a .nil .nil .nil .nil) (fun _ t0 t1 t2 t3 _ _ _ _ => .node a t0 t1 t2 t3))
    (fun x _ ih t => T.rec (motive := fun _ => T α)
      (D.rec (motive := fun _ => T α) (.node none (ih .nil) .nil .nil .nil) (.node none .nil (ih .nil) .nil .nil) (.node none .nil .nil (ih .nil) .nil) (.node none .nil .nil .nil (ih .nil)) x)
      (fun v t0 t1 t2 t3 _ _ _ _ => D.rec (motive := fun _ => T α) (.node v (ih t0) t1 t2 t3) (.node v t0 (ih t1) t2 t3) (.node v t0 t1 (ih t2) t3) (.node v t0 t1 t2 (ih t3)) x) t) p

abbrev Id := List D

def inc : Id → Id
  | [] => [.a]
  | .a :: p => .b :: p
  | .b :: p => .c :: p
  | .c :: p => .d :: p
  | .d :: p => .a :: inc p

def D.val : D → Nat
  | .a => 0
  | .b => 1
  | .c => 2
  | .d => 3

def D.of : Nat → D
  | 0 => .a
  | 1 => .b
  | 2 => .c
  | _ => .d

/-- The number of a path. -/
def num : Id → Nat
  | [] => 0
  | x :: p => x.val + 1 + 4 * num p

def dig : Nat → Nat → Id
  | 0, _ => []
  | f + 1, n => match n with
    | 0 => []
    | m + 1 => D.of (m % 4) :: dig f (m / 4)

/-- A slot's path. -/
def slot (t : Nat) : Id := dig t t

/-- A value in the picture. -/
inductive AV : Type where
  | bool (b : Bool)
  | int (k : IntKind) (n : Int)
  | flt (k : FloatKind) (b : Nat)
  | cplx (k : FloatKind) (re im : Nat)
  | str (s : List Nat)
  | ptr (b : Id) (o : Nat)
  | pnil
  | slc (b : Id) (o n c z : Nat)
  | snil
  | map (b : Id)
  | mnil
  | fn (f : Nat) (first caps : List AV)
  | fnil
  | inil
  | agg (cs : List AV)
  | tup (cs : List AV)
  deriving Inhabited

/-- A row: its cells by number, how many. -/
structure Row where
  t : T AV
  n : Nat

inductive AO where
  | cells (row : Row)
  | omap (es : List (AV × AV × Nat)) (clock : Nat)
  | iter (m : Option Id) (since : Nat) (seen : List Nat) (last : Nat)

structure H where
  t : T AO
  nx : Id

abbrev Fr := T AV

def mapO {α β : Type} (g : α → Option β) : List α → Option (List β)
  | [] => some []
  | a :: as => match g a with
    | some b => match mapO g as with
      | some bs => some (b :: bs)
      | none => none
    | none => none

/-- A value without an address, as it stands in the picture. -/
def ofV : Nat → Value → Option AV
  | 0, _ => none
  | _ + 1, .bool b => some (.bool b)
  | _ + 1, .int k n => some (.int k n)
  | _ + 1, .float k b => some (.flt k b)
  | _ + 1, .complex k a b => some (.cplx k a b)
  | _ + 1, .string s => some (.str (s.data.toList.map UInt8.toNat))
  | _ + 1, .pointer none => some .pnil
  | _ + 1, .slice none 0 0 => some .snil
  | _ + 1, .map none => some .mnil
  | _ + 1, .func (.func g) ⟨[]⟩ ⟨[]⟩ => some (.fn g [] [])
  | _ + 1, .nilFunc => some .fnil
  | _ + 1, .nilIface => some .inil
  | f + 1, .agg cs => match mapO (ofV f) cs.toList with | some l => some (.agg l) | none => none
  | f + 1, .tuple cs => match mapO (ofV f) cs.toList with | some l => some (.tup l) | none => none
  | _ + 1, _ => none

/-- A picture's value without an address, as a value. -/
def toV : Nat → AV → Option Value
  | 0, _ => none
  | _ + 1, .bool b => some (.bool b)
  | _ + 1, .int k n => some (.int k n)
  | _ + 1, .flt k b => some (.float k b)
  | _ + 1, .cplx k a b => some (.complex k a b)
  | _ + 1, .str s => some (.string ⟨⟨s.map UInt8.ofNat⟩⟩)
  | _ + 1, .pnil => some (.pointer none)
  | _ + 1, .snil => some (.slice none 0 0)
  | _ + 1, .mnil => some (.map none)
  | _ + 1, .fnil => some .nilFunc
  | _ + 1, .inil => some .nilIface
  | f + 1, .agg cs => match mapO (toV f) cs with | some l => some (.agg ⟨l⟩) | none => none
  | f + 1, .tup cs => match mapO (toV f) cs with | some l => some (.tuple ⟨l⟩) | none => none
  | _ + 1, _ => none

/-- What a computation without memory answers. -/
def runPure {α : Type} (P : Program) : Sem α → Option α
  | .pure a => some a
  | .program k => runPure P (k P)
  | _ => none

def cellsOf : AV → List AV
  | .agg cs => cs
  | v => [v]

def isCell : AV → Bool
  | .agg _ => false
  | .tup _ => false
  | _ => true

def isAggT (P : Program) (t : TypeId) : Option Bool :=
  match P.underlying t with
  | some (.struct _) => some true
  | some (.array _ _) => some true
  | some _ => some false
  | none => none

def sizeT (P : Program) (t : TypeId) : Option Nat :=
  match P.info? t with
  | some i => some i.size
  | none => none

def zeroT (P : Program) (t : TypeId) : Option AV :=
  match P.info? t with
  | some i => match i.zero with
    | some v => ofV 20 v
    | none => none
  | none => none

def evTmp (t : Nat) (fr : Fr) : Option AV := T.get (slot t) fr
def evConst (v : Value) (_ : Fr) : Option AV := ofV 20 v
def evGlobal (_ : Nat) (_ : Fr) : Option AV := none
def evFunc (f : Nat) (_ : Fr) : Option AV := some (.fn f [] [])

def ev (fr : Fr) (x : Operand) : Option AV :=
  Operand.casesOn (motive := fun _ => Fr → Option AV) x evTmp evConst evGlobal evFunc fr

abbrev CallF := Nat → List AV → H → Option (AV × H)

def limitOf : IntKind → Nat
  | .i8 => 128
  | .u8 => 256
  | .i16 => 32768
  | .u16 => 65536
  | .i32 => 2147483648
  | .u32 => 4294967296
  | .i64 => 9223372036854775808
  | .u64 => 18446744073709551616

def wrapA (k : IntKind) (n : Int) : Int :=
  match n with
  | .ofNat m => bif Nat.blt m (limitOf k) then .ofNat m else k.wrap n
  | .negSucc _ => k.wrap n

def eqI : Int → Int → Bool
  | .ofNat m, .ofNat n => Nat.beq m n
  | .negSucc m, .negSucc n => Nat.beq m n
  | _, _ => false

def ltI : Int → Int → Bool
  | .ofNat m, .ofNat n => Nat.blt m n
  | .negSucc m, .negSucc n => Nat.blt n m
  | .negSucc _, .ofNat _ => true
  | .ofNat _, .negSucc _ => false

/-- As K n, with n reckoned. -/
def forceN {β : Type} (n : Nat) (K : Nat → β) : β :=
  match n with
  | 0 => K 0
  | m + 1 => K (m + 1)

def forceI {β : Type} (n : Int) (K : Int → β) : β :=
  match n with
  | .ofNat m => forceN m fun m => K (.ofNat m)
  | .negSucc m => forceN m fun m => K (.negSucc m)

/-- What an operation answers, and the memory behind it. -/
abbrev R := Option (AV × H)

def val (h : H) (r : Option AV) : R :=
  Option.casesOn (motive := fun _ => R) r none (fun v => some (v, h))

def newB (h : H) (o : AO) (k : Id → AV) : R := some (k h.nx, ⟨T.put (some o) h.nx h.t, inc h.nx⟩)

def rowAt (h : H) (b : Id) : Option Row :=
  match T.get b h.t with
  | some (.cells row) => some row
  | _ => none

def putL : List AV → Nat → T AV → T AV
  | [], _, t => t
  | v :: l, o, t => putL l (o + 1) (T.put (some v) (slot o) t)

def rowOf (l : List AV) : Row := ⟨putL l 0 .nil, l.length⟩

def getR (row : Row) (o : Nat) : Option AV := cnd (Nat.ble row.n o) none (T.get (slot o) row.t)

def getL (t : T AV) : Nat → Nat → Option (List AV)
  | _, 0 => some []
  | o, n + 1 => match T.get (slot o) t with
    | some v => match getL t (o + 1) n with
      | some l => some (v :: l)
      | none => none
    | none => none

def takeR (row : Row) (o n : Nat) : Option (List AV) := cnd (Nat.ble (o + n) row.n) (getL row.t o n) none

/-- Cells put into a row; none: they do not fit, or one is none. -/
def spliceR (row : Row) (o : Nat) (cs : List AV) : Option Row :=
  cnd (Nat.ble (o + cs.length) row.n && cs.all isCell) (some ⟨putL cs o row.t, row.n⟩) none

def take' (row : List AV) (o n : Nat) : Option (List AV) :=
  let l := (row.drop o).take n
  if l.length = n then some l else none

/-- Cells put into a list. -/
def splice (row : List AV) (o : Nat) (cs : List AV) : Option (List AV) :=
  if o + cs.length ≤ row.length && cs.all isCell then some (row.take o ++ cs ++ row.drop (o + cs.length)) else none

def xload (P : Program) (t : TypeId) (a : AV) (h : H) : Option AV :=
  match a with
  | .ptr b o => match rowAt h b with
    | some row => match isAggT P t with
      | some true => match sizeT P t with
        | some n => match takeR row o n with
          | some l => some (.agg l)
          | none => none
        | none => none
      | some false => getR row o
      | none => none
    | none => none
  | _ => none

def putRow (h : H) (b : Id) (row : Row) : H := ⟨T.put (some (.cells row)) b h.t, h.nx⟩

def xstore (P : Program) (t : TypeId) (a v : AV) (h : H) : Option H :=
  match a with
  | .ptr b o => match rowAt h b with
    | some row => match sizeT P t with
      | some n => if (cellsOf v).length = n then
          match spliceR row o (cellsOf v) with
          | some row' => some (putRow h b row')
          | none => none
        else none
      | none => none
    | none => none
  | _ => none

def undefA : AV := .tup []

/-- Parts put into a zero value's cells. -/
def xfill (place : Nat → Option (Nat × Nat)) (cells : List AV) : List (Nat × AV) → Option (List AV)
  | [] => some cells
  | (i, v) :: rest => match place i with
    | none => none
    | some (off, size) =>
      let cs := cellsOf v
      if cs.length = size then
        match splice cells off cs with
        | some c => xfill place c rest
        | none => none
      else none

def evParts (fr : Fr) : List (Nat × Operand) → Option (List (Nat × AV))
  | [] => some []
  | (i, x) :: rest => match ev fr x with
    | some v => match evParts fr rest with
      | some l => some ((i, v) :: l)
      | none => none
    | none => none

def xbuild (P : Program) (t : TypeId) (parts : List (Nat × AV)) : Option AV :=
  match zeroT P t with
  | some z => match P.underlying t with
    | some (.struct fields) =>
      match mapO (fun f => match sizeT P f.type with | some n => some (f.offset, n) | none => none) fields.toList with
      | some places => match xfill (fun i => places[i]?) (cellsOf z) parts with
        | some c => some (.agg c)
        | none => none
      | none => none
    | some (.array _ elem) => match sizeT P elem with
      | some size => match xfill (fun i => some (i * size, size)) (cellsOf z) parts with
        | some c => some (.agg c)
        | none => none
      | none => none
    | _ => none
  | none => none

def reps (l : List AV) : Nat → List AV
  | 0 => []
  | n + 1 => l ++ reps l n

def xbuildSlice (P : Program) (t : TypeId) (len : Nat) (parts : List (Nat × AV)) (h : H) : R :=
  match P.underlying t with
  | some (.slice elem) => match sizeT P elem with
    | some size => if 0 < size ∧ len * size ≤ 2 ^ 24 then
        match zeroT P elem with
        | some z => if (cellsOf z).length = size then
            match xfill (fun i => some (i * size, size)) (reps (cellsOf z) len) parts with
            | some c => newB h (.cells (rowOf c)) (fun b => .slc b 0 len len size)
            | none => none
          else none
        | none => none
      else none
    | none => none
  | _ => none

def xslice (P : Program) (t : TypeId) (x : AV) (lo hi mx : Option AV) : Option AV :=
  let num : AV → Option Nat := fun | .int _ n => if 0 ≤ n then some n.toNat else none | _ => none
  match P.underlying t with
  | some .string => match x, mx with
    | .str s, none =>
      match (match hi with | some v => num v | none => some s.length) with
      | some hh => match (match lo with | some v => num v | none => some 0) with
        | some l => if l ≤ hh ∧ hh ≤ s.length then some (.str ((s.take hh).drop l)) else none
        | none => none
      | none => none
    | _, _ => none
  | some (.slice elem) => match sizeT P elem with
    | some size =>
      match (match x with | .slc b o n c z => if z = size then some (some b, o, n, c) else none | .snil => some (none, 0, 0, 0) | _ => none) with
      | some (b, o, n, c) =>
        match (match mx with | some v => num v | none => some c) with
        | some m => match (match hi with | some v => num v | none => if mx.isSome then none else some n) with
          | some hh => match (match lo with | some v => num v | none => some 0) with
            | some l => if l ≤ hh ∧ hh ≤ m ∧ m ≤ c then
                match b with
                | some b => some (.slc b (o + l * size) (hh - l) (m - l) size)
                | none => some .snil
              else none
            | none => none
          | none => none
        | none => none
      | none => none
    | none => none
  | _ => none

def xfieldAddr (P : Program) (s : TypeId) (x : AV) (f : Nat) : Option AV :=
  match x with
  | .ptr b o => match P.underlying s with
    | some (.struct fields) => match fields[f]? with
      | some fd => match sizeT P fd.type with
        | some (_ + 1) => some (.ptr b (o + fd.offset))
        | _ => none
      | none => none
    | _ => none
  | _ => none

def xpart (P : Program) (t : TypeId) (cs : List AV) (off : Nat) : Option AV :=
  match isAggT P t with
  | some true => match sizeT P t with
    | some n => match take' cs off n with
      | some l => some (.agg l)
      | none => none
    | none => none
  | some false => cs[off]?
  | none => none

def xfield (P : Program) (s : TypeId) (x : AV) (f : Nat) : Option AV :=
  match x with
  | .agg cs => match P.underlying s with
    | some (.struct fields) => match fields[f]? with
      | some fd => xpart P fd.type cs fd.offset
      | none => none
    | _ => none
  | _ => none

def xindexAddr (P : Program) (t : TypeId) (x i : AV) : Option AV :=
  match i with
  | .int _ i => match P.underlying t with
    | some (.array len elem) => match x with
      | .ptr b o => match sizeT P elem with
        | some size => if 0 ≤ i ∧ i < len then some (.ptr b (o + i.toNat * size)) else none
        | none => none
      | _ => none
    | some (.slice elem) => match x with
      | .slc b o n _ z => match sizeT P elem with
        | some size => if z = size ∧ 0 ≤ i ∧ i < n then some (.ptr b (o + i.toNat * size)) else none
        | none => none
      | _ => none
    | _ => none
  | _ => none

def xindex (P : Program) (t : TypeId) (x i : AV) : Option AV :=
  match i with
  | .int _ i => match P.underlying t with
    | some (.array len elem) => match x with
      | .agg cs => match sizeT P elem with
        | some size => if 0 ≤ i ∧ i < len then xpart P elem cs (i.toNat * size) else none
        | none => none
      | _ => none
    | some .string => match x with
      | .str s => if 0 ≤ i then match s[i.toNat]? with | some b => some (.int .u8 b) | none => none else none
      | _ => none
    | _ => none
  | _ => none

/-- What keys are: 0: integers, 1: strings, 2: structs. -/
def keyKind (P : Program) (kt : TypeId) : Option Nat :=
  match P.underlying kt with
  | some (.int _) => some 0
  | some .string => some 1
  | some (.struct _) => some 2
  | _ => none

/-- Are two keys the same? -/
def keq (P : Program) (kt : TypeId) (kk : Nat) (a b : AV) : Option Bool :=
  match kk with
  | 0 => (match a, b with
    | .int j m, .int k n => if j = k then some (m == n) else none
    | _, _ => none)
  | 1 => (match a, b with
    | .str s, .str t => some (s == t)
    | _, _ => none)
  | _ => (match toV 20 a with
    | some x => match toV 20 b with
      | some y => (match runPure P (Op.equal kt x y) with
        | some true => if Instr.sameBits 10000 y x then some true else none
        | r => r)
      | none => none
    | none => none)

def xfind (P : Program) (kt : TypeId) (kk : Nat) (k : AV) : List (AV × AV × Nat) → Nat → Option (Option (Nat × AV × Nat))
  | [], _ => some none
  | (k', v, bn) :: es, i => match keq P kt kk k k' with
    | some true => some (some (i, v, bn))
    | some false => xfind P kt kk k es (i + 1)
    | none => none

def keyOk (P : Program) (kt : TypeId) (kk : Nat) (k : AV) : Bool :=
  match kk with
  | 0 => (match k with | .int .. => true | _ => false)
  | 1 => (match k with | .str _ => true | _ => false)
  | _ => (match toV 20 k with
    | some x => (runPure P (Instr.checkKey true 10000 kt x)).isSome && (runPure P (Instr.checkKey false 10000 kt x)).isSome
    | none => false)

def mapAt (h : H) (b : Id) : Option (List (AV × AV × Nat) × Nat) :=
  match T.get b h.t with
  | some (.omap es c) => some (es, c)
  | _ => none

def xlookup (P : Program) (t : TypeId) (x k : AV) (ok : Bool) (h : H) : Option AV :=
  match P.underlying t with
  | some (.map kt et) => match keyKind P kt with
    | some kk => if keyOk P kt kk k then
        match (match x with | .mnil => some [] | .map b => (match mapAt h b with | some (es, _) => some es | none => none) | _ => none) with
        | some es => match xfind P kt kk k es 0 with
          | some (some (_, v, _)) => some (if ok then .tup [v, .bool true] else v)
          | some none => match zeroT P et with
            | some z => some (if ok then .tup [z, .bool false] else z)
            | none => none
          | none => none
        | none => none
      else none
    | none => none
  | _ => none

def putMap (h : H) (b : Id) (es : List (AV × AV × Nat)) (c : Nat) : H := ⟨T.put (some (.omap es c)) b h.t, h.nx⟩

def setVal (v : AV) : List (AV × AV × Nat) → Nat → List (AV × AV × Nat)
  | [], _ => []
  | (k, _, bn) :: es, 0 => (k, v, bn) :: es
  | e :: es, i + 1 => e :: setVal v es i

/-- An entry with another key, and another value. -/
def setKV (k v : AV) : List (AV × AV × Nat) → Nat → List (AV × AV × Nat)
  | [], _ => []
  | (_, _, bn) :: es, 0 => (k, v, bn) :: es
  | e :: es, i + 1 => e :: setKV k v es i

def xmapUpdate (P : Program) (t : TypeId) (m k v : AV) (h : H) : Option H :=
  match P.underlying t with
  | some (.map kt _) => match keyKind P kt with
    | some kk => if keyOk P kt kk k then
        match m with
        | .map b => match mapAt h b with
          | some (es, c) => match xfind P kt kk k es 0 with
            | some (some (i, _, _)) => some (putMap h b (setKV k v es i) c)
            | some none => some (putMap h b (es ++ [(k, v, c)]) (c + 1))
            | none => none
          | none => none
        | _ => none
      else none
    | none => none
  | _ => none

def xmapEntry (P : Program) (t : TypeId) (m k : AV) (h : H) : R :=
  match P.underlying t with
  | some (.map kt et) => match keyKind P kt with
    | some kk => if keyOk P kt kk k then
        match m with
        | .map b => match mapAt h b with
          | some (es, c) => match xfind P kt kk k es 0 with
            | some (some (i, v, bn)) => some (.tup [v, .int .i64 bn], putMap h b (setKV k v es i) c)
            | some none => match zeroT P et with
              | some z => some (.tup [z, .int .i64 c], putMap h b (es ++ [(k, z, c)]) (c + 1))
              | none => none
            | none => none
          | none => none
        | _ => none
      else none
    | none => none
  | _ => none

def bornAt (n : Int) : List (AV × AV × Nat) → Nat → Option Nat
  | [], _ => none
  | (_, _, bn) :: es, i => if (bn : Int) == n then some i else bornAt n es (i + 1)

def xentryStore (m s v : AV) (h : H) : Option H :=
  match m, s with
  | .map b, .int _ n => match mapAt h b with
    | some (es, c) => match bornAt n es 0 with
      | some i => some (putMap h b (setVal v es i) c)
      | none => none
    | none => none
  | _, _ => none

def xdelete (P : Program) (t : TypeId) (m k : AV) (h : H) : Option H :=
  match P.underlying t with
  | some (.map kt _) => match keyKind P kt with
    | some kk => if keyOk P kt kk k then
        match m with
        | .mnil => some h
        | .map b => match mapAt h b with
          | some (es, c) => match xfind P kt kk k es 0 with
            | some (some (i, _, _)) => some (putMap h b (es.eraseIdx i) c)
            | some none => some h
            | none => none
          | none => none
        | _ => none
      else none
    | none => none
  | _ => none

def xrange (P : Program) (t : TypeId) (x : AV) (h : H) : R :=
  match P.underlying t with
  | some (.map _ _) => match x with
    | .mnil => newB h (.iter none 0 [] 0) (fun b => .ptr b 0)
    | .map m => match mapAt h m with
      | some (_, c) => newB h (.iter (some m) c [] c) (fun b => .ptr b 0)
      | none => none
    | _ => none
  | _ => none

def xnext (it : AV) (isString : Bool) (h : H) : R :=
  if isString then none else
  match it with
  | .ptr r 0 => match T.get r h.t with
    | some (.iter none _ _ _) => some (.tup [.bool false], h)
    | some (.iter (some m) since seen last) => match mapAt h m with
      | some (es, clock) =>
        if !seen.isEmpty && !es.isEmpty && es.all (fun e => decide (e.2.2 ≥ last)) then none else
        match es.filter (fun e => !seen.contains e.2.2) with
        | [] => some (.tup [.bool false], h)
        | [(k, v, bn)] => if bn < since then some (.tup [.bool true, k, v], ⟨T.put (some (.iter (some m) since (seen ++ [bn]) clock)) r h.t, h.nx⟩) else none
        | _ => none
      | none => none
    | _ => none
  | _ => none

def xentry (it : AV) (h : H) : Option AV :=
  match it with
  | .ptr r 0 => match T.get r h.t with
    | some (.iter (some m) _ seen stepped) => match seen.getLast? with
      | some stamp => match mapAt h m with
        | some (es, clock) => if clock = stepped then
            match es.find? (fun e => e.2.2 == stamp) with
            | some (k, v, _) => some (.tup [k, v])
            | none => none
          else none
        | none => none
      | none => none
    | _ => none
  | _ => none

def xextract (x : AV) (i : Nat) : Option AV :=
  match x with
  | .tup vs => vs[i]?
  | _ => none

def bytesOf : List AV → Option (List Nat)
  | [] => some []
  | .int .u8 n :: l => match bytesOf l with
    | some r => some (n.toNat % 256 :: r)
    | none => none
  | _ => none

def u8s (s : List Nat) : List AV := s.map fun (b : Nat) => .int .u8 (b : Int)

/-- The first so many cells of a slice or a string. -/
def firstA (size n : Nat) (x : AV) (h : H) : Option (List AV) :=
  match x with
  | .slc b o len _ z => if z = size ∧ n ≤ len then (match rowAt h b with | some row => takeR row o (n * size) | none => none) else none
  | .snil => if n = 0 then some [] else none
  | .str s => if size = 1 ∧ n ≤ s.length then some (u8s (s.take n)) else none
  | _ => none

def lenA : AV → Option Nat
  | .slc _ _ n _ _ => some n
  | .snil => some 0
  | .str s => some s.length
  | _ => none

def killB (h : H) (b : Id) : H := ⟨T.put none b h.t, h.nx⟩

/-- Has a type's zero value so many cells? -/
def zeroOk (P : Program) (t : TypeId) (n : Nat) : Bool :=
  match zeroT P t with
  | some z => (cellsOf z).length == n
  | none => false

/-- Is what is appended a slice or a string? -/
def plainX (P : Program) (argTypes : Array TypeId) : Bool :=
  match argTypes[1]? with
  | some xt => (match P.underlying xt with | some (.int _) => false | some _ => true | none => false)
  | none => true

def xappend (P : Program) (argTypes : Array TypeId) (s x : AV) (h : H) : R :=
  match argTypes[0]? with
  | some st => match P.underlying st with
    | some (.slice elem) => match P.info? elem with
      | some info =>
        if 0 < info.size ∧ info.bytes ≤ 65536 ∧ zeroOk P elem info.size = true ∧ plainX P argTypes = true then
          match lenA x with
          | some n => match firstA info.size n x h with
            | some new => if new.all isCell then
              match s with
              | .snil => if n = 0 then some (.snil, h) else if n ≤ 16777216 then newB h (.cells (rowOf new)) (fun b => .slc b 0 n n info.size) else none
              | .slc b o len c z => if z = info.size then
                  match rowAt h b with
                  | some row =>
                    if len + n ≤ c then
                      match spliceR row (o + len * z) new with
                      | some row' => some (.slc b o (len + n) c z, putRow h b row')
                      | none => none
                    else if len + n ≤ 16777216 then
                      if o = 0 ∧ len * z ≤ row.n then newB (killB h b) (.cells ⟨putL new (len * z) row.t, (len + n) * z⟩) (fun b' => .slc b' 0 (len + n) (len + n) z)
                      else match takeR row o (len * z) with
                        | some old => newB (killB h b) (.cells (rowOf (old ++ new))) (fun b' => .slc b' 0 (len + n) (len + n) z)
                        | none => none
                    else none
                  | none => none
                else none
              | _ => none
              else none
            | none => none
          | none => none
        else none
      | none => none
    | _ => none
  | none => none

def xcopy (P : Program) (argTypes : Array TypeId) (d s : AV) (h : H) : R :=
  match argTypes[0]? with
  | some dt => match P.underlying dt with
    | some (.slice elem) => match sizeT P elem with
      | some size => match lenA s, lenA d with
        | some m, some k =>
          let n := Nat.min m k
          match firstA size n s h with
          | some cs => if cs.all isCell then
            match d with
            | .snil => some (.int .i64 n, h)
            | .slc b o _ _ z => if z = size then
                (if n = 0 then some (.int .i64 n, h) else
                match rowAt h b with
                | some row => match spliceR row o cs with
                  | some row' => some (.int .i64 n, putRow h b row')
                  | none => none
                | none => none)
              else none
            | _ => none
            else none
          | none => none
        | _, _ => none
      | none => none
    | _ => none
  | none => none

def xclear (P : Program) (argTypes : Array TypeId) (x : AV) (h : H) : R :=
  match argTypes[0]? with
  | some t => match P.underlying t with
    | some (.slice elem) => match x with
      | .snil => some (.tup [], h)
      | .slc b o n _ z => match sizeT P elem with
        | some size => if z = size then
            (if n = 0 then some (.tup [], h) else
            match zeroT P elem with
            | some zv => if (cellsOf zv).length = size then
                match rowAt h b with
                | some row => match spliceR row o (reps (cellsOf zv) n) with
                  | some row' => some (.tup [], putRow h b row')
                  | none => none
                | none => none
              else none
            | none => none)
          else none
        | none => none
      | _ => none
    | _ => none
  | none => none

def xlen (P : Program) (argTypes : Array TypeId) (x : AV) (h : H) : Option AV :=
  match argTypes[0]? with
  | some t => match P.underlying t with
    | some .string => (match x with | .str s => some (.int .i64 s.length) | _ => none)
    | some (.array n _) => some (.int .i64 n)
    | some (.slice _) => (match x with | .slc _ _ n _ _ => some (.int .i64 n) | .snil => some (.int .i64 0) | _ => none)
    | some (.map _ _) => (match x with | .mnil => some (.int .i64 0) | .map b => (match mapAt h b with | some (es, _) => some (.int .i64 es.length) | none => none) | _ => none)
    | _ => none
  | none => none

/-- What a model's computation over values without addresses answers. -/
def viaP (P : Program) (s : Sem Value) : Option AV :=
  match runPure P s with
  | some v => ofV 20 v
  | none => none

def via1 (P : Program) (x : AV) (s : Value → Sem Value) : Option AV :=
  match toV 20 x with
  | some v => viaP P (s v)
  | none => none

def via2 (P : Program) (x y : AV) (s : Value → Value → Sem Value) : Option AV :=
  match toV 20 x with
  | some v => match toV 20 y with
    | some u => viaP P (s v u)
    | none => none
  | none => none

def eqOnly (op : BinOp) (is : Bool) : Option AV :=
  match op with
  | .eql => some (.bool is)
  | .neq => some (.bool (!is))
  | _ => none

def intRes (k : IntKind) (n : Int) : Option AV := forceI (wrapA k n) fun m => some (.int k m)

def binInt (P : Program) (op : BinOp) (t : TypeId) (k : IntKind) (a b : Int) : Option AV :=
  match op with
  | .add => intRes k (a + b)
  | .sub => intRes k (a - b)
  | .mul => intRes k (a * b)
  | .eql => some (.bool (eqI a b))
  | .neq => some (.bool (!eqI a b))
  | .lss => some (.bool (ltI a b))
  | .leq => some (.bool (!ltI b a))
  | .gtr => some (.bool (ltI b a))
  | .geq => some (.bool (!ltI a b))
  | _ => via2 P (.int k a) (.int k b) (Go.binOp op t)

def binStr (P : Program) (op : BinOp) (t : TypeId) (a b : List Nat) : Option AV :=
  match op with
  | .add => if a.length + b.length ≤ 2 ^ 40 then some (.str (a ++ b)) else none
  | .eql => some (.bool (a == b))
  | .neq => some (.bool (!(a == b)))
  | _ => via2 P (.str a) (.str b) (Go.binOp op t)

def binPtr (P : Program) (op : BinOp) (t : TypeId) (y : AV) : Option AV :=
  match P.underlying t with
  | some (.pointer _) => (match y with | .pnil => eqOnly op false | _ => none)
  | _ => none

def binPnil (P : Program) (op : BinOp) (t : TypeId) (y : AV) : Option AV :=
  match P.underlying t with
  | some (.pointer _) => (match y with | .pnil => eqOnly op true | .ptr _ _ => eqOnly op false | _ => none)
  | _ => none

def binSlc (P : Program) (op : BinOp) (t : TypeId) (y : AV) : Option AV :=
  match P.underlying t with
  | some (.slice _) => (match y with | .snil => eqOnly op false | _ => none)
  | _ => none

def binSnil (P : Program) (op : BinOp) (t : TypeId) (y : AV) : Option AV :=
  match P.underlying t with
  | some (.slice _) => (match y with | .snil => eqOnly op true | .slc .. => eqOnly op false | _ => none)
  | _ => none

def binBool (P : Program) (op : BinOp) (t : TypeId) (a : Bool) (y : AV) : Option AV :=
  match P.underlying t with
  | some .bool => (match y with | .bool b => eqOnly op (a == b) | _ => none)
  | _ => none

def binAgg (P : Program) (op : BinOp) (t : TypeId) (x y : AV) : Option AV :=
  match y with
  | .agg _ => if P.eqGuardType P.depth t then none else via2 P x y (Go.binOp op t)
  | _ => none

def binFlt (P : Program) (op : BinOp) (t : TypeId) (x y : AV) : Option AV :=
  match y with
  | .flt .. => via2 P x y (Go.binOp op t)
  | _ => none

def binCplx (P : Program) (op : BinOp) (t : TypeId) (x y : AV) : Option AV :=
  match y with
  | .cplx .. => via2 P x y (Go.binOp op t)
  | _ => none

def binIntK (P : Program) (op : BinOp) (t : TypeId) (k : IntKind) (a : Int) (y : AV) : Option AV :=
  match y with
  | .int k' b => if k = k' then binInt P op t k a b else via2 P (.int k a) (.int k' b) (Go.binOp op t)
  | _ => none

def binStrK (P : Program) (op : BinOp) (t : TypeId) (a : List Nat) (y : AV) : Option AV :=
  match y with
  | .str b => binStr P op t a b
  | _ => none

def xbin (P : Program) (op : BinOp) (t : TypeId) (x y : AV) : Option AV :=
  match x with
  | .int k a => binIntK P op t k a y
  | .str a => binStrK P op t a y
  | .bool a => binBool P op t a y
  | .ptr _ _ => binPtr P op t y
  | .pnil => binPnil P op t y
  | .slc .. => binSlc P op t y
  | .snil => binSnil P op t y
  | .agg cs => binAgg P op t (.agg cs) y
  | .flt k b => binFlt P op t (.flt k b) y
  | .cplx k p q => binCplx P op t (.cplx k p q) y
  | _ => none

def xconvB (P : Program) (src e : TypeId) (x : AV) (h : H) : R :=
  match x with
  | .str s => (match P.underlying e with
    | some (.int .u8) => (match P.underlying src with | some _ => newB h (.cells (rowOf (u8s s))) (fun b => .slc b 0 s.length s.length 1) | none => none)
    | _ => none)
  | _ => none

def xconvS (P : Program) (src dst : TypeId) (x : AV) (h : H) : R :=
  match x with
  | .int _ n => match P.underlying dst with
    | some (.int k) => (match P.underlying src with | some _ => val h (intRes k n) | none => none)
    | _ => val h (via1 P x (Go.convert src dst))
  | .flt .. => val h (via1 P x (Go.convert src dst))
  | .cplx .. => val h (via1 P x (Go.convert src dst))
  | .str s => match P.underlying dst with
    | some .string => (match P.underlying src with | some _ => some (.str s, h) | none => none)
    | _ => none
  | .snil => match P.underlying src, P.underlying dst with
    | some (.slice e), some .string => (match P.underlying e with | some (.int .u8) => some (.str [], h) | _ => none)
    | _, _ => none
  | .slc b o n _ z => match P.underlying src, P.underlying dst with
    | some (.slice e), some .string => match P.underlying e with
      | some (.int .u8) => if z = 1 then
          (if n = 0 then some (.str [], h) else
          match rowAt h b with
          | some row => match takeR row o n with
            | some l => match bytesOf l with
              | some s => some (.str s, h)
              | none => none
            | none => none
          | none => none)
        else none
      | _ => none
    | _, _ => none
  | _ => none

def xconv (P : Program) (src dst : TypeId) (x : AV) (h : H) : R :=
  match P.underlying dst with
  | some (.slice e) => xconvB P src e x h
  | _ => xconvS P src dst x h

def evAll (fr : Fr) (l : List Operand) : Option (List AV) := mapO (ev fr) l

def evO (fr : Fr) : Option Operand → Option (Option AV)
  | none => some none
  | some x => match ev fr x with | some v => some (some v) | none => none

def xbuiltin (P : Program) (b : Builtin) (argTypes : Array TypeId) (type : TypeId) (args : List AV) (h : H) : R :=
  match b, args with
  | .append, [s, x] => xappend P argTypes s x h
  | .append, [_] => none
  | .copy, [d, s] => xcopy P argTypes d s h
  | .clear, [x] => xclear P argTypes x h
  | .delete, [m, k] => match argTypes[0]? with
    | some t => (match xdelete P t m k h with | some h' => some (.tup [], h') | none => none)
    | none => none
  | .len, [x] => val h (xlen P argTypes x h)
  | .complex, [x, y] => val h (via2 P x y fun u v => Builtin.complex_ argTypes type #[u, v])
  | .real, [x] => val h (via1 P x fun u => Builtin.real_ argTypes type #[u])
  | .imag, [x] => val h (via1 P x fun u => Builtin.imag_ argTypes type #[u])
  | .min, [x, y] => val h (via2 P x y fun u v => Builtin.min_ argTypes type #[u, v])
  | .max, [x, y] => val h (via2 P x y fun u v => Builtin.max_ argTypes type #[u, v])
  | _, _ => none

def opMove (x : Operand) (_P : Program) (_K : CallF) (_type : TypeId) (fr : Fr) (h : H) : R := val h (ev fr x)

def opAssign (x : Operand) (_P : Program) (_K : CallF) (_type : TypeId) (fr : Fr) (h : H) : R := val h (ev fr x)

def opPick (c a b : Operand) (_P : Program) (_K : CallF) (_type : TypeId) (fr : Fr) (h : H) : R := match ev fr c with
    | some (.bool true) => val h (ev fr a)
    | some (.bool false) => val h (ev fr b)
    | _ => none

def opAlloc (t : TypeId) (P : Program) (_K : CallF) (_type : TypeId) (_fr : Fr) (h : H) : R := match zeroT P t with
    | some z => newB h (.cells (rowOf (cellsOf z))) (fun b => .ptr b 0)
    | none => none

def opBox (_t : TypeId) (x : Operand) (_P : Program) (_K : CallF) (_type : TypeId) (fr : Fr) (h : H) : R := match ev fr x with
    | some v => newB h (.cells (rowOf (cellsOf v))) (fun b => .ptr b 0)
    | none => none

def opBuild (t : TypeId) (parts : Array (Nat × Operand)) (P : Program) (_K : CallF) (_type : TypeId) (fr : Fr) (h : H) : R := match evParts fr parts.toList with
    | some l => val h (xbuild P t l)
    | none => none

def opBuildSlice (t : TypeId) (len : Nat) (parts : Array (Nat × Operand)) (P : Program) (_K : CallF) (_type : TypeId) (fr : Fr) (h : H) : R := match evParts fr parts.toList with
    | some l => xbuildSlice P t len l h
    | none => none

def opInsert (t : TypeId) (m k x : Operand) (P : Program) (_K : CallF) (_type : TypeId) (fr : Fr) (h : H) : R := match ev fr m, ev fr k, ev fr x with
    | some a, some b, some c => (match xmapUpdate P t a b c h with | some h' => some (undefA, h') | none => none)
    | _, _, _ => none

def opLoad (t : TypeId) (a : Operand) (P : Program) (_K : CallF) (_type : TypeId) (fr : Fr) (h : H) : R := match ev fr a with
    | some v => val h (xload P t v h)
    | none => none

def opStore (t : TypeId) (a x : Operand) (P : Program) (_K : CallF) (_type : TypeId) (fr : Fr) (h : H) : R := match ev fr a, ev fr x with
    | some p, some v => (match xstore P t p v h with | some h' => some (undefA, h') | none => none)
    | _, _ => none

def opReady (_g : Nat) (_P : Program) (_K : CallF) (_type : TypeId) (_fr : Fr) (_h : H) : R := none

def opWaits (_g : Nat) (_P : Program) (_K : CallF) (_type : TypeId) (_fr : Fr) (_h : H) : R := none

def opNilCheck (x : Operand) (_P : Program) (_K : CallF) (_type : TypeId) (fr : Fr) (h : H) : R := match ev fr x with
    | some (.ptr b o) => some (.ptr b o, h)
    | some (.slc b o n c z) => some (.slc b o n c z, h)
    | some (.fn f a c) => some (.fn f a c, h)
    | _ => none

def opBinOp (op : BinOp) (t : TypeId) (x y : Operand) (_t2 : TypeId) (P : Program) (_K : CallF) (_type : TypeId) (fr : Fr) (h : H) : R := match ev fr x, ev fr y with
    | some a, some b => val h (xbin P op t a b)
    | _, _ => none

def opUnOp (op : UnOp) (_t : TypeId) (x : Operand) (P : Program) (_K : CallF) (_type : TypeId) (fr : Fr) (h : H) : R := match ev fr x with
    | some (.bool b) => (match op with | .not => some (.bool (!b), h) | _ => none)
    | some v => val h (via1 P v (Op.unary op))
    | none => none

def opConvert (src dst : TypeId) (x : Operand) (P : Program) (_K : CallF) (_type : TypeId) (fr : Fr) (h : H) : R := match ev fr x with
    | some v => xconv P src dst v h
    | none => none

def opSliceToArrayPointer (_t : TypeId) (_x : Operand) (_P : Program) (_K : CallF) (_type : TypeId) (_fr : Fr) (_h : H) : R := none

def opMakeInterface (_t : TypeId) (_x : Operand) (_P : Program) (_K : CallF) (_type : TypeId) (_fr : Fr) (_h : H) : R := none

def opMakeFunc (f : Fn) (first caps : Array Operand) (_P : Program) (_K : CallF) (_type : TypeId) (fr : Fr) (h : H) : R :=
  match f with
  | .func f => (match evAll fr first.toList, evAll fr caps.toList with
    | some a, some c => some (.fn f a c, h)
    | _, _ => none)
  | _ => none

def opMakeMap (_t : TypeId) (r : Option Operand) (_P : Program) (_K : CallF) (_type : TypeId) (_fr : Fr) (h : H) : R :=
  match r with
  | none => newB h (.omap [] 0) (fun b => .map b)
  | _ => none

def opMakeChan (_t : TypeId) (_x : Operand) (_P : Program) (_K : CallF) (_type : TypeId) (_fr : Fr) (_h : H) : R := none

def opMakeSlice (t : TypeId) (l c : Operand) (P : Program) (_K : CallF) (_type : TypeId) (fr : Fr) (h : H) : R := match ev fr l, ev fr c with
    | some (.int _ l), some (.int _ c) => match P.underlying t with
      | some (.slice elem) => match P.info? elem with
        | some info => if 0 ≤ l ∧ l ≤ c ∧ c ≤ 16777216 ∧ 0 < info.size ∧ info.bytes ≤ 65536 then
            match zeroT P elem with
            | some z => if (cellsOf z).length = info.size then newB h (.cells (rowOf (reps (cellsOf z) c.toNat))) (fun b => .slc b 0 l.toNat c.toNat info.size) else none
            | none => none
          else none
        | none => none
      | _ => none
    | _, _ => none

def opSlice (t : TypeId) (x : Operand) (lo hi mx : Option Operand) (P : Program) (_K : CallF) (_type : TypeId) (fr : Fr) (h : H) : R := match ev fr x, evO fr lo, evO fr hi, evO fr mx with
    | some v, some l, some u, some m => val h (xslice P t v l u m)
    | _, _, _, _ => none

def opFieldAddr (s : TypeId) (x : Operand) (f : Nat) (P : Program) (_K : CallF) (_type : TypeId) (fr : Fr) (h : H) : R := match ev fr x with
    | some v => val h (xfieldAddr P s v f)
    | none => none

def opField (s : TypeId) (x : Operand) (f : Nat) (P : Program) (_K : CallF) (_type : TypeId) (fr : Fr) (h : H) : R := match ev fr x with
    | some v => val h (xfield P s v f)
    | none => none

def opIndexAddr (t : TypeId) (x i : Operand) (P : Program) (_K : CallF) (_type : TypeId) (fr : Fr) (h : H) : R := match ev fr x, ev fr i with
    | some v, some n => val h (xindexAddr P t v n)
    | _, _ => none

def opIndex (t : TypeId) (x i : Operand) (P : Program) (_K : CallF) (_type : TypeId) (fr : Fr) (h : H) : R := match ev fr x, ev fr i with
    | some v, some n => val h (xindex P t v n)
    | _, _ => none

def opLookup (t : TypeId) (x k : Operand) (ok : Bool) (P : Program) (_K : CallF) (_type : TypeId) (fr : Fr) (h : H) : R := match ev fr x, ev fr k with
    | some v, some u => val h (xlookup P t v u ok h)
    | _, _ => none

def opMapUpdate (t : TypeId) (m k x : Operand) (P : Program) (_K : CallF) (_type : TypeId) (fr : Fr) (h : H) : R := match ev fr m, ev fr k, ev fr x with
    | some a, some b, some c => (match xmapUpdate P t a b c h with | some h' => some (undefA, h') | none => none)
    | _, _, _ => none

def opMapEntry (t : TypeId) (m k : Operand) (P : Program) (_K : CallF) (_type : TypeId) (fr : Fr) (h : H) : R := match ev fr m, ev fr k with
    | some a, some b => xmapEntry P t a b h
    | _, _ => none

def opEntryStore (_t : TypeId) (m s x : Operand) (_P : Program) (_K : CallF) (_type : TypeId) (fr : Fr) (h : H) : R := match ev fr m, ev fr s, ev fr x with
    | some a, some b, some c => (match xentryStore a b c h with | some h' => some (undefA, h') | none => none)
    | _, _, _ => none

def opRange (t : TypeId) (x : Operand) (P : Program) (_K : CallF) (_type : TypeId) (fr : Fr) (h : H) : R := match ev fr x with
    | some v => xrange P t v h
    | none => none

def opNext (it : Operand) (isString : Bool) (_P : Program) (_K : CallF) (_type : TypeId) (fr : Fr) (h : H) : R := match ev fr it with
    | some v => xnext v isString h
    | none => none

def opEntry (it : Operand) (_P : Program) (_K : CallF) (_type : TypeId) (fr : Fr) (h : H) : R := match ev fr it with
    | some v => val h (xentry v h)
    | none => none

def opTypeAssert (_x : Operand) (_t _u : TypeId) (_ok : Bool) (_P : Program) (_K : CallF) (_type : TypeId) (_fr : Fr) (_h : H) : R := none

def opExtract (t : Operand) (i : Nat) (_P : Program) (_K : CallF) (_type : TypeId) (fr : Fr) (h : H) : R := match ev fr t with
    | some v => val h (xextract v i)
    | none => none

def callV (K : CallF) (args : List Operand) (fr : Fr) (h : H) (f : Option AV) : R :=
  match f with
  | some (.fn g first caps) => (match evAll fr args with
    | some l => K g (first ++ l ++ caps) h
    | none => none)
  | _ => none

def callB (b : Builtin) (c : Call) (P : Program) (type : TypeId) (fr : Fr) (h : H) : R :=
  match evAll fr c.args.toList with
  | some l => xbuiltin P b c.argTypes type l h
  | none => none

def opCall (c : Call) (P : Program) (K : CallF) (type : TypeId) (fr : Fr) (h : H) : R :=
  match c.callee with
  | .value f => callV K c.args.toList fr h (ev fr f)
  | .builtin b => callB b c P type fr h
  | _ => none

def opGo (_c : Call) (_P : Program) (_K : CallF) (_type : TypeId) (_fr : Fr) (_h : H) : R := none

def opDefer (_c : Call) (_P : Program) (_K : CallF) (_type : TypeId) (_fr : Fr) (_h : H) : R := none

def opPanic (_x : Operand) (_P : Program) (_K : CallF) (_type : TypeId) (_fr : Fr) (_h : H) : R := none

def opSend (_c _x : Operand) (_P : Program) (_K : CallF) (_type : TypeId) (_fr : Fr) (_h : H) : R := none

def opRecv (_t : TypeId) (_c : Operand) (_ok : Bool) (_P : Program) (_K : CallF) (_type : TypeId) (_fr : Fr) (_h : H) : R := none

def opSelect (_cs : Array SelectCase) (_b : Bool) (_P : Program) (_K : CallF) (_type : TypeId) (_fr : Fr) (_h : H) : R := none

/-- An operation. -/
def xopF (op : Op) : Program → CallF → TypeId → Fr → H → R :=
  Op.casesOn (motive := fun _ => Program → CallF → TypeId → Fr → H → R) op opMove opAssign opPick opAlloc opBox opBuild opBuildSlice opInsert opLoad opStore opReady opWaits opNilCheck opBinOp opUnOp opConvert opSliceToArrayPointer opMakeInterface opMakeFunc opMakeMap opMakeChan opMakeSlice opSlice opFieldAddr opField opIndexAddr opIndex opLookup opMapUpdate opMapEntry opEntryStore opRange opNext opEntry opTypeAssert opExtract opCall opGo opDefer opPanic opSend opRecv opSelect

def xop (P : Program) (K : CallF) (fr : Fr) (h : H) (o : Oper) : R := xopF o.op P K o.type fr h

/-- No call. -/
def noCall : CallF := fun _ _ _ => none

inductive XE where
  | norm
  | exit (id : Nat)
  | goto (l : Nat)
  | ret

/-- What code answers: where it goes on, the slots, the memory. -/
abbrev RC := Option (XE × Fr × H)

def putT (fr : Fr) (d : Option Tmp) (n : Nat) (v : AV) : Option Fr :=
  Option.casesOn (motive := fun _ => Option Fr) d (some fr) (fun d => cnd (Nat.ble n d) none (some (T.put (some v) (slot d) fr)))

def wantedG (ops : Array Oper) (fr : Fr) (g : Nat × Bool) : Option Bool :=
  match ops[g.1]? with
  | some oj => match oj.dst with
    | some d => match T.get (slot d) fr with
      | some (.bool b) => some (b == g.2)
      | some (.tup _) => some false
      | _ => none
    | none => none
  | none => none

/-- Is an operation wanted? none: it cannot be seen. -/
def wantedA (ops : Array Oper) (fr : Fr) (o : Oper) : Option Bool :=
  Option.casesOn (motive := fun _ => Option Bool) o.guard (some true) (wantedG ops fr)

abbrev NextF := Fr → H → Option (Fr × H)

/-- An answer put into its slot; then on. -/
def fin (n : Nat) (next : NextF) (fr : Fr) (d : Option Tmp) (r : R) : Option (Fr × H) :=
  Option.casesOn (motive := fun _ => Option (Fr × H)) r none (fun x => Option.casesOn (motive := fun _ => Option (Fr × H)) (putT fr d n x.1) none (fun fr' => next fr' x.2))

def runW (P : Program) (K : CallF) (n : Nat) (next : NextF) (fr : Fr) (h : H) (o : Oper) (w : Option Bool) : Option (Fr × H) :=
  Option.casesOn (motive := fun _ => Option (Fr × H)) w none (fun b => cnd b (fin n next fr o.dst (xop P K fr h o)) (fin n next fr o.dst (some (undefA, h))))

def seqStep (P : Program) (K : CallF) (n : Nat) (ops : Array Oper) (o : Oper) (next : NextF) (fr : Fr) (h : H) : Option (Fr × H) :=
  runW P K n next fr h o (wantedA ops fr o)

/-- An operation with other operands. -/
def mapOp (g : Operand → Operand) : Op → Op
  | .move x => .move (g x)
  | .assign x => .assign (g x)
  | .pick c a b => .pick (g c) (g a) (g b)
  | .alloc t => .alloc t
  | .box t x => .box t (g x)
  | .build t ps => .build t ⟨ps.toList.map fun x => (x.1, g x.2)⟩
  | .buildSlice t n ps => .buildSlice t n ⟨ps.toList.map fun x => (x.1, g x.2)⟩
  | .insert t m k x => .insert t (g m) (g k) (g x)
  | .load t a => .load t (g a)
  | .store t a x => .store t (g a) (g x)
  | .nilCheck x => .nilCheck (g x)
  | .binOp op t x y t2 => .binOp op t (g x) (g y) t2
  | .unOp op t x => .unOp op t (g x)
  | .convert s d x => .convert s d (g x)
  | .makeFunc f a c => .makeFunc f ⟨a.toList.map g⟩ ⟨c.toList.map g⟩
  | .makeMap t r => .makeMap t (r.map g)
  | .makeSlice t l c => .makeSlice t (g l) (g c)
  | .slice t x l h m => .slice t (g x) (l.map g) (h.map g) (m.map g)
  | .fieldAddr t x f => .fieldAddr t (g x) f
  | .field t x f => .field t (g x) f
  | .indexAddr t x i => .indexAddr t (g x) (g i)
  | .index t x i => .index t (g x) (g i)
  | .lookup t x k ok => .lookup t (g x) (g k) ok
  | .mapUpdate t m k x => .mapUpdate t (g m) (g k) (g x)
  | .mapEntry t m k => .mapEntry t (g m) (g k)
  | .entryStore t m s x => .entryStore t (g m) (g s) (g x)
  | .range t x => .range t (g x)
  | .next x b => .next (g x) b
  | .entry x => .entry (g x)
  | .extract t i => .extract (g t) i
  | .call c => .call ⟨(match c.callee with | .value f => .value (g f) | .invoke r m => .invoke (g r) m | .builtin b => .builtin b), ⟨c.args.toList.map g⟩, c.argTypes⟩
  | o => o

/-- May an operation's operands be others? -/
def mapsOp : Op → Bool
  | .ready _ | .waits _ | .sliceToArrayPointer .. | .makeInterface .. | .makeChan .. | .typeAssert .. | .go _ | .defer _ | .panic _ | .send .. | .recv .. | .select .. => false
  | .call c => (match c.callee with | .builtin .print => false | .builtin .println => false | _ => true)
  | _ => true

abbrev Alias := List (Nat × Operand)

def aliasOf (al : Alias) (t : Nat) : Operand :=
  match al with
  | [] => .tmp t
  | x :: l => cnd (Nat.beq x.1 t) x.2 (aliasOf l t)

def subst (al : Alias) : Operand → Operand
  | .tmp t => aliasOf al t
  | x => x

def isTmp (d : Nat) : Operand → Bool
  | .tmp t => Nat.beq t d
  | _ => false

/-- Operations without the moves into slots of a set: who reads such a slot reads what was moved. -/
def comp (mask n : Nat) : List Oper → Alias → Option (List Oper)
  | [], _ => some []
  | o :: rest, al =>
    if mapsOp o.op then
      match o.dst with
      | none => (match comp mask n rest al with | some l => some ({ o with op := mapOp (subst al) o.op } :: l) | none => none)
      | some d =>
        if mask.testBit d then
          match o.guard with
          | none => (match o.op with
            | .move x => if Nat.ble n d || isTmp d (subst al x) then none else comp mask n rest ((d, subst al x) :: al.filter fun y => !(isTmp d y.2 || Nat.beq y.1 d))
            | _ => none)
          | some _ => none
        else (match comp mask n rest (al.filter fun x => !(isTmp d x.2 || Nat.beq x.1 d)) with | some l => some ({ o with op := mapOp (subst al) o.op } :: l) | none => none)
    else none

def xseqOps (P : Program) (K : CallF) (n : Nat) (ops : Array Oper) (l : List Oper) : NextF :=
  List.rec (motive := fun _ => NextF) (fun fr h => some (fr, h)) (fun o _ ih => seqStep P K n ops o ih) l

/-! ### a region that draws its order -/

def AV.same : Nat → AV → AV → Bool
  | 0, _, _ => false
  | _ + 1, .bool a, .bool b => a == b
  | _ + 1, .int j m, .int k n => decide (j = k) && m == n
  | _ + 1, .flt j m, .flt k n => decide (j = k) && m == n
  | _ + 1, .cplx j m p, .cplx k n q => decide (j = k) && m == n && p == q
  | _ + 1, .str a, .str b => a == b
  | _ + 1, .ptr a m, .ptr b n => a == b && m == n
  | _ + 1, .pnil, .pnil => true
  | _ + 1, .slc a m n c z, .slc a' m' n' c' z' => a == a' && m == m' && n == n' && c == c' && z == z'
  | _ + 1, .snil, .snil => true
  | _ + 1, .map a, .map b => a == b
  | _ + 1, .mnil, .mnil => true
  | f + 1, .fn g a c, .fn g' a' c' => g == g' && sameL (AV.same f) a a' && sameL (AV.same f) c c'
  | _ + 1, .fnil, .fnil => true
  | _ + 1, .inil, .inil => true
  | f + 1, .agg a, .agg b => sameL (AV.same f) a b
  | f + 1, .tup a, .tup b => sameL (AV.same f) a b
  | _ + 1, _, _ => false
where
  sameL (g : AV → AV → Bool) : List AV → List AV → Bool
    | [], [] => true
    | a :: as, b :: bs => g a b && sameL g as bs
    | _, _ => false

/-- 0: an operation that leaves the memory as it is, and does not look at it; 1: it makes a block, and nothing else; 2: an effect; 3: it leaves the memory as it is, and looks at it. -/
def classOf (P : Program) (o : Oper) : Nat :=
  match o.op with
  | .move _ | .assign _ | .pick .. | .build .. | .nilCheck _ | .binOp .. | .unOp .. | .makeFunc .. | .slice .. | .fieldAddr .. | .field .. | .indexAddr .. | .index .. | .extract .. => 0
  | .load .. | .lookup .. => 3
  | .convert _ dst _ => match P.underlying dst with
    | some (.slice _) => 1
    | _ => 3
  | .call { callee := .builtin .len, .. } => 3
  | .call { callee := .builtin .min, .. } | .call { callee := .builtin .max, .. } | .call { callee := .builtin .complex, .. } | .call { callee := .builtin .real, .. } | .call { callee := .builtin .imag, .. } => 0
  | .alloc _ | .box .. | .buildSlice .. | .makeMap _ none | .makeSlice .. => 1
  | _ => 2

def opTmp : Operand → List Nat
  | .tmp t => [t]
  | _ => []

/-- The slots that an operation names, its own and its guard's too. -/
def opNames (ops : Array Oper) (o : Oper) : List Nat :=
  o.dst.toList ++ o.op.operands.toList.flatMap opTmp ++ (match o.guard with | some (j, _) => (match ops[j]? with | some oj => oj.dst.toList | none => []) | none => [])

/-- Ahead of each operation: those that must be done (bits). -/
def masks : List Oper → List Nat → List Nat
  | [], acc => acc
  | o :: rest, acc => masks rest (acc ++ [o.after.toList.foldl (fun s e => if Region.binds .any e then s ||| (2 ^ e.on) ||| acc.getD e.on 0 else s) 0])

/-- An operation in a region's order: its number, its class, how many effects must come ahead of it. -/
abbrev Item := Nat × Nat × Nat

/-- The orders of the regions that draw theirs: by function, by region. -/
abbrev Tab := Nat → Nat → List Item

def countBits (m : Nat) : List Nat → Nat
  | [] => 0
  | e :: es => (if m.testBit e then 1 else 0) + countBits m es

/-- Each operation behind those that it waits for, each effect behind all that stands ahead of it. -/
def orderOk (P : Program) (ops : Array Oper) (mask en : List Nat) : Nat → List Item → Bool
  | _, [] => true
  | done, (i, c, a) :: rest => match ops[i]? with
    | some o =>
      o.after.toList.all (fun e => !Region.binds .any e || done.testBit e.on) && !done.testBit i && c == classOf P o && a == countBits (mask.getD i 0) en &&
      (if c == 2 then done &&& (mask.getD i 0) == done else true) && orderOk P ops mask en (done ||| 2 ^ i) rest
    | none => false

/-- Are all that name a slot ordered with who writes it? -/
def namesOk (ops : Array Oper) (mask : List Nat) (all : List (Oper × Nat)) : List (Oper × Nat) → Bool
  | [] => true
  | (o, i) :: rest => (match o.dst with
      | none => true
      | some d => all.all fun x => i == x.2 || !(opNames ops x.1).contains d || ((mask.getD x.2 0).testBit i || (mask.getD i 0).testBit x.2) && !(x.1.dst == some d)) && namesOk ops mask all rest

/-- Does an order fit a region? -/
def planOk (P : Program) (ops : Array Oper) (items : List Item) : Bool :=
  let mask := masks ops.toList []
  let all := ops.toList.zipIdx
  let en := (all.filter fun x => classOf P x.1 == 2).map (·.2)
  orderOk P ops mask en 0 items && namesOk ops mask all all && all.all (fun x => items.any fun y => y.1 == x.2) && all.all (fun x => x.1.after.toList.all fun e => !Region.binds .any e || decide (e.on < x.2))

/-- An order out of a number. -/
def decItems : Nat → Nat → List Item
  | 0, _ => []
  | f + 1, m => match m % 131072 with
    | 0 => []
    | x + 1 => (x / 256, x / 64 % 4, x % 64) :: decItems f (m / 131072)

def assoc2 (f r : Nat) : List (Nat × Nat × Nat) → Nat
  | [] => 0
  | x :: l => cnd (Nat.beq x.1 f && Nat.beq x.2.1 r) x.2.2 (assoc2 f r l)

def made : List Item → Nat
  | [] => 0
  | (_, c, _) :: l => (if c == 1 then 1 else 0) + made l

def evalQ (P : Program) (ops : Array Oper) (fr : Fr) (h : H) (o : Oper) : Option AV :=
  match wantedA ops fr o with
  | some true => match xop P noCall fr h o with
    | some (v, _) => some v
    | none => none
  | some false => some undefA
  | none => none

def agrees (P : Program) (ops : Array Oper) (fr : Fr) (o : Oper) (v : AV) (h : H) : Bool :=
  match evalQ P ops fr h o with
  | some u => AV.same 20 u v
  | none => false

def incs : Nat → Id → Id
  | 0, p => p
  | n + 1, p => incs n (inc p)

def linkAll : List (Id × AO) → H → H
  | [], h => h
  | (b, o) :: l, h => linkAll l ⟨T.put (some o) b h.t, h.nx⟩

/-- The answer of an operation that makes a block, and the block. -/
def evalM (P : Program) (fr : Fr) (b : Id) (o : Oper) : Option (AV × AO) :=
  match xop P noCall fr ⟨.nil, b⟩ o with
  | some (v, h1) => match T.get b h1.t with
    | some o => some (v, o)
    | none => none
  | none => none

def drawQ (P : Program) (n : Nat) (ops : Array Oper) (next : NextF) (k : Nat) (olds : List H) (fr : Fr) (h : H) (o : Oper) (c a : Nat) (w : Bool) : Option (Fr × H) :=
  match (cnd w (match xop P noCall fr h o with | some (v, _) => some v | none => none) (some undefA)) with
  | some v => cnd (!(w && c == 3) || (olds.take (k - a)).all (agrees P ops fr o v)) (fin n next fr o.dst (some (v, h))) none
  | none => none

def xdraw (P : Program) (K : CallF) (n : Nat) (ops : Array Oper) : List Item → Nat → List H → Id → List (Id × AO) → Fr → H → Option (Fr × H)
  | [], _, _, _, links, fr, h => some (fr, linkAll links h)
  | (i, c, a) :: rest, k, olds, b, links, fr, h => match ops[i]? with
    | some o => match wantedA ops fr o with
      | some w =>
        if c == 2 then
          fin n (xdraw P K n ops rest (k + 1) (h :: olds) b []) fr o.dst (cnd w (xop P K fr (linkAll links h) o) (some (undefA, linkAll links h)))
        else if c == 1 then
          cnd w (match evalM P fr b o with
            | some (v, ob) => fin n (xdraw P K n ops rest k olds (inc b) ((b, ob) :: links)) fr o.dst (some (v, h))
            | none => none)
            (fin n (xdraw P K n ops rest k olds (inc b) links) fr o.dst (some (undefA, h)))
        else drawQ P n ops (xdraw P K n ops rest k olds b links) k olds fr h o c a w
      | none => none
    | none => none

def xregion (P : Program) (mask : Nat) (tab : Nat → List Item) (K : CallF) (n : Nat) (id : Nat) (ops : Array Oper) (draw : Bool) (fr : Fr) (h : H) : Option (Fr × H) :=
  cnd draw (match tab id with
    | [] => none
    | x :: l => xdraw P K n ops (x :: l) 0 [] h.nx [] fr ⟨h.t, incs (made (x :: l)) h.nx⟩)
  (match comp mask n ops.toList [] with
    | some l => xseqOps P K n ops l fr h
    | none => none)

abbrev RunF := Bool → Code → Code → Fr → H → RC

/-- What the run of code needs: the program, calls, how many slots, the rest. -/
structure Env where
  P : Program
  mask : Nat
  tab : Nat → List Item
  K : CallF
  n : Nat
  X : RunF

def afterSeq (X : RunF) (b : Code) (r : RC) : RC :=
  Option.casesOn (motive := fun _ => RC) r none (fun x => XE.casesOn (motive := fun _ => RC) x.1 (X false .skip b x.2.1 x.2.2) (fun i => some (.exit i, x.2)) (fun i => some (.goto i, x.2)) (some (.ret, x.2)))

def afterRegion (r : Option (Fr × H)) : RC :=
  Option.casesOn (motive := fun _ => RC) r none (fun x => some (.norm, x))

def afterBlock (id : Nat) (r : RC) : RC :=
  Option.casesOn (motive := fun _ => RC) r none (fun x => XE.casesOn (motive := fun _ => RC) x.1 (some (.norm, x.2)) (fun i => cnd (Nat.beq i id) (some (.norm, x.2)) (some (.exit i, x.2))) (fun i => some (.goto i, x.2)) (some (.ret, x.2)))

def stSkip (_ : Env) (fr : Fr) (h : H) : RC := some (.norm, fr, h)
def stRegion (id : Nat) (ops : Array Oper) (draw : Bool) (E : Env) (fr : Fr) (h : H) : RC := afterRegion (xregion E.P E.mask E.tab E.K E.n id ops draw fr h)
def stSeq (a b : Code) (E : Env) (fr : Fr) (h : H) : RC := afterSeq E.X b (E.X false .skip a fr h)
def stCond (x : Operand) (a b : Code) (E : Env) (fr : Fr) (h : H) : RC :=
  match ev fr x with
  | some (.bool t) => E.X false .skip (cnd t a b) fr h
  | _ => none
def stBlock (id : Nat) (b : Code) (E : Env) (fr : Fr) (h : H) : RC := afterBlock id (E.X false .skip b fr h)
def stLoop (b : Code) (E : Env) (fr : Fr) (h : H) : RC := E.X true (.loop b) b fr h
def stRangeFunc (_ : Operand) (_ : Array Tmp) (_ _ : Code) (_ : Env) (_ : Fr) (_ : H) : RC := none
def stExit (id : Nat) (_ : Env) (fr : Fr) (h : H) : RC := some (.exit id, fr, h)
def stScope (b : Code) (E : Env) (fr : Fr) (h : H) : RC := E.X true (.scope b) b fr h
def stLabel (_ : Nat) (_ : Env) (fr : Fr) (h : H) : RC := some (.norm, fr, h)
def stGoto (l : Nat) (_ : Env) (fr : Fr) (h : H) : RC := some (.goto l, fr, h)
def stRet (_ : Env) (fr : Fr) (h : H) : RC := some (.ret, fr, h)
def stRefuse (_ : String) (_ : Env) (_ : Fr) (_ : H) : RC := none

/-- One step of code. -/
def stepF (c : Code) : Env → Fr → H → RC :=
  Code.casesOn (motive := fun _ => Env → Fr → H → RC) c stSkip stRegion stSeq stCond stBlock stLoop stRangeFunc stExit stScope stLabel stGoto stRet stRefuse

/-- Behind a round of a loop's body or a pass of a scope's. -/
def afterRound (X : RunF) (c0 c : Code) (r : RC) : RC :=
  match r with
  | some (.norm, fr', h') => (match c0 with
    | .loop _ => X true c0 c fr' h'
    | _ => some (.norm, fr', h'))
  | some (.goto l, fr', h') => (match c0 with
    | .scope b => (match findLabel b l with
      | some r => X true c0 r fr' h'
      | none => some (.goto l, fr', h'))
    | _ => some (.goto l, fr', h'))
  | r => r

/-- One step of the run of code; the rest by X, calls by K. -/
def xstep (P : Program) (mask : Nat) (tab : Nat → List Item) (K : CallF) (n : Nat) (X : RunF) (again : Bool) (c0 c : Code) (fr : Fr) (h : H) : RC :=
  cnd again (afterRound X c0 c (X false .skip c fr h)) (stepF c ⟨P, mask, tab, K, n, X⟩ fr h)

def xcode (P : Program) (mask : Nat) (tab : Nat → List Item) (K : CallF) (n : Nat) (f : Nat) : RunF :=
  Nat.rec (motive := fun _ => RunF) (fun _ _ _ _ _ => none) (fun _ ih => xstep P mask tab K n ih) f

def argsFr : List AV → Nat → Fr → Fr
  | [], _, fr => fr
  | a :: l, i, fr => argsFr l (i + 1) (T.put (some a) (slot i) fr)

def xresults (P : Program) (fr : Fr) (h : H) : List ResultVar → Option (List AV)
  | [] => some []
  | .tmp t :: l => match ev fr (.tmp t) with
    | some v => (match xresults P fr h l with | some r => some (v :: r) | none => none)
    | none => none
  | .cell a t :: l => match ev fr (.tmp a) with
    | some p => (match xload P t p h with
      | some v => (match xresults P fr h l with | some r => some (v :: r) | none => none)
      | none => none)
    | none => none

def single : List AV → AV
  | [v] => v
  | l => .tup l

/-- A call of a function: so many calls deep, so many steps in each. -/
def xcall (P : Program) (msk : Nat → Nat) (tab : Tab) (steps : Nat) : Nat → CallF
  | 0 => fun _ _ _ => none
  | d + 1 => fun f args h => match P.funcs[f]? with
    | some fn => match fn.body with
      | some c => cnd (fn.name == "runtime.NumGoroutine" || !(args.length == fn.params.size + fn.nfree) || !(msk f % 2 ^ args.length == 0)) none <| forceN (max args.length fn.ntmps) fun n => forceN (msk f) fun mask =>
        match xcode P mask (tab f) (xcall P msk tab steps d) n steps false .skip c (argsFr args 0 .nil) h with
        | some (.norm, fr, h') => (match xresults P fr h' fn.results.toList with | some l => some (single l, h') | none => none)
        | some (.ret, fr, h') => (match xresults P fr h' fn.results.toList with | some l => some (single l, h') | none => none)
        | _ => none
      | none => none
    | none => none

end
end Go.Proofs.YtpnoifikpmfpdaaDoorX
namespace Go.Proofs.YtpnoifikpmfpdaaDoorX
open Go
set_option linter.unusedVariables false
set_option linter.unusedSimpArgs false
noncomputable section

theorem cnd_true {β : Type} (x y : β) : cnd true x y = x := rfl
theorem cnd_false {β : Type} (x y : β) : cnd false x y = y := rfl
theorem cnd_eq {β : Type} (b : Bool) (x y : β) : cnd b x y = if b = true then x else y := by cases b <;> rfl

/-! ### trees -/
section
variable {α : Type}
theorem T.get_nil (p : Id) : T.get p (.nil : T α) = none := by
  cases p with
  | nil => rfl
  | cons x p => rfl
theorem T.get_put_same (a : Option α) : ∀ (p : Id) (t : T α), T.get p (T.put a p t) = a
  | [], .nil => rfl
  | [], .node .. => rfl
  | .a :: p, .nil => T.get_put_same a p .nil
  | .b :: p, .nil => T.get_put_same a p .nil
  | .c :: p, .nil => T.get_put_same a p .nil
  | .d :: p, .nil => T.get_put_same a p .nil
  | .a :: p, .node _ t _ _ _ => T.get_put_same a p t
  | .b :: p, .node _ _ t _ _ => T.get_put_same a p t
  | .c :: p, .node _ _ _ t _ => T.get_put_same a p t
  | .d :: p, .node _ _ _ _ t => T.get_put_same a p t

theorem T.get_put_ne (a : Option α) : ∀ (p q : Id) (t : T α), p ≠ q → T.get q (T.put a p t) = T.get q t
  | [], [], _, h => (h rfl).elim
  | [], y :: q, .nil, _ => by
    cases y <;> exact T.get_nil q
  | [], y :: q, .node v t0 t1 t2 t3, _ => by cases y <;> rfl
  | x :: p, [], .nil, _ => by cases x <;> rfl
  | x :: p, [], .node v t0 t1 t2 t3, _ => by cases x <;> rfl
  | x :: p, y :: q, .nil, h => by
    have ih := fun (e : p ≠ q) => T.get_put_ne a p q .nil e
    have hn := fun q => T.get_nil (α := α) q
    cases x <;> cases y <;> first
      | exact hn q
      | exact (ih (fun e => h (by rw [e]))).trans (hn q)
  | x :: p, y :: q, .node v t0 t1 t2 t3, h => by
    have ih := fun (t : T α) (e : p ≠ q) => T.get_put_ne a p q t e
    cases x <;> cases y <;> first
      | rfl
      | exact ih _ (fun e => h (by rw [e]))
end

theorem num_inc : ∀ p, num (inc p) = num p + 1
  | [] => rfl
  | .a :: p => by simp [inc, num, D.val]; omega
  | .b :: p => by simp [inc, num, D.val]; omega
  | .c :: p => by simp [inc, num, D.val]; omega
  | .d :: p => by have := num_inc p; simp [inc, num, D.val, this]; omega

theorem num_dig : ∀ (f n : Nat), n ≤ f → num (dig f n) = n
  | 0, n, h => by have : n = 0 := by omega
                  subst this; rfl
  | f + 1, 0, _ => rfl
  | f + 1, m + 1, h => by
    have ih := num_dig f (m / 4) (by omega)
    have hv : (D.of (m % 4)).val = m % 4 := by
      have : m % 4 < 4 := Nat.mod_lt _ (by omega)
      generalize m % 4 = k at this
      match k, this with
      | 0, _ => rfl
      | 1, _ => rfl
      | 2, _ => rfl
      | 3, _ => rfl
    show (D.of (m % 4)).val + 1 + 4 * num (dig f (m / 4)) = m + 1
    rw [hv, ih]; omega

theorem slot_inj {t u : Nat} (h : slot t = slot u) : t = u := by
  have := congrArg num h
  rwa [slot, slot, num_dig _ _ (Nat.le_refl _), num_dig _ _ (Nat.le_refl _)] at this

/-! ### values -/

/-- Where a block of the picture lies: the block, how far in, how many cells the block has. -/
structure Loc where
  blk : Nat
  sh : Nat
  lim : Nat

abbrev Sg := Id → Option Loc

mutual
inductive VR (s : Sg) : AV → Value → Prop
  | bool (b : Bool) : VR s (.bool b) (.bool b)
  | int (k : IntKind) (n : Int) : VR s (.int k n) (.int k n)
  | flt (k : FloatKind) (b : Nat) : VR s (.flt k b) (.float k b)
  | cplx (k : FloatKind) (x y : Nat) : VR s (.cplx k x y) (.complex k x y)
  | str (b : ByteArray) : VR s (.str (b.data.toList.map UInt8.toNat)) (.string b)
  | ptr {b : Id} {l : Loc} (o : Nat) : s b = some l → VR s (.ptr b o) (.pointer (some ⟨l.blk, l.sh + o, none⟩))
  | pnil : VR s .pnil (.pointer none)
  | slc {b : Id} {l : Loc} {o n c c' z : Nat} : s b = some l → n ≤ c → c ≤ c' → l.sh + o + c' * z ≤ l.lim → VR s (.slc b o n c z) (.slice (some ⟨l.blk, l.sh + o, none⟩) n c')
  | slcEnd {b : Id} {o z : Nat} (a : Addr) : VR s (.slc b o 0 0 z) (.slice (some a) 0 0)
  | snil : VR s .snil (.slice none 0 0)
  | map {b : Id} {l : Loc} : s b = some l → VR s (.map b) (.map (some l.blk))
  | mnil : VR s .mnil (.map none)
  | fn (f : Nat) {a c : List AV} {a' c' : List Value} : VRs s a a' → VRs s c c' → VR s (.fn f a c) (.func (.func f) ⟨a'⟩ ⟨c'⟩)
  | fnil : VR s .fnil .nilFunc
  | inil : VR s .inil .nilIface
  | agg {cs : List AV} {cs' : List Value} : VRs s cs cs' → VR s (.agg cs) (.agg ⟨cs'⟩)
  | tup {cs : List AV} {cs' : List Value} : VRs s cs cs' → VR s (.tup cs) (.tuple ⟨cs'⟩)
inductive VRs (s : Sg) : List AV → List Value → Prop
  | nil : VRs s [] []
  | cons {a : AV} {v : Value} {as : List AV} {vs : List Value} : VR s a v → VRs s as vs → VRs s (a :: as) (v :: vs)
end

/-- The later finds all that the elder finds, as it finds it. -/
def Sg.le (s s' : Sg) : Prop := ∀ b l, s b = some l → s' b = some l

theorem Sg.le_refl (s : Sg) : s.le s := fun _ _ h => h
theorem Sg.le_trans {s s' s'' : Sg} (h : s.le s') (k : s'.le s'') : s.le s'' := fun b l e => k b l (h b l e)

mutual
theorem VR.mono {s s' : Sg} (h : s.le s') : ∀ {a : AV} {v : Value}, VR s a v → VR s' a v
  | _, _, .bool b => .bool b
  | _, _, .int k n => .int k n
  | _, _, .flt k b => .flt k b
  | _, _, .cplx k x y => .cplx k x y
  | _, _, .str b => .str b
  | _, _, .ptr o e => .ptr o (h _ _ e)
  | _, _, .pnil => .pnil
  | _, _, .slc e a b c => .slc (h _ _ e) a b c
  | _, _, .slcEnd a => .slcEnd a
  | _, _, .snil => .snil
  | _, _, .map e => .map (h _ _ e)
  | _, _, .mnil => .mnil
  | _, _, .fn f a c => .fn f (VRs.mono h a) (VRs.mono h c)
  | _, _, .fnil => .fnil
  | _, _, .inil => .inil
  | _, _, .agg c => .agg (VRs.mono h c)
  | _, _, .tup c => .tup (VRs.mono h c)
theorem VRs.mono {s s' : Sg} (h : s.le s') : ∀ {a : List AV} {v : List Value}, VRs s a v → VRs s' a v
  | _, _, .nil => .nil
  | _, _, .cons x xs => .cons (VR.mono h x) (VRs.mono h xs)
end

theorem VRs.length {s : Sg} : ∀ {a : List AV} {v : List Value}, VRs s a v → a.length = v.length
  | _, _, .nil => rfl
  | _, _, .cons _ xs => by simp [VRs.length xs]

theorem VRs.get {s : Sg} : ∀ {a : List AV} {v : List Value}, VRs s a v → ∀ (i : Nat) (x : AV), a[i]? = some x → ∃ y, v[i]? = some y ∧ VR s x y
  | _, _, .nil, i, x, h => by simp at h
  | _, _, .cons hx xs, 0, x, h => by simp at h; subst h; exact ⟨_, rfl, hx⟩
  | _, _, .cons hx xs, i + 1, x, h => by simp at h; simpa using VRs.get xs i x h

theorem VRs.append {s : Sg} : ∀ {a b : List AV} {v w : List Value}, VRs s a v → VRs s b w → VRs s (a ++ b) (v ++ w)
  | _, _, _, _, .nil, h => h
  | _, _, _, _, .cons x xs, h => .cons x (VRs.append xs h)

theorem VRs.take {s : Sg} : ∀ {a : List AV} {v : List Value}, VRs s a v → ∀ n, VRs s (a.take n) (v.take n)
  | _, _, .nil, n => by simp; exact .nil
  | _, _, .cons x xs, 0 => by simp; exact .nil
  | _, _, .cons x xs, n + 1 => by simp; exact .cons x (VRs.take xs n)

theorem VRs.drop {s : Sg} : ∀ {a : List AV} {v : List Value}, VRs s a v → ∀ n, VRs s (a.drop n) (v.drop n)
  | _, _, .nil, n => by simp; exact .nil
  | _, _, .cons x xs, 0 => by simp; exact .cons x xs
  | _, _, .cons x xs, n + 1 => by simp; exact VRs.drop xs n

/-- A list of pairs out of two lists of one length. -/
theorem VRs.of_get {s : Sg} : ∀ {a : List AV} {v : List Value}, a.length = v.length → (∀ (i : Nat) (x : AV), a[i]? = some x → ∃ y, v[i]? = some y ∧ VR s x y) → VRs s a v
  | [], [], _, _ => .nil
  | [], _ :: _, h, _ => by simp at h
  | _ :: _, [], h, _ => by simp at h
  | x :: a, y :: v, h, hh => by
    obtain ⟨y', e, hv⟩ := hh 0 x rfl
    simp at e
    subst e
    exact .cons hv (VRs.of_get (by simpa using h) fun i x hx => by simpa using hh (i + 1) x (by simpa using hx))

theorem mapO_get {α β : Type} {g : α → Option β} : ∀ {l : List α} {m : List β}, mapO g l = some m → m.length = l.length ∧ ∀ (i : Nat) (x : α), l[i]? = some x → ∃ y, g x = some y ∧ m[i]? = some y
  | [], m, h => by simp [mapO] at h; subst h; exact ⟨rfl, fun i x hx => by simp at hx⟩
  | a :: l, m, h => by
    simp only [mapO] at h
    cases ha : g a with
    | none => simp [ha] at h
    | some b =>
      cases hl : mapO g l with
      | none => simp [ha, hl] at h
      | some bs =>
        simp [ha, hl] at h
        subst h
        obtain ⟨h1, h2⟩ := mapO_get hl
        refine ⟨by simp [h1], fun i x hx => ?_⟩
        cases i with
        | zero => simp at hx; subst hx; exact ⟨b, ha, rfl⟩
        | succ i => simp at hx; simpa using h2 i x hx

theorem ofV_ok (s : Sg) : ∀ (f : Nat) (v : Value) (a : AV), ofV f v = some a → VR s a v := by
  intro f
  induction f with
  | zero => intro v a h; simp [ofV] at h
  | succ f ih =>
    have hl : ∀ (l : List Value) (m : List AV), mapO (ofV f) l = some m → VRs s m l := fun l m h => by
      obtain ⟨h1, h2⟩ := mapO_get h
      refine VRs.of_get h1 fun i x hx => ?_
      have hi : i < l.length := by
        have := (List.getElem?_eq_some_iff.1 hx).1; omega
      obtain ⟨y, hy, hm⟩ := h2 i l[i] (List.getElem?_eq_getElem hi)
      rw [hx] at hm
      cases hm
      exact ⟨l[i], List.getElem?_eq_getElem hi, ih _ _ hy⟩
    intro v a h
    unfold ofV at h
    split at h <;> (try (simp at h; done)) <;> (try (injection h with h; subst h; constructor; done))
    all_goals try (injection h with h; subst h; first | exact .str _ | exact .fn _ .nil .nil)
    all_goals
      have ef := Nat.succ.inj ‹f + 1 = Nat.succ _›
      subst ef
      split at h <;> first
        | (injection h with h; subst h; rename_i cs _ _ _ hm; first | exact .agg (hl _ _ hm) | exact .tup (hl _ _ hm))
        | (simp at h; done)

/-- A value that is as a picture's value without an address is that value. -/
theorem toV_ok (s : Sg) : ∀ (f : Nat) (a : AV) (v w : Value), toV f a = some v → VR s a w → w = v := by
  intro f
  induction f with
  | zero => intro a v w h; simp [toV] at h
  | succ f ih =>
    have hl : ∀ (m : List AV) (l : List Value) (l' : List Value), mapO (toV f) m = some l → VRs s m l' → l' = l := fun m l l' h hv => by
      obtain ⟨h1, h2⟩ := mapO_get h
      have h3 := hv.length
      refine List.ext_getElem? fun i => ?_
      rcases Nat.lt_or_ge i m.length with hi | hi
      · obtain ⟨y, hy, hm⟩ := h2 i m[i] (List.getElem?_eq_getElem hi)
        obtain ⟨y', e, hr⟩ := hv.get i m[i] (List.getElem?_eq_getElem hi)
        rw [e, hm, ih _ _ _ hy hr]
      · rw [List.getElem?_eq_none (by omega), List.getElem?_eq_none (by omega)]
    intro a v w h hr
    unfold toV at h
    split at h <;> (try (simp at h; done)) <;> (try (injection h with h; subst h; cases hr; rfl; done))
    · injection h with h
      subst h
      cases hr
      rename_i b
      cases b with | mk d =>
      cases d with | mk l =>
      simp [List.map_map]
      symm
      refine (List.map_congr_left (g := id) fun x _ => ?_).trans (List.map_id l)
      simp
    all_goals
      have ef := Nat.succ.inj ‹f + 1 = Nat.succ _›
      subst ef
      split at h
      · injection h with h; subst h; rename_i hm
        cases hr
        rename_i hv
        rw [hl _ _ _ hm hv]
      · simp at h

theorem runPure_ok {α : Type} (P : Program) (w : World) : ∀ (e : Sem α) (a : α), runPure P e = some a → e.run P w = .ok a w := by
  intro e
  induction e with
  | pure a => intro b h; simp [runPure] at h; subst h; rfl
  | program k ih => intro b h; simp only [runPure] at h; simp only [Sem.run]; exact ih _ _ h
  | _ => intro b h; simp [runPure] at h
end
end Go.Proofs.YtpnoifikpmfpdaaDoorX
namespace Go.Proofs.YtpnoifikpmfpdaaDoorX
open Go
set_option linter.unusedVariables false
set_option linter.unusedSimpArgs false
noncomputable section

/-- A world in which one block is another one. -/
def setB (w : World) (g : Nat) (o : Obj) : World := { w with heap := w.heap.setIfInBounds g o }

theorem setB_get (w : World) (g : Nat) (o : Obj) (i : Nat) (h : g < w.heap.size) : (setB w g o).heap[i]? = if i = g then some o else w.heap[i]? := by
  simp only [setB, Array.getElem?_setIfInBounds]
  by_cases e : g = i
  · subst e; simp [h]
  · rw [if_neg e, if_neg (fun x => e x.symm)]

theorem setB_size (w : World) (g : Nat) (o : Obj) : (setB w g o).heap.size = w.heap.size := by simp [setB]

theorem setB_setB (w : World) (g : Nat) (o o' : Obj) : setB (setB w g o) g o' = setB w g o' := by
  simp only [setB]
  congr 1
  refine Array.ext_getElem? fun i => ?_
  simp only [Array.getElem?_setIfInBounds, Array.size_setIfInBounds]
  split <;> simp_all

theorem setB_self (w : World) (g : Nat) (o : Obj) (h : w.heap[g]? = some o) : setB w g o = w := by
  obtain ⟨hlt, he⟩ := Array.getElem?_eq_some_iff.1 h
  have : w.heap.setIfInBounds g o = w.heap := by
    refine Array.ext_getElem? fun i => ?_
    simp only [Array.getElem?_setIfInBounds]
    split
    · rename_i e; subst e; first | exact h.symm | rw [if_pos hlt, h]
    · rfl
  simp only [setB, this]

theorem lt_of_heap {w : World} {g : Nat} {o : Obj} (h : w.heap[g]? = some o) : g < w.heap.size := (Array.getElem?_eq_some_iff.1 h).1

theorem setCell_setB (w : World) (g o : Nat) (v : Value) (cs : Array Value) (e : TypeId) (fr : Nat × Nat) (h : w.heap[g]? = some (.cells cs e fr)) :
    w.setCell ⟨g, o, none⟩ v = setB w g (.cells (cs.setIfInBounds o v) e fr) := by
  simp only [World.setCell, setB]
  congr 1
  obtain ⟨hlt, he⟩ := Array.getElem?_eq_some_iff.1 h
  refine Array.ext_getElem? fun i => ?_
  simp only [Array.getElem?_modify, Array.getElem?_setIfInBounds]
  by_cases hi : g = i
  · subst hi
    rw [if_pos rfl, if_pos rfl, if_pos hlt, h]
    rfl
  · rw [if_neg hi, if_neg hi]

theorem cell_at {w : World} {g o : Nat} {cs : Array Value} {e : TypeId} {fr : Nat × Nat} (h : w.heap[g]? = some (.cells cs e fr)) : w.cell? ⟨g, o, none⟩ = cs[o]? := by
  simp only [World.cell?, h]; rfl

theorem frozen_at {w : World} {g o : Nat} {cs : Array Value} {e : TypeId} {fr : Nat × Nat} (h : w.heap[g]? = some (.cells cs e fr)) : w.frozen? ⟨g, o, none⟩ = (decide (fr.1 ≤ o) && decide (o < fr.2)) := by
  obtain ⟨lo, hi⟩ := fr
  simp only [World.frozen?, h]

theorem add_at (g o n : Nat) : (⟨g, o, none⟩ : Addr).add n = ⟨g, o + n, none⟩ := by
  simp only [Addr.add]
  split
  · subst_vars; rfl
  · rfl

/-- Cells stored one behind the other. -/
theorem run_storeCells' (P : Program) (g o : Nat) (e : TypeId) (fr : Nat × Nat) : ∀ (vs : List Value) (i : Nat) (cs : Array Value) (w : World), w.heap[g]? = some (.cells cs e fr) →
    (∀ j, j < cs.size → ¬ (fr.1 ≤ j ∧ j < fr.2)) → o + i + vs.length ≤ cs.size → (∀ v ∈ vs, v.oneCell' = true) →
    ∃ cs', (storeCells ⟨g, o, none⟩ vs i).run P w = .ok () (setB w g (.cells cs' e fr)) ∧ cs'.size = cs.size ∧
      ∀ j, cs'[j]? = if o + i ≤ j ∧ j < o + i + vs.length then vs[j - (o + i)]? else cs[j]?
  | [], i, cs, w, h, _, _, _ => ⟨cs, by simp only [storeCells, Sem.run_pure, setB_self w g _ h], rfl, fun j => by rw [if_neg (by simp)]⟩
  | v :: vs, i, cs, w, h, hf, hl, hc => by
    have hlt : o + i < cs.size := by simp at hl; omega
    have hcell : w.cell? ⟨g, o + i, none⟩ = some cs[o + i] := by rw [cell_at h, Array.getElem?_eq_getElem hlt]
    have hfr : w.frozen? ⟨g, o + i, none⟩ = false := by
      rw [frozen_at h]
      have := hf (o + i) hlt
      by_cases h1 : fr.1 ≤ o + i <;> by_cases h2 : o + i < fr.2 <;> simp_all
    have h' : (setB w g (.cells (cs.setIfInBounds (o + i) v) e fr)).heap[g]? = some (.cells (cs.setIfInBounds (o + i) v) e fr) := by
      rw [setB_get _ _ _ _ (lt_of_heap h), if_pos rfl]
    obtain ⟨cs', hr, hs, hg⟩ := run_storeCells' P g o e fr vs (i + 1) (cs.setIfInBounds (o + i) v) _ h' (fun j hj => hf j (by simpa using hj)) (by simp at hl ⊢; omega) (fun u hu => hc u (List.mem_cons_of_mem _ hu))
    refine ⟨cs', ?_, by simpa using hs, fun j => ?_⟩
    · simp only [storeCells, Sem.run_bind, add_at]
      rw [run_store P w _ v .plain (hc v (List.mem_cons_self ..))]
      simp only [hcell, hfr, Bool.false_eq_true, if_false, Result.andThen, setCell_setB w g (o + i) v cs e fr h]
      rw [hr, setB_setB]
    · rw [hg j]
      by_cases h1 : o + (i + 1) ≤ j ∧ j < o + (i + 1) + vs.length
      · rw [if_pos h1, if_pos (by simp; omega)]
        rw [show j - (o + i) = (j - (o + (i + 1))) + 1 by omega]
        simp
      · rw [if_neg h1, Array.getElem?_setIfInBounds]
        by_cases h2 : o + i = j
        · subst h2
          rw [if_pos rfl, if_pos hlt, if_pos (by simp)]
          simp
        · rw [if_neg h2, if_neg (by simp; omega)]

/-! ### the picture and the memory -/

/-- Entries of a map, pairwise. -/
inductive ER (s : Sg) : List (AV × AV × Nat) → List MapEntry → Prop
  | nil : ER s [] []
  | cons {k v : AV} {n : Nat} {k' v' : Value} {es : List (AV × AV × Nat)} {es' : List MapEntry} : VR s k k' → VR s v v' → ER s es es' → ER s ((k, v, n) :: es) (⟨k', v', n⟩ :: es')

theorem ER.mono {s s' : Sg} (h : s.le s') : ∀ {es : List (AV × AV × Nat)} {es' : List MapEntry}, ER s es es' → ER s' es es'
  | _, _, .nil => .nil
  | _, _, .cons a b c => .cons (a.mono h) (b.mono h) (ER.mono h c)

/-- A map that is ranged over. -/
def IterM (s : Sg) (m : Option Id) (m' : Option Nat) : Prop :=
  match m with
  | none => m' = none
  | some b => ∃ l', s b = some l' ∧ m' = some l'.blk

def ObjR (s : Sg) (o : AO) (l : Loc) (w : World) : Prop :=
  match o with
  | .cells row => ∃ cs e fr, w.heap[l.blk]? = some (.cells cs e fr) ∧ cs.size = l.lim ∧ l.sh + row.n ≤ l.lim ∧ (∀ j, j < cs.size → ¬ (fr.1 ≤ j ∧ j < fr.2)) ∧
      ∀ i v, i < row.n → T.get (slot i) row.t = some v → ∃ v', cs[l.sh + i]? = some v' ∧ VR s v v'
  | .omap es c => ∃ es', w.heap[l.blk]? = some (.map es' c) ∧ ER s es es'.toList
  | .iter m since seen last => ∃ m', w.heap[l.blk]? = some (.mapIter m' since seen.toArray last) ∧ l.sh = 0 ∧ IterM s m m'

theorem ObjR.mono {s s' : Sg} (h : s.le s') {o : AO} {l : Loc} {w w' : World} (hw : w'.heap[l.blk]? = w.heap[l.blk]?) (k : ObjR s o l w) : ObjR s' o l w' := by
  cases o with
  | cells row =>
    obtain ⟨cs, e, fr, h1, h2, h3, h4, h5⟩ := k
    refine ⟨cs, e, fr, hw.trans h1, h2, h3, h4, fun i v hi hg => ?_⟩
    obtain ⟨v', a, b⟩ := h5 i v hi hg
    exact ⟨v', a, b.mono h⟩
  | omap es c =>
    obtain ⟨es', h1, h2⟩ := k
    exact ⟨es', hw.trans h1, h2.mono h⟩
  | iter m since seen last =>
    obtain ⟨m', h1, h0, h2⟩ := k
    refine ⟨m', hw.trans h1, h0, ?_⟩
    cases m with
    | none => exact h2
    | some b =>
      obtain ⟨l', a, c⟩ := h2
      exact ⟨l', h _ _ a, c⟩

theorem ObjR.lt {s : Sg} {o : AO} {l : Loc} {w : World} (k : ObjR s o l w) : l.blk < w.heap.size := by
  cases o with
  | cells row => obtain ⟨_, _, _, h, _⟩ := k; exact lt_of_heap h
  | omap es c => obtain ⟨_, h, _⟩ := k; exact lt_of_heap h
  | iter m since seen last => obtain ⟨_, h, _⟩ := k; exact lt_of_heap h

/-- The picture's memory h is the world's w, by s. -/
structure HR (s : Sg) (h : H) (w : World) : Prop where
  live : ∀ b o, T.get b h.t = some o → ∃ l, s b = some l ∧ ObjR s o l w
  inj : ∀ b b' o o' l l', T.get b h.t = some o → T.get b' h.t = some o' → s b = some l → s b' = some l' → l.blk = l'.blk → b = b'
  fresh : ∀ b l, s b = some l → num b < num h.nx

/-- A block of the world that is in the picture. -/
def Pic (s : Sg) (h : H) (c : Nat) : Prop := ∃ b o l, T.get b h.t = some o ∧ s b = some l ∧ l.blk = c

/-- From one picture and world to later ones: what is not in the picture stays as it was. -/
structure Grows (s : Sg) (h : H) (w : World) (s' : Sg) (h' : H) (w' : World) : Prop where
  le : s.le s'
  keep : ∀ b, num b < num h.nx → s' b = s b
  nx : num h.nx ≤ num h'.nx
  os : w'.os = w.os
  tape : w'.tape = w.tape
  output : w'.output = w.output
  size : w.heap.size ≤ w'.heap.size
  frame : ∀ c, c < w.heap.size → ¬ Pic s h c → w'.heap[c]? = w.heap[c]?
  img : ∀ c, Pic s' h' c → Pic s h c ∨ w.heap.size ≤ c

theorem Grows.refl (s : Sg) (h : H) (w : World) : Grows s h w s h w :=
  ⟨Sg.le_refl s, fun _ _ => rfl, Nat.le_refl _, rfl, rfl, rfl, Nat.le_refl _, fun _ _ _ => rfl, fun _ h => .inl h⟩

theorem Grows.trans {s s1 s2 : Sg} {h h1 h2 : H} {w w1 w2 : World} (a : Grows s h w s1 h1 w1) (b : Grows s1 h1 w1 s2 h2 w2) : Grows s h w s2 h2 w2 := by
  refine ⟨Sg.le_trans a.le b.le, fun c hc => (b.keep c (Nat.lt_of_lt_of_le hc a.nx)).trans (a.keep c hc), Nat.le_trans a.nx b.nx, b.os.trans a.os, b.tape.trans a.tape, b.output.trans a.output, Nat.le_trans a.size b.size, fun c hc hn => ?_, fun c hc => ?_⟩
  · refine (b.frame c (Nat.lt_of_lt_of_le hc a.size) fun hp => ?_).trans (a.frame c hc hn)
    rcases a.img c hp with h | h
    · exact hn h
    · omega
  · rcases b.img c hc with h | h
    · exact a.img c h
    · exact .inr (Nat.le_trans a.size h)

/-- Draws change nothing. -/
theorem HR.drawn {s : Sg} {h : H} {w : World} (k : HR s h w) (n : Nat) : HR s h { w with drawn := n } :=
  ⟨fun b o e => by obtain ⟨l, a, c⟩ := k.live b o e; exact ⟨l, a, c.mono (Sg.le_refl s) rfl⟩, k.inj, k.fresh⟩
theorem Grows.drawn (s : Sg) (h : H) (w : World) (n : Nat) : Grows s h w s h { w with drawn := n } :=
  ⟨Sg.le_refl s, fun _ _ => rfl, Nat.le_refl _, rfl, rfl, rfl, Nat.le_refl _, fun _ _ _ => rfl, fun _ h => .inl h⟩

/-- One object put in the place of another one. -/
theorem HR.put {s : Sg} {h : H} {w : World} (k : HR s h w) {b : Id} {o o' : AO} {l : Loc} {ob : Obj} (hb : T.get b h.t = some o) (hl : s b = some l)
    (hn : ∀ w', w'.heap[l.blk]? = some ob → ObjR s o' l w') : HR s ⟨T.put (some o') b h.t, h.nx⟩ (setB w l.blk ob) ∧ Grows s h w s ⟨T.put (some o') b h.t, h.nx⟩ (setB w l.blk ob) := by
  have hlt : l.blk < w.heap.size := by
    obtain ⟨l', e, ho⟩ := k.live b o hb
    rw [hl] at e; cases e
    exact ho.lt
  have hget : ∀ c x, T.get c (T.put (some o') b h.t) = some x → (c = b ∧ x = o') ∨ (c ≠ b ∧ T.get c h.t = some x) := fun c x hx => by
    by_cases e : b = c
    · subst e
      rw [T.get_put_same] at hx
      cases hx
      exact .inl ⟨rfl, rfl⟩
    · rw [T.get_put_ne _ _ _ _ e] at hx
      exact .inr ⟨fun x => e x.symm, hx⟩
  have hsome : ∀ c x, T.get c (T.put (some o') b h.t) = some x → ∃ y, T.get c h.t = some y := fun c x hx => by
    rcases hget c x hx with ⟨rfl, _⟩ | ⟨_, h2⟩
    · exact ⟨o, hb⟩
    · exact ⟨x, h2⟩
  refine ⟨⟨fun c x hx => ?_, fun c c' x x' m m' hx hx' hm hm' e => ?_, k.fresh⟩, ⟨Sg.le_refl s, fun _ _ => rfl, Nat.le_refl _, rfl, rfl, rfl, by rw [setB_size]; exact Nat.le_refl _, fun c hc hp => ?_, fun c hc => .inl ?_⟩⟩
  · rcases hget c x hx with ⟨rfl, rfl⟩ | ⟨hne, h2⟩
    · exact ⟨l, hl, hn _ (by rw [setB_get _ _ _ _ hlt, if_pos rfl])⟩
    · obtain ⟨m, hm, ho⟩ := k.live c x h2
      refine ⟨m, hm, ho.mono (Sg.le_refl s) ?_⟩
      rw [setB_get _ _ _ _ hlt, if_neg fun e => hne (k.inj c b x o m l h2 hb hm hl e)]
  · obtain ⟨y, hy⟩ := hsome c x hx
    obtain ⟨y', hy'⟩ := hsome c' x' hx'
    exact k.inj c c' y y' m m' hy hy' hm hm' e
  · rw [setB_get _ _ _ _ hlt, if_neg]
    rintro rfl
    exact hp ⟨b, o, l, hb, hl, rfl⟩
  · obtain ⟨c', x, m, hx, hm, e⟩ := hc
    obtain ⟨y, hy⟩ := hsome c' x hx
    exact ⟨c', y, m, hy, hm, e⟩

/-- A block taken out of the picture. -/
theorem HR.kill {s : Sg} {h : H} {w : World} (k : HR s h w) (b : Id) : HR s (killB h b) w ∧ Grows s h w s (killB h b) w := by
  have hsome : ∀ c x, T.get c (T.put none b h.t) = some x → T.get c h.t = some x := fun c x hx => by
    by_cases e : b = c
    · subst e; rw [T.get_put_same] at hx; cases hx
    · rwa [T.get_put_ne _ _ _ _ e] at hx
  refine ⟨⟨fun c x hx => k.live c x (hsome c x hx), fun c c' x x' m m' hx hx' => k.inj c c' x x' m m' (hsome c x hx) (hsome c' x' hx'), k.fresh⟩, ⟨Sg.le_refl s, fun _ _ => rfl, Nat.le_refl _, rfl, rfl, rfl, Nat.le_refl _, fun _ _ _ => rfl, fun c hc => .inl ?_⟩⟩
  obtain ⟨c', x, m, hx, hm, e⟩ := hc
  exact ⟨c', x, m, hsome c' x hx, hm, e⟩

/-- A new name for a place of the world that is not in the picture. -/
theorem HR.name {s : Sg} {h : H} {w : World} (k : HR s h w) (o : AO) (l : Loc) (b : Id) (h' : H) (hb : num b < num h'.nx) (hnb : num h.nx ≤ num b) (hnx : num h.nx ≤ num h'.nx) (ht : h'.t = T.put (some o) b h.t)
    (w' : World) (hw : ∀ c, c < w.heap.size → Pic s h c → w'.heap[c]? = w.heap[c]?) (hp : ¬ Pic s h l.blk) (ho : ∀ s', s.le s' → ObjR s' o l w') :
    ∃ s', HR s' h' w' ∧ s' b = some l ∧ s.le s' ∧ (∀ c, num c < num h.nx → s' c = s c) ∧ (∀ c, Pic s' h' c → Pic s h c ∨ c = l.blk) := by
  have hsb : s b = none := by
    cases e : s b with
    | none => rfl
    | some m => have := k.fresh b m e; omega
  let s' : Sg := fun c => if c = b then some l else s c
  have hle : s.le s' := fun c m e => by
    have : c ≠ b := fun x => by subst x; rw [hsb] at e; cases e
    show (if c = b then some l else s c) = some m
    rw [if_neg this]; exact e
  have hs'b : s' b = some l := if_pos rfl
  have hs'n : ∀ c, c ≠ b → s' c = s c := fun c e => if_neg e
  have hget : ∀ c x, T.get c h'.t = some x → (c = b ∧ x = o) ∨ (c ≠ b ∧ T.get c h.t = some x) := fun c x hx => by
    rw [ht] at hx
    by_cases e : b = c
    · subst e; rw [T.get_put_same] at hx; cases hx; exact .inl ⟨rfl, rfl⟩
    · rw [T.get_put_ne _ _ _ _ e] at hx; exact .inr ⟨fun x => e x.symm, hx⟩
  refine ⟨s', ⟨fun c x hx => ?_, fun c c' x x' m m' hx hx' hm hm' e => ?_, fun c m e => ?_⟩, hs'b, hle, fun c hc => hs'n c (fun e => by subst e; omega), fun c hc => ?_⟩
  · rcases hget c x hx with ⟨rfl, rfl⟩ | ⟨hne, h2⟩
    · exact ⟨l, hs'b, ho _ hle⟩
    · obtain ⟨m, hm, hob⟩ := k.live c x h2
      exact ⟨m, (hs'n c hne).trans hm, hob.mono hle (hw _ hob.lt ⟨c, x, m, h2, hm, rfl⟩)⟩
  · rcases hget c x hx with ⟨rfl, rfl⟩ | ⟨hne, h2⟩ <;> rcases hget c' x' hx' with ⟨rfl, rfl⟩ | ⟨hne', h2'⟩
    · rfl
    · rw [hs'b] at hm; cases hm
      rw [hs'n c' hne'] at hm'
      exact (hp ⟨c', x', m', h2', hm', e.symm⟩).elim
    · rw [hs'b] at hm'; cases hm'
      rw [hs'n c hne] at hm
      exact (hp ⟨c, x, m, h2, hm, e⟩).elim
    · rw [hs'n c hne] at hm
      rw [hs'n c' hne'] at hm'
      exact k.inj c c' x x' m m' h2 h2' hm hm' e
  · by_cases hcb : c = b
    · subst hcb; exact hb
    · rw [hs'n c hcb] at e
      exact Nat.lt_of_lt_of_le (k.fresh c m e) hnx
  · obtain ⟨c', x, m, hx, hm, e⟩ := hc
    rcases hget c' x hx with ⟨rfl, rfl⟩ | ⟨hne, h2⟩
    · rw [hs'b] at hm; cases hm; exact .inr e.symm
    · rw [hs'n c' hne] at hm; exact .inl ⟨c', x, m, h2, hm, e⟩

/-- A new block. -/
theorem HR.new {s : Sg} {h : H} {w : World} (k : HR s h w) (o : AO) (lim : Nat) (ob : Obj) (ho : ∀ s' w', s.le s' → w'.heap[w.heap.size]? = some ob → ObjR s' o ⟨w.heap.size, 0, lim⟩ w') :
    ∃ s', HR s' ⟨T.put (some o) h.nx h.t, inc h.nx⟩ (w.alloc ob) ∧ s' h.nx = some ⟨w.heap.size, 0, lim⟩ ∧ Grows s h w s' ⟨T.put (some o) h.nx h.t, inc h.nx⟩ (w.alloc ob) := by
  have hold : ∀ c, c < w.heap.size → (w.alloc ob).heap[c]? = w.heap[c]? := fun c hc => by
    simp only [World.alloc, Array.getElem?_push]
    rw [if_neg (by omega)]
  have hnew : (w.alloc ob).heap[w.heap.size]? = some ob := by simp only [World.alloc, Array.getElem?_push, if_true]
  have hp : ¬ Pic s h w.heap.size := fun ⟨b, x, l, hb, hl, e⟩ => by
    obtain ⟨l', hl', hob⟩ := k.live b x hb
    rw [hl] at hl'; cases hl'
    have := hob.lt
    omega
  obtain ⟨s', h1, h2, h3, h4, h5⟩ := k.name o ⟨w.heap.size, 0, lim⟩ h.nx ⟨T.put (some o) h.nx h.t, inc h.nx⟩ (by show num h.nx < num (inc h.nx); rw [num_inc]; omega) (Nat.le_refl _) (by show num h.nx ≤ num (inc h.nx); rw [num_inc]; omega) rfl (w.alloc ob)
    (fun c hc _ => hold c hc) hp (fun s' hs => ho s' _ hs hnew)
  exact ⟨s', h1, h2, ⟨h3, h4, by show num h.nx ≤ num (inc h.nx); rw [num_inc]; omega, rfl, rfl, rfl, by rw [World.size_alloc]; omega, fun c hc _ => hold c hc, fun c hc => (h5 c hc).imp id fun e => by subst e; exact Nat.le_refl _⟩⟩
end
end Go.Proofs.YtpnoifikpmfpdaaDoorX
namespace Go.Proofs.YtpnoifikpmfpdaaDoorX
open Go
set_option linter.unusedVariables false
set_option linter.unusedSimpArgs false
noncomputable section

/-- The picture's slots fr are the frame's a. -/
structure FR (s : Sg) (n : Nat) (fr : Fr) (a : Act) : Prop where
  size : a.tmps.size = n
  defers : a.defers = []
  get : ∀ t v, T.get (slot t) fr = some v → ∃ v', a.tmps[t]? = some v' ∧ VR s v v'

theorem FR.mono {s s' : Sg} {n : Nat} {fr : Fr} {a : Act} (h : s.le s') (k : FR s n fr a) : FR s' n fr a :=
  ⟨k.size, k.defers, fun t v e => by obtain ⟨v', x, y⟩ := k.get t v e; exact ⟨v', x, y.mono h⟩⟩

theorem putT_ok {s : Sg} {n : Nat} {fr fr' : Fr} {a : Act} {d : Option Tmp} {v : AV} {v' : Value} (k : FR s n fr a) (h : putT fr d n v = some fr') (hv : VR s v v') : FR s n fr' (a.put d v') := by
  cases d with
  | none =>
    have : fr = fr' := Option.some.inj h
    subst this
    exact k
  | some d =>
    simp only [putT, cnd_eq] at h
    split at h
    · cases h
    · rename_i hd
      have hd : d < n := by
        rcases Nat.lt_or_ge d n with h1 | h1
        · exact h1
        · exact (hd (by simpa using h1)).elim
      have := Option.some.inj h
      subst this
      refine ⟨by simpa [Act.put] using k.size, k.defers, fun t u hu => ?_⟩
      by_cases e : t = d
      · subst e
        rw [T.get_put_same] at hu
        cases hu
        exact ⟨v', by simp only [Act.put]; rw [Array.getElem?_setIfInBounds, if_pos rfl, if_pos (by rw [k.size]; exact hd)], hv⟩
      · rw [T.get_put_ne _ _ _ _ (fun x => e (slot_inj x).symm)] at hu
        obtain ⟨u', x, y⟩ := k.get t u hu
        exact ⟨u', by simp only [Act.put]; rw [Array.getElem?_setIfInBounds, if_neg (fun x => e x.symm)]; exact x, y⟩

theorem ev_ok {s : Sg} {n : Nat} {fr : Fr} {a : Act} (k : FR s n fr a) {x : Operand} {v : AV} (h : ev fr x = some v) : VR s v (a.eval x) := by
  cases x with
  | tmp t =>
    obtain ⟨v', e, r⟩ := k.get t v h
    show VR s v (a.tmps.getD t undef)
    rw [Array.getD_eq_getD_getElem?, e]
    exact r
  | const c => exact ofV_ok s 20 c v h
  | global g => cases h
  | func f =>
    have : AV.fn f [] [] = v := Option.some.inj h
    subst this
    exact .fn f .nil .nil

theorem val_some {h h' : H} {r : Option AV} {v : AV} (e : val h r = some (v, h')) : r = some v ∧ h' = h := by
  cases r with
  | none => cases e
  | some u =>
    have := Option.some.inj e
    cases this
    exact ⟨rfl, rfl⟩

/-- A computation without memory: its answer in any world. -/
def Pure (P : Program) (s : Sg) (e : Sem Value) (v : AV) : Prop := ∃ v', (∀ w, e.run P w = .ok v' w) ∧ VR s v v'

theorem viaP_ok {P : Program} {s : Sg} {e : Sem Value} {v : AV} (h : viaP P e = some v) : Pure P s e v := by
  simp only [viaP] at h
  split at h
  · rename_i u hu
    exact ⟨u, fun w => runPure_ok P w e u hu, ofV_ok s 20 u v h⟩
  · cases h

theorem via1_ok {P : Program} {s : Sg} {x : AV} {x' : Value} {f : Value → Sem Value} {v : AV} (h : via1 P x f = some v) (hx : VR s x x') : Pure P s (f x') v := by
  simp only [via1] at h
  split at h
  · rename_i u hu
    have := toV_ok s 20 x u x' hu hx
    subst this
    exact viaP_ok h
  · cases h

theorem via2_ok {P : Program} {s : Sg} {x y : AV} {x' y' : Value} {f : Value → Value → Sem Value} {v : AV} (h : via2 P x y f = some v) (hx : VR s x x') (hy : VR s y y') : Pure P s (f x' y') v := by
  simp only [via2] at h
  split at h
  · rename_i u hu
    split at h
    · rename_i u2 hu2
      have := toV_ok s 20 x u x' hu hx
      subst this
      have := toV_ok s 20 y u2 y' hu2 hy
      subst this
      exact viaP_ok h
    · cases h
  · cases h

/-- What a quiet operation of the first class does: in any world. -/
def QOk (P : Program) (s : Sg) (e : Sem Next) (v : AV) : Prop := ∃ v', (∀ w, e.run P w = .ok (.value v') w) ∧ VR s v v'

theorem QOk.of_pure {P : Program} {s : Sg} {e : Sem Value} {v : AV} (h : Pure P s e v) : QOk P s (do pure (.value (← e))) v := by
  obtain ⟨v', hr, hv⟩ := h
  exact ⟨v', fun w => by simp only [Sem.run_bind, hr w, Result.andThen_ok, Sem.run_pure], hv⟩

/-! ### integers -/
theorem wrapA_eq (k : IntKind) (n : Int) : wrapA k n = k.wrap n := by
  cases n with
  | negSucc m => rfl
  | ofNat m =>
    simp only [wrapA]
    cases h : Nat.blt m (limitOf k) with
    | false => rfl
    | true =>
      have h' : m < limitOf k := by
        simp only [Nat.blt] at h
        exact Nat.le_of_ble_eq_true h
      show Int.ofNat m = k.wrap (Int.ofNat m)
      cases k <;> simp only [limitOf] at h' <;> simp only [IntKind.wrap, IntKind.signed, IntKind.bits] <;> (have e : (Int.ofNat m) = (m : Int) := rfl) <;> rw [e] <;> simp <;> omega

theorem eqI_eq (a b : Int) : eqI a b = (a == b) := by
  cases a <;> cases b <;> simp only [eqI] <;> rename_i m n
  · rw [Bool.eq_iff_iff]; simp [Nat.beq_eq]; omega
  · rfl
  · rfl
  · rw [Bool.eq_iff_iff]; simp [Nat.beq_eq]

theorem ltI_eq (a b : Int) : ltI a b = decide (a < b) := by
  cases a <;> cases b <;> simp only [ltI] <;> rename_i m n
  · rw [Bool.eq_iff_iff]; simp only [Nat.blt, Nat.ble_eq, decide_eq_true_eq, Int.ofNat_eq_natCast]; omega
  · rw [Bool.eq_iff_iff]; simp only [decide_eq_true_eq, Int.ofNat_eq_natCast, Int.negSucc_eq]; constructor <;> intro h <;> first | omega | (simp at h)
  · rw [Bool.eq_iff_iff]; simp only [decide_eq_true_eq, Int.ofNat_eq_natCast, Int.negSucc_eq]; constructor <;> intro h <;> first | omega | trivial
  · rw [Bool.eq_iff_iff]; simp only [Nat.blt, Nat.ble_eq, decide_eq_true_eq, Int.negSucc_eq]; omega

theorem forceN_eq {β : Type} (n : Nat) (K : Nat → β) : forceN n K = K n := by cases n <;> rfl
theorem forceI_eq {β : Type} (n : Int) (K : Int → β) : forceI n K = K n := by cases n <;> simp only [forceI, forceN_eq]

theorem intRes_some {k : IntKind} {n : Int} {v : AV} (h : intRes k n = some v) : v = .int k (k.wrap n) := by
  simp only [intRes, forceI_eq, wrapA_eq] at h
  exact (Option.some.inj h).symm

theorem binInt_ok {P : Program} {s : Sg} {op : BinOp} {t : TypeId} {k : IntKind} {a b : Int} {v : AV} (h : binInt P op t k a b = some v) : Pure P s (Go.binOp op t (.int k a) (.int k b)) v := by
  cases op
  case add => exact ⟨.int k (k.wrap (a + b)), fun w => by simp [Go.binOp, Op.intArith], by rw [intRes_some h]; exact .int _ _⟩
  case sub => exact ⟨.int k (k.wrap (a - b)), fun w => by simp [Go.binOp, Op.intArith], by rw [intRes_some h]; exact .int _ _⟩
  case mul => exact ⟨.int k (k.wrap (a * b)), fun w => by simp [Go.binOp, Op.intArith], by rw [intRes_some h]; exact .int _ _⟩
  case eql =>
    have := Option.some.inj h; subst this
    exact ⟨.bool (a == b), fun w => by simp [Go.binOp, Op.intCmp], by rw [eqI_eq]; exact .bool _⟩
  case neq =>
    have := Option.some.inj h; subst this
    exact ⟨.bool (a != b), fun w => by simp [Go.binOp, Op.intCmp], by rw [eqI_eq]; exact .bool _⟩
  case lss =>
    have := Option.some.inj h; subst this
    exact ⟨.bool (decide (a < b)), fun w => by simp [Go.binOp, Op.intCmp], by rw [ltI_eq]; exact .bool _⟩
  case leq =>
    have := Option.some.inj h; subst this
    exact ⟨.bool (decide (a ≤ b)), fun w => by simp [Go.binOp, Op.intCmp], by
      rw [ltI_eq, show (!decide (b < a)) = decide (a ≤ b) by rw [Bool.eq_iff_iff]; simp]; exact .bool _⟩
  case gtr =>
    have := Option.some.inj h; subst this
    exact ⟨.bool (decide (a > b)), fun w => by simp [Go.binOp, Op.intCmp], by rw [ltI_eq]; exact .bool _⟩
  case geq =>
    have := Option.some.inj h; subst this
    exact ⟨.bool (decide (a ≥ b)), fun w => by simp [Go.binOp, Op.intCmp], by
      rw [ltI_eq, show (!decide (a < b)) = decide (a ≥ b) by rw [Bool.eq_iff_iff]; simp]; exact .bool _⟩
  all_goals exact via2_ok (x := .int k a) (y := .int k b) (f := Go.binOp _ t) h (.int _ _) (.int _ _)
end
end Go.Proofs.YtpnoifikpmfpdaaDoorX
namespace Go.Proofs.YtpnoifikpmfpdaaDoorX
open Go
set_option linter.unusedVariables false
set_option linter.unusedSimpArgs false
noncomputable section

theorem Pure.behind {P : Program} {s : Sg} {g : Sem Unit} {e : Sem Value} {v : AV} (hg : ∀ w, g.run P w = .ok () w) (h : Pure P s e v) : Pure P s (do g; e) v := by
  obtain ⟨v', hr, hv⟩ := h
  exact ⟨v', fun w => by simp only [Sem.run_bind, hg w, Result.andThen_ok, hr w], hv⟩

theorem eqOnly_ok {P : Program} {s : Sg} {op : BinOp} {t : TypeId} {a b : Value} {is : Bool} {v : AV} (h : eqOnly op is = some v) (hr : ∀ w, (Op.equal t a b).run P w = .ok is w)
    (he : Go.binOp .eql t a b = (do pure (.bool (← Op.equal t a b)))) (hn : Go.binOp .neq t a b = (do pure (.bool (!(← Op.equal t a b))))) : Pure P s (Go.binOp op t a b) v := by
  cases op <;> simp only [eqOnly] at h <;> (try cases h)
  · exact ⟨.bool is, fun w => by rw [he]; simp only [Sem.run_bind, hr w, Result.andThen_ok, Sem.run_pure], .bool _⟩
  · exact ⟨.bool (!is), fun w => by rw [hn]; simp only [Sem.run_bind, hr w, Result.andThen_ok, Sem.run_pure], .bool _⟩

theorem bytes_eq (a b : ByteArray) : (a.data.toList.map UInt8.toNat == b.data.toList.map UInt8.toNat) = (a.toList == b.toList) := by
  rw [ByteArray.toList_eq, ByteArray.toList_eq, Bool.eq_iff_iff]
  simp only [beq_iff_eq]
  constructor
  · intro h
    exact List.map_inj_right (fun x y e => UInt8.toNat_inj.1 e) |>.1 h
  · intro h; rw [h]

theorem binStr_ok {P : Program} {s : Sg} {op : BinOp} {t : TypeId} {a b : ByteArray} {v : AV} (h : binStr P op t (a.data.toList.map UInt8.toNat) (b.data.toList.map UInt8.toNat) = some v) :
    Pure P s (Go.binOp op t (.string a) (.string b)) v := by
  cases op
  case add =>
    simp only [binStr] at h
    split at h
    · rename_i hl
      have := Option.some.inj h
      subst this
      have ha : a.size = a.data.toList.length := (Array.length_toList).symm
      have hb : b.size = b.data.toList.length := (Array.length_toList).symm
      simp only [List.length_map] at hl
      refine ⟨.string (a ++ b), fun w => ?_, ?_⟩
      · have : ¬ (IntKind.i64.max < ((a.size + b.size : Nat) : Int)) := by
          have : IntKind.i64.max = 9223372036854775807 := rfl
          rw [this]; omega
        show (Op.stringOp .add a b).run P w = _
        simp only [Op.stringOp]
        rw [if_neg this]
        rfl
      · have := VR.str (s := s) (a ++ b)
        simpa using this
    · cases h
  case eql =>
    have := Option.some.inj h; subst this
    refine ⟨.bool (a.toList == b.toList), fun w => rfl, ?_⟩
    rw [bytes_eq]; exact .bool _
  case neq =>
    have := Option.some.inj h; subst this
    refine ⟨.bool (!(a.toList == b.toList)), fun w => rfl, ?_⟩
    rw [bytes_eq]; exact .bool _
  all_goals exact via2_ok (x := .str _) (y := .str _) (f := Go.binOp _ t) h (.str _) (.str _)

section
variable {P : Program} {t : TypeId} (w : World)
theorem eq_bool (p q : Bool) (hu : P.underlying t = some .bool) : (Op.equal t (.bool p) (.bool q)).run P w = .ok (p == q) w := by
  show (Op.equalIn (9999 + 1) t _ _).run P w = _
  unfold Op.equalIn
  simp only [Sem.run_bind, run_underlying hu, Result.andThen_ok, Sem.run_pure]
theorem eq_ptr_nil {e : TypeId} (p : Addr) (hu : P.underlying t = some (.pointer e)) : (Op.equal t (.pointer (some p)) (.pointer none)).run P w = .ok false w := by
  show (Op.equalIn (9999 + 1) t _ _).run P w = _
  unfold Op.equalIn
  simp only [Sem.run_bind, run_underlying hu, Result.andThen_ok, Sem.run_pure]
theorem eq_nil_ptr {e : TypeId} (p : Option Addr) (hu : P.underlying t = some (.pointer e)) : (Op.equal t (.pointer none) (.pointer p)).run P w = .ok p.isNone w := by
  show (Op.equalIn (9999 + 1) t _ _).run P w = _
  unfold Op.equalIn
  simp only [Sem.run_bind, run_underlying hu, Result.andThen_ok, Sem.run_pure]
theorem eq_slice_nil {e : TypeId} (p : Addr) (n c : Nat) (hu : P.underlying t = some (.slice e)) : (Op.equal t (.slice (some p) n c) (.slice none 0 0)).run P w = .ok false w := by
  show (Op.equalIn (9999 + 1) t _ _).run P w = _
  unfold Op.equalIn
  simp only [Sem.run_bind, run_underlying hu, Result.andThen_ok, Sem.run_pure]
theorem eq_nil_slice {e : TypeId} (p : Option Addr) (n c : Nat) (hu : P.underlying t = some (.slice e)) : (Op.equal t (.slice none 0 0) (.slice p n c)).run P w = .ok p.isNone w := by
  show (Op.equalIn (9999 + 1) t _ _).run P w = _
  unfold Op.equalIn
  simp only [Sem.run_bind, run_underlying hu, Result.andThen_ok, Sem.run_pure]
end

theorem xbin_ok {P : Program} {s : Sg} {op : BinOp} {t : TypeId} {a b : AV} {a' b' : Value} {v : AV} (h : xbin P op t a b = some v) (ha : VR s a a') (hb : VR s b b') (x y : Operand) :
    Pure P s (do eqGuard op t x y a' b'; Go.binOp op t a' b') v := by
  cases ha
  case bool p =>
    rw [eqGuard_at_bool]; refine Pure.behind (fun w => rfl) ?_
    simp only [xbin, binBool] at h
    split at h
    · rename_i hu
      split at h
      · cases hb
        rename_i q
        exact eqOnly_ok h (fun w => by first | exact eq_bool w _ _ hu | exact eq_ptr_nil w _ hu | exact eq_nil_ptr w _ hu | exact eq_slice_nil w _ _ _ hu | exact eq_nil_slice w _ _ _ hu) rfl rfl
      · cases h
    · cases h
  case int k p =>
    rw [eqGuard_at_int]; refine Pure.behind (fun w => rfl) ?_
    simp only [xbin, binIntK] at h
    split at h
    · cases hb
      split at h
      · subst_vars; exact binInt_ok h
      · exact via2_ok (x := .int _ _) (y := .int _ _) (f := Go.binOp _ t) h (.int _ _) (.int _ _)
    · cases h
  case flt k p =>
    rw [eqGuard_at_float]; refine Pure.behind (fun w => rfl) ?_
    simp only [xbin, binFlt] at h
    split at h
    · exact via2_ok h (.flt _ _) hb
    · cases h
  case cplx k p q =>
    rw [eqGuard_at_complex]; refine Pure.behind (fun w => rfl) ?_
    simp only [xbin, binCplx] at h
    split at h
    · exact via2_ok h (.cplx _ _ _) hb
    · cases h
  case str p =>
    rw [eqGuard_at_string]; refine Pure.behind (fun w => rfl) ?_
    simp only [xbin, binStrK] at h
    split at h
    · cases hb; exact binStr_ok h
    · cases h
  case ptr =>
    rw [eqGuard_at_pointer]; refine Pure.behind (fun w => rfl) ?_
    simp only [xbin, binPtr] at h
    split at h
    · rename_i hu
      split at h
      · cases hb
        exact eqOnly_ok h (fun w => by first | exact eq_bool w _ _ hu | exact eq_ptr_nil w _ hu | exact eq_nil_ptr w _ hu | exact eq_slice_nil w _ _ _ hu | exact eq_nil_slice w _ _ _ hu) rfl rfl
      · cases h
    · cases h
  case pnil =>
    rw [eqGuard_at_pointer]; refine Pure.behind (fun w => rfl) ?_
    simp only [xbin, binPnil] at h
    split at h
    · rename_i hu
      split at h
      · cases hb
        exact eqOnly_ok h (fun w => by first | exact eq_bool w _ _ hu | exact eq_ptr_nil w _ hu | exact eq_nil_ptr w _ hu | exact eq_slice_nil w _ _ _ hu | exact eq_nil_slice w _ _ _ hu) rfl rfl
      · cases hb
        exact eqOnly_ok h (fun w => by first | exact eq_bool w _ _ hu | exact eq_ptr_nil w _ hu | exact eq_nil_ptr w _ hu | exact eq_slice_nil w _ _ _ hu | exact eq_nil_slice w _ _ _ hu) rfl rfl
      · cases h
    · cases h
  case slc =>
    rw [eqGuard_at_slice]; refine Pure.behind (fun w => rfl) ?_
    simp only [xbin, binSlc] at h
    split at h
    · rename_i hu
      split at h
      · cases hb
        exact eqOnly_ok h (fun w => by first | exact eq_bool w _ _ hu | exact eq_ptr_nil w _ hu | exact eq_nil_ptr w _ hu | exact eq_slice_nil w _ _ _ hu | exact eq_nil_slice w _ _ _ hu) rfl rfl
      · cases h
    · cases h
  case slcEnd =>
    rw [eqGuard_at_slice]; refine Pure.behind (fun w => rfl) ?_
    simp only [xbin, binSlc] at h
    split at h
    · rename_i hu
      split at h
      · cases hb
        exact eqOnly_ok h (fun w => by first | exact eq_bool w _ _ hu | exact eq_ptr_nil w _ hu | exact eq_nil_ptr w _ hu | exact eq_slice_nil w _ _ _ hu | exact eq_nil_slice w _ _ _ hu) rfl rfl
      · cases h
    · cases h
  case snil =>
    rw [eqGuard_at_slice]; refine Pure.behind (fun w => rfl) ?_
    simp only [xbin, binSnil] at h
    split at h
    · rename_i hu
      split at h
      · cases hb
        exact eqOnly_ok h (fun w => by first | exact eq_bool w _ _ hu | exact eq_ptr_nil w _ hu | exact eq_nil_ptr w _ hu | exact eq_slice_nil w _ _ _ hu | exact eq_nil_slice w _ _ _ hu) rfl rfl
      · cases hb <;> exact eqOnly_ok h (fun w => by first | exact eq_bool w _ _ hu | exact eq_ptr_nil w _ hu | exact eq_nil_ptr w _ hu | exact eq_slice_nil w _ _ _ hu | exact eq_nil_slice w _ _ _ hu) rfl rfl
      · cases h
    · cases h
  case agg cs cs' hc =>
    simp only [xbin, binAgg] at h
    split at h
    · cases hb
      rename_i ds ds' hd
      split at h
      · cases h
      · rename_i hg
        exact Pure.behind (fun w => run_eqGuard_agg w op t x y _ _ (by simpa using hg)) (via2_ok (f := Go.binOp op t) h (.agg hc) (.agg hd))
    · cases h
  all_goals cases h
end
end Go.Proofs.YtpnoifikpmfpdaaDoorX
namespace Go.Proofs.YtpnoifikpmfpdaaDoorX
open Go
set_option linter.unusedVariables false
set_option linter.unusedSimpArgs false
noncomputable section

theorem pure_of {P : Program} {s : Sg} {e : Sem Value} {v : AV} (v' : Value) (h : ∀ w, e.run P w = .ok v' w) (hv : VR s v v') : Pure P s e v := ⟨v', h, hv⟩

theorem isAggT_ok {P : Program} {t : TypeId} {b : Bool} (h : isAggT P t = some b) (w : World) : (isAgg t).run P w = .ok b w := by
  simp only [isAggT] at h
  unfold isAgg
  split at h <;> (try cases h)
  · rename_i hu; simp only [Sem.run_bind, run_underlying hu, Result.andThen_ok, Sem.run_pure]
  · rename_i hu; simp only [Sem.run_bind, run_underlying hu, Result.andThen_ok, Sem.run_pure]
  · rename_i d h1 h2 hu
    simp only [Sem.run_bind, run_underlying hu, Result.andThen_ok]
    cases d <;> first | rfl | (exact (h1 _ hu).elim) | (exact (h2 _ _ hu).elim)

theorem sizeT_ok {P : Program} {t : TypeId} {n : Nat} (h : sizeT P t = some n) (w : World) : (sizeOf t).run P w = .ok n w := by
  simp only [sizeT] at h
  split at h
  · rename_i i hi
    cases h
    simp only [sizeOf, Sem.run_bind, run_typeInfo w hi, Result.andThen_ok, Sem.run_pure]
  · cases h

theorem zeroT_ok {P : Program} {t : TypeId} {z : AV} (h : zeroT P t = some z) : ∃ z', (∀ w, (zeroValue t).run P w = .ok z' w) ∧ ∀ s, VR s z z' := by
  simp only [zeroT] at h
  split at h
  · rename_i i hi
    split at h
    · rename_i v hv
      exact ⟨v, fun w => by simp only [zeroValue, Sem.run_bind, run_typeInfo w hi, Result.andThen_ok, hv, Sem.run_pure], fun s => ofV_ok s 20 v z h⟩
    · cases h
  · cases h

theorem VR.cells {s : Sg} {v : AV} {v' : Value} (h : VR s v v') : VRs s (cellsOf v) v'.cells.toList := by
  cases h <;> first
    | assumption
    | exact .cons (by constructor <;> assumption) .nil

theorem VR.isCell {s : Sg} {v : AV} {v' : Value} (h : VR s v v') (hc : isCell v = true) : v'.oneCell' = true := by
  cases h <;> first | rfl | cases hc

theorem VRs.isCell {s : Sg} : ∀ {l : List AV} {l' : List Value}, VRs s l l' → l.all Go.Proofs.YtpnoifikpmfpdaaDoorX.isCell = true → ∀ v ∈ l', v.oneCell' = true
  | _, _, .nil, _, v, hv => by cases hv
  | _, _, .cons x xs, h, v, hv => by
    simp only [List.all_cons, Bool.and_eq_true] at h
    cases hv with
    | head => exact x.isCell h.1
    | tail _ hm => exact VRs.isCell xs h.2 v hm

theorem xpart_ok {P : Program} {s : Sg} {t : TypeId} {cs : List AV} {cs' : List Value} {off : Nat} {v : AV} (h : xpart P t cs off = some v) (hc : VRs s cs cs') : Pure P s (part t ⟨cs'⟩ off) v := by
  simp only [xpart] at h
  split at h
  · rename_i ha
    split at h
    · rename_i n hn
      split at h
      · rename_i l hl
        cases h
        simp only [take'] at hl
        split at hl
        · rename_i hlen
          cases hl
          refine pure_of (.agg ⟨(cs'.drop off).take n⟩) (fun w => ?_) (.agg ((hc.drop off).take n))
          unfold part
          simp only [Sem.run_bind, isAggT_ok ha w, Result.andThen_ok, sizeT_ok hn w, if_true, Sem.run_pure]
          congr 2
          apply Array.ext'
          simp
        · cases hl
      · cases h
    · cases h
  · rename_i ha
    obtain ⟨v', hg, hv⟩ := hc.get off v h
    refine pure_of v' (fun w => ?_) hv
    unfold part
    simp only [Sem.run_bind, isAggT_ok ha w, Result.andThen_ok, Bool.false_eq_true, if_false]
    have : (⟨cs'⟩ : Array Value)[off]? = some v' := by simpa using hg
    rw [this]
    rfl
  · cases h

theorem xfield_ok {P : Program} {s : Sg} {t : TypeId} {x : AV} {x' : Value} {f : Nat} {v : AV} (h : xfield P t x f = some v) (hx : VR s x x') : Pure P s (Instr.field t x' f) v := by
  cases hx <;> (try cases h; done)
  rename_i cs cs' hc
  simp only [xfield] at h
  split at h
  · rename_i fields hu
    split at h
    · rename_i fd hf
      obtain ⟨v', hr, hv⟩ := xpart_ok h hc
      refine pure_of v' (fun w => ?_) hv
      unfold Instr.field
      simp only [Sem.run_bind, run_underlying hu, Result.andThen_ok, hf, asAgg, Sem.run_pure, hr w]
    · cases h
  · cases h

theorem xfieldAddr_ok {P : Program} {s : Sg} {t : TypeId} {x : AV} {x' : Value} {f : Nat} {v : AV} (h : xfieldAddr P t x f = some v) (hx : VR s x x') : Pure P s (Instr.fieldAt t x' f) v := by
  cases hx <;> (try cases h; done)
  rename_i b l o hl
  simp only [xfieldAddr] at h
  split at h
  · rename_i fields hu
    split at h
    · rename_i fd hf
      split at h
      · rename_i n hn
        cases h
        refine pure_of (.pointer (some ⟨l.blk, l.sh + (o + fd.offset), none⟩)) (fun w => ?_) (.ptr _ hl)
        unfold Instr.fieldAt fieldPlace
        simp only [Sem.run_bind, run_underlying hu, Result.andThen_ok, hf, Instr.sureAddr, Sem.run_pure, sizeT_ok hn w, add_at, Nat.add_assoc]
        rw [if_neg (by omega)]
        rfl
      · cases h
    · cases h
  · cases h

theorem xindexAddr_ok {P : Program} {s : Sg} {t : TypeId} {x i : AV} {x' i' : Value} {v : AV} (h : xindexAddr P t x i = some v) (hx : VR s x x') (hi : VR s i i') : Pure P s (Instr.indexAt t x' i') v := by
  cases hi <;> (try cases h; done)
  rename_i k j
  simp only [xindexAddr] at h
  split at h
  · rename_i len elem hu
    split at h
    · cases hx
      rename_i b o l hl
      split at h
      · rename_i size hs
        split at h
        · rename_i hb
          cases h
          refine pure_of (.pointer (some ⟨l.blk, l.sh + (o + j.toNat * size), none⟩)) (fun w => ?_) (.ptr _ hl)
          unfold Instr.indexAt
          simp only [asIntOf, Sem.run_bind, Sem.run_pure, run_underlying hu, Result.andThen_ok, Instr.sureAddr, sizeT_ok hs w, add_at, Nat.add_assoc]
          rw [if_pos hb]
          simp only [Sem.run_bind, sizeT_ok hs w, Result.andThen_ok, Sem.run_pure]
          try rfl
        · cases h
      · cases h
    · cases h
  · rename_i elem hu
    split at h
    · split at h
      · rename_i size hs
        split at h
        · rename_i hb
          cases h
          obtain ⟨hz, hb⟩ := hb
          subst hz
          cases hx
          · rename_i l c' h1_ h2_ h3_ h4_
            refine pure_of (.pointer (some ⟨l.blk, l.sh + (_ + j.toNat * _), none⟩)) (fun w => ?_) (.ptr _ (by assumption))
            unfold Instr.indexAt
            simp only [asIntOf, Sem.run_bind, Sem.run_pure, run_underlying hu, Result.andThen_ok, Instr.sureAddr, sizeT_ok hs w, add_at, Nat.add_assoc]
            rw [if_pos hb]
            simp only [Sem.run_bind, sizeT_ok hs w, Result.andThen_ok, Sem.run_pure]
            try rfl
          · omega
        · cases h
      · cases h
    · cases h
  · cases h

theorem get_bytes (b : ByteArray) (i : Nat) : (b.data.toList.map UInt8.toNat)[i]? = (b[i]?).map UInt8.toNat := by
  rw [List.getElem?_map, Array.getElem?_toList]
  rfl

theorem xindex_ok {P : Program} {s : Sg} {t : TypeId} {x i : AV} {x' i' : Value} {v : AV} (h : xindex P t x i = some v) (hx : VR s x x') (hi : VR s i i') : Pure P s (Instr.index t x' i') v := by
  cases hi <;> (try cases h; done)
  rename_i k j
  simp only [xindex] at h
  split at h
  · rename_i len elem hu
    split at h
    · cases hx
      rename_i cs' hc
      split at h
      · rename_i size hs
        split at h
        · rename_i hb
          obtain ⟨v', hr, hv⟩ := xpart_ok h hc
          refine pure_of v' (fun w => ?_) hv
          unfold Instr.index
          simp only [asIntOf, Sem.run_bind, Sem.run_pure, run_underlying hu, Result.andThen_ok]
          rw [if_pos hb]
          simp only [Sem.run_bind, sizeT_ok hs w, Result.andThen_ok, hr w]
        · cases h
      · cases h
    · cases h
  · rename_i hu
    split at h
    · cases hx
      rename_i b
      split at h
      · rename_i hb
        split at h
        · rename_i n hn
          cases h
          rw [get_bytes] at hn
          cases hg : b[j.toNat]? with
          | none => rw [hg] at hn; cases hn
          | some c =>
            rw [hg] at hn
            cases hn
            refine pure_of (.int .u8 c.toNat) (fun w => ?_) (.int _ _)
            unfold Instr.index
            simp only [asIntOf, Sem.run_bind, Sem.run_pure, run_underlying hu, Result.andThen_ok]
            rw [if_pos hb, hg]
            rfl
        · cases h
      · cases h
    · cases h
  · cases h

theorem xextract_ok {P : Program} {s : Sg} {x : AV} {x' : Value} {i : Nat} {v : AV} (h : xextract x i = some v) (hx : VR s x x') : Pure P s (Instr.extract x' i) v := by
  cases hx <;> (try cases h; done)
  rename_i cs cs' hc
  obtain ⟨v', hg, hv⟩ := hc.get i v h
  refine pure_of v' (fun w => ?_) hv
  have : (⟨cs'⟩ : Array Value)[i]? = some v' := by simpa using hg
  simp only [Instr.extract, this, Sem.run_pure]

end
end Go.Proofs.YtpnoifikpmfpdaaDoorX
namespace Go.Proofs.YtpnoifikpmfpdaaDoorX
open Go
set_option linter.unusedVariables false
set_option linter.unusedSimpArgs false
noncomputable section

/-- An optional bound, and what it comes to. -/
def NumIs (o : Option Value) (d k : Nat) : Prop :=
  match o with
  | none => k = d
  | some v => ∃ kd n, v = .int kd n ∧ 0 ≤ n ∧ k = n.toNat

theorem run_bounds {P : Program} (w : World) (isSlice : Bool) (len cap : Nat) (lo hi mx : Option Value) (l h m : Nat) (hm : NumIs mx cap m) (hh : NumIs hi len h) (hl : NumIs lo 0 l)
    (hmx : mx.isSome = true → hi.isSome = true) (h1 : l ≤ h) (h2 : h ≤ m) (h3 : m ≤ cap) :
    (Instr.sliceBounds isSlice len cap lo hi mx).run P w = .ok (l, h, m) w := by
  have key : ∀ (kd : IntKind) (n : Int) (y : Nat) (c : BoundsCode), 0 ≤ n → n.toNat ≤ y → (Instr.sliceBound (.int kd n) y c).run P w = .ok n.toNat w := fun kd n y c h0 hy => run_sliceBound w kd n y c h0 (by omega)
  unfold Instr.sliceBounds
  cases mx with
  | none =>
    cases hm
    cases hi with
    | none =>
      cases hh
      cases lo with
      | none => cases hl; simp only [Sem.run_bind, Sem.run_pure, Result.andThen_ok]
      | some v =>
        obtain ⟨kd, n, rfl, h0, rfl⟩ := hl
        simp only [Sem.run_bind, Sem.run_pure, Result.andThen_ok, key kd n _ _ h0 h1]
    | some u =>
      obtain ⟨ku, nu, rfl, hu0, rfl⟩ := hh
      cases lo with
      | none => cases hl; simp only [Sem.run_bind, Sem.run_pure, Result.andThen_ok, key ku nu _ _ hu0 h2]
      | some v =>
        obtain ⟨kd, n, rfl, h0, rfl⟩ := hl
        simp only [Sem.run_bind, Sem.run_pure, Result.andThen_ok, key ku nu _ _ hu0 h2, key kd n _ _ h0 h1]
  | some x =>
    obtain ⟨kx, nx, rfl, hx0, rfl⟩ := hm
    cases hi with
    | none => exact absurd (hmx rfl) (by simp)
    | some u =>
      obtain ⟨ku, nu, rfl, hu0, rfl⟩ := hh
      cases lo with
      | none => cases hl; simp only [Sem.run_bind, Sem.run_pure, Result.andThen_ok, key kx nx _ _ hx0 h3, key ku nu _ _ hu0 h2]
      | some v =>
        obtain ⟨kd, n, rfl, h0, rfl⟩ := hl
        simp only [Sem.run_bind, Sem.run_pure, Result.andThen_ok, key kx nx _ _ hx0 h3, key ku nu _ _ hu0 h2, key kd n _ _ h0 h1]

/-- Optional values, pairwise. -/
inductive OR (s : Sg) : Option AV → Option Value → Prop
  | none : OR s none none
  | some {v : AV} {v' : Value} : VR s v v' → OR s (some v) (some v')

def numA : AV → Option Nat := fun | .int _ n => if 0 ≤ n then some n.toNat else none | _ => none

theorem numIs_of {s : Sg} {o : Option AV} {o' : Option Value} {d k : Nat} (h : (match o with | some v => numA v | none => some d) = some k) (ho : OR s o o') : NumIs o' d k := by
  cases ho with
  | none => exact (Option.some.inj h).symm
  | some hv =>
    rename_i v v'
    simp only [numA] at h
    split at h
    · split at h
      · cases hv
        cases h
        exact ⟨_, _, rfl, by assumption, rfl⟩
      · cases h
    · cases h

theorem OR.isSome {s : Sg} {o : Option AV} {o' : Option Value} (h : OR s o o') : o'.isSome = o.isSome := by cases h <;> rfl

theorem str_sub (b : ByteArray) (l h : Nat) (hl : l ≤ h) (hh : h ≤ (b.data.toList.map UInt8.toNat).length) : ((b.data.toList.map UInt8.toNat).take h).drop l = (b.extract l h).data.toList.map UInt8.toNat := by
  rw [← List.map_take, ← List.map_drop]
  congr 1
  have : (b.extract l h).data = b.data.extract l h := ByteArray.data_extract
  rw [this]
  simp [List.drop_take]

theorem xslice_ok {P : Program} {s : Sg} {t : TypeId} {x : AV} {x' : Value} {lo hi mx : Option AV} {lo' hi' mx' : Option Value} {v : AV} (h : xslice P t x lo hi mx = some v) (hx : VR s x x')
    (hlo : OR s lo lo') (hhi : OR s hi hi') (hmx : OR s mx mx') : Pure P s (Instr.sliceAt t x' lo' hi' mx') v := by
  unfold xslice at h
  simp only at h
  split at h
  · rename_i hu
    split at h
    · cases hx
      cases hmx
      rename_i b
      split at h
      · rename_i hh ehh
        split at h
        · rename_i l el
          split at h
          · rename_i hb
            cases h
            have hbs : (b.data.toList.map UInt8.toNat).length = b.size := by rw [List.length_map]; exact Array.length_toList
            have eh : NumIs hi' b.size hh := numIs_of (d := b.size) (by
              rw [← ehh]
              cases hi
              · exact congrArg some hbs.symm
              · rfl) hhi
            have el' : NumIs lo' 0 l := numIs_of (d := 0) (by rw [← el]; cases lo <;> rfl) hlo
            refine pure_of (.string (b.extract l hh)) (fun w => ?_) ?_
            · unfold Instr.sliceAt Instr.slice
              simp only [Sem.run_bind, run_underlying hu, Result.andThen_ok, Option.isSome_none, Bool.false_eq_true, if_false, Sem.run_pure, run_bounds w false b.size b.size lo' hi' none l hh b.size rfl eh el' (by simp) hb.1 (by omega) (Nat.le_refl _)]
            · rw [str_sub b l hh hb.1 hb.2]
              exact .str _
          · cases h
        · cases h
      · cases h
    · cases h
  · rename_i elem hu
    split at h
    · rename_i size hs
      split at h
      · rename_i b o n c ex
        split at h
        · rename_i m em
          split at h
          · rename_i hh ehh
            split at h
            · rename_i l el
              split at h
              · rename_i hb
                have hxx : (∃ a n' c', x' = .slice (some a) n' c' ∧ n' = n ∧ c ≤ c' ∧ ∃ bb z, b = some bb ∧ z = size ∧ x = .slc bb o n c z) ∨ (x' = .slice none 0 0 ∧ b = none ∧ n = 0 ∧ c = 0) := by
                  split at ex
                  · split at ex
                    · rename_i hz
                      cases ex
                      cases hx
                      · exact .inl ⟨_, _, _, rfl, rfl, by assumption, _, _, rfl, hz, rfl⟩
                      · exact .inl ⟨_, _, _, rfl, rfl, Nat.le_refl _, _, _, rfl, hz, rfl⟩
                    · cases ex
                  · cases ex
                    cases hx
                    exact .inr ⟨rfl, rfl, rfl, rfl⟩
                  · cases ex
                have el' : NumIs lo' 0 l := numIs_of (d := 0) (by rw [← el]; cases lo <;> rfl) hlo
                have eh : NumIs hi' n hh ∧ (mx'.isSome = true → hi'.isSome = true) := by
                  cases hhi with
                  | none =>
                    simp only at ehh
                    split at ehh
                    · cases ehh
                    · rename_i hn
                      refine ⟨(Option.some.inj ehh).symm, fun e => ?_⟩
                      rw [hmx.isSome] at e
                      exact (hn e).elim
                  | some hv => exact ⟨numIs_of (d := n) (o := some _) (by rw [← ehh]; rfl) (.some hv), fun _ => rfl⟩
                have em' : ∀ c', c ≤ c' → ∃ m', NumIs mx' c' m' ∧ m ≤ m' ∧ m' ≤ c' ∧ (mx' = none ∧ m' = c' ∧ m = c ∨ m' = m) := fun c' hc => by
                  cases hmx with
                  | none => cases em; exact ⟨c', rfl, hc, Nat.le_refl _, .inl ⟨rfl, rfl, rfl⟩⟩
                  | some hv => exact ⟨m, numIs_of (d := c') (o := some _) (by rw [← em]; rfl) (.some hv), Nat.le_refl _, by omega, .inr rfl⟩
                rcases hxx with ⟨a, n', c', rfl, rfl, hcc, bb, z, rfl, rfl, rfl⟩ | ⟨rfl, rfl, rfl, rfl⟩
                · simp only at h
                  cases h
                  obtain ⟨m', hm', hmm, hmc, hor⟩ := em' c' hcc
                  have hrun : ∀ w, (Instr.sliceAt t (.slice (some a) n' c') lo' hi' mx').run P w = .ok (.slice (if m' = l then some a else some (a.add (l * z))) (hh - l) (m' - l)) w := fun w => by
                    unfold Instr.sliceAt Instr.slice
                    simp only [Sem.run_bind, run_underlying hu, Result.andThen_ok, run_bounds w true n' c' lo' hi' mx' l hh m' hm' eh.1 el' eh.2 hb.1 (by omega) hmc, sizeT_ok hs w, Sem.run_pure, Option.map_some]
                  refine pure_of _ hrun ?_
                  by_cases e : m' = l
                  · rw [if_pos e]
                    have h1 : hh - l = 0 := by omega
                    have h2 : m - l = 0 := by omega
                    have h3 : m' - l = 0 := by omega
                    rw [h1, h2, h3]
                    exact .slcEnd _
                  · rw [if_neg e]
                    cases hx
                    · rename_i ll h1_ h2_ h3_ h4_
                      rw [add_at, Nat.add_assoc]
                      refine .slc (by assumption) (by omega) (by omega) ?_
                      have hle : ll.sh + o + c' * z ≤ ll.lim := by assumption
                      have : l * z + (m' - l) * z = m' * z := by rw [← Nat.add_mul]; congr 1; omega
                      have h5 : m' * z ≤ c' * z := Nat.mul_le_mul_right _ hmc
                      omega
                    · omega
                · simp only at h
                  cases h
                  obtain ⟨m', hm', hmm, hmc, hor⟩ := em' 0 (Nat.le_refl _)
                  have hl0 : l = 0 := by omega
                  have hh0 : hh = 0 := by omega
                  have hm0 : m' = 0 := by omega
                  subst hl0 hh0 hm0
                  refine pure_of (.slice none 0 0) (fun w => ?_) .snil
                  unfold Instr.sliceAt Instr.slice
                  simp only [Sem.run_bind, run_underlying hu, Result.andThen_ok, run_bounds w true 0 0 lo' hi' mx' 0 0 0 hm' eh.1 el' eh.2 (Nat.le_refl _) (Nat.le_refl _) (Nat.le_refl _), sizeT_ok hs w, Sem.run_pure, if_true]
              · cases h
            · cases h
          · cases h
        · cases h
      · cases h
    · cases h
  · cases h
end
end Go.Proofs.YtpnoifikpmfpdaaDoorX
namespace Go.Proofs.YtpnoifikpmfpdaaDoorX
open Go
set_option linter.unusedVariables false
set_option linter.unusedSimpArgs false
noncomputable section

theorem foldl_set_get (off : Nat) : ∀ (l : List Value) (k : Nat) (cells : Array Value), off + k + l.length ≤ cells.size →
    ∀ j, ((l.zipIdx k).foldl (fun a x => a.setIfInBounds (off + x.2) x.1) cells)[j]? = if off + k ≤ j ∧ j < off + k + l.length then l[j - (off + k)]? else cells[j]?
  | [], k, cells, _, j => by rw [if_neg (by simp)]; rfl
  | v :: l, k, cells, h, j => by
    simp only [List.zipIdx_cons, List.foldl_cons]
    rw [foldl_set_get off l (k + 1) _ (by simp at h ⊢; omega) j]
    by_cases h1 : off + (k + 1) ≤ j ∧ j < off + (k + 1) + l.length
    · rw [if_pos h1, if_pos (by simp; omega), show j - (off + k) = (j - (off + (k + 1))) + 1 by omega]
      simp
    · rw [if_neg h1, Array.getElem?_setIfInBounds]
      by_cases h2 : off + k = j
      · subst h2
        rw [if_pos rfl, if_pos (by simp at h; omega), if_pos (by simp)]
        simp
      · rw [if_neg h2, if_neg (by simp; omega)]

theorem splice_ok {s : Sg} {cells cs : List AV} {cells' : Array Value} {cs' : List Value} {off : Nat} {r : List AV} (h : splice cells off cs = some r) (hc : VRs s cells cells'.toList) (hs : VRs s cs cs') :
    VRs s r ((cs'.toArray.zipIdx.foldl (fun a x => a.setIfInBounds (off + x.2) x.1) cells').toList) := by
  simp only [splice] at h
  split at h
  · rename_i hle
    cases h
    simp only [Bool.and_eq_true, decide_eq_true_eq] at hle
    have hl1 := hc.length
    have hl2 := hs.length
    have : (cs'.toArray.zipIdx.foldl (fun a x => a.setIfInBounds (off + x.2) x.1) cells').toList = cells'.toList.take off ++ cs' ++ cells'.toList.drop (off + cs.length) := by
      apply List.ext_getElem?
      intro j
      rw [Array.getElem?_toList, ← Array.foldl_toList, Array.toList_zipIdx, foldl_set_get off cs' 0 cells' (by simp at hl1 ⊢; omega) j]
      simp only [Array.length_toList] at hl1
      simp only [Nat.add_zero]
      by_cases h1 : j < off
      · rw [if_neg (by omega), List.append_assoc, List.getElem?_append_left (by simp; omega), List.getElem?_take_of_lt h1, Array.getElem?_toList]
      · by_cases h2 : j < off + cs'.length
        · rw [if_pos (by omega), List.append_assoc, List.getElem?_append_right (by simp; omega), List.getElem?_append_left (by simp; omega)]
          congr 1
          simp; omega
        · rw [if_neg (by omega), List.getElem?_append_right (by simp; omega), List.getElem?_drop, ← Array.getElem?_toList]
          congr 1
          simp; omega
    rw [this]
    exact ((hc.take off).append hs).append (hc.drop _)
  · cases h

/-- Parts, pairwise. -/
inductive PR (s : Sg) : List (Nat × AV) → List (Nat × Value) → Prop
  | nil : PR s [] []
  | cons {i : Nat} {v : AV} {v' : Value} {l : List (Nat × AV)} {l' : List (Nat × Value)} : VR s v v' → PR s l l' → PR s ((i, v) :: l) ((i, v') :: l')

theorem VR.cells_toArray (v' : Value) : v'.cells = v'.cells.toList.toArray := by simp

theorem xfill_ok {s : Sg} {place : Nat → Option (Nat × Nat)} : ∀ {parts : List (Nat × AV)} {parts' : List (Nat × Value)} {cells : List AV} {cells' : Array Value} {c : List AV},
    PR s parts parts' → VRs s cells cells'.toList → xfill place cells parts = some c → ∃ c', Instr.fill place cells' parts' = some c' ∧ VRs s c c'.toList
  | _, _, cells, cells', c, .nil, hc, h => by
    have := Option.some.inj h
    subst this
    exact ⟨cells', rfl, hc⟩
  | _, _, cells, cells', c, .cons (i := i) (v := v) (v' := v') hv hl, hc, h => by
    simp only [xfill] at h
    split at h
    · cases h
    · rename_i off size hp
      split at h
      · rename_i hsz
        split at h
        · rename_i c1 h1
          have hcs := hv.cells
          have h2 := splice_ok h1 hc hcs
          obtain ⟨c', e, hr⟩ := xfill_ok hl h2 h
          refine ⟨c', ?_, hr⟩
          simp only [Instr.fill, hp]
          have hlen := hcs.length
          have hb : off + (cellsOf v).length ≤ cells.length := by
            simp only [splice] at h1
            split at h1
            · rename_i hh; simp only [Bool.and_eq_true, decide_eq_true_eq] at hh; exact hh.1
            · cases h1
          have hcl := hc.length
          simp only [Array.length_toList] at hlen hcl
          rw [if_neg (by simp; omega)]
          rw [← VR.cells_toArray] at e
          exact e
        · cases h
      · cases h

theorem evParts_ok {s : Sg} {n : Nat} {fr : Fr} {a : Act} (k : FR s n fr a) : ∀ {l : List (Nat × Operand)} {r : List (Nat × AV)}, evParts fr l = some r → PR s r (l.map fun x => (x.1, a.eval x.2))
  | [], r, h => by have := Option.some.inj h; subst this; exact .nil
  | (i, x) :: l, r, h => by
    simp only [evParts] at h
    split at h
    · rename_i v hv
      split at h
      · rename_i m hm
        cases h
        exact .cons (ev_ok k hv) (evParts_ok k hm)
      · cases h
    · cases h

theorem places_ok {P : Program} {fs : List Field} {places : List (Nat × Nat)} (h : mapO (fun f => match sizeT P f.type with | some n => some (f.offset, n) | none => none) fs = some places) (w : World) :
    (fs.mapM (m := Sem) fun f => do pure (f.offset, ← sizeOf f.type)).run P w = .ok places w := by
  induction fs generalizing places with
  | nil => simp [mapO] at h; subst h; rfl
  | cons f fs ih =>
    simp only [mapO] at h
    split at h
    · rename_i b hb
      split at h
      · rename_i bs hbs
        cases h
        split at hb
        · rename_i n hn
          cases hb
          simp only [List.mapM_cons, Sem.run_bind, sizeT_ok hn w, Result.andThen_ok, Sem.run_pure, ih hbs]
        · cases hb
      · cases h
    · cases h

theorem xbuild_ok {P : Program} {s : Sg} {t : TypeId} {parts : List (Nat × AV)} {parts' : List (Nat × Value)} {v : AV} (h : xbuild P t parts = some v) (hp : PR s parts parts') : Pure P s (Instr.build t ⟨parts'⟩) v := by
  simp only [xbuild] at h
  split at h
  · rename_i z hz
    obtain ⟨z', hzr, hzv⟩ := zeroT_ok hz
    have hzc := (hzv s).cells
    split at h
    · rename_i fields hu
      split at h
      · rename_i places hpl
        split at h
        · rename_i c hc
          cases h
          obtain ⟨c', e, hr⟩ := xfill_ok hp hzc hc
          refine pure_of (.agg c') (fun w => ?_) ?_
          · unfold Instr.build
            have hm := places_ok hpl w
            simp only [Sem.run_bind, hzr w, Result.andThen_ok, run_underlying hu]
            rw [Array.mapM_eq_mapM_toList]
            simp only [Sem.run_map, Sem.run_bind, hm, Result.andThen_ok]
            have hpp : (fun (i : Nat) => (places.toArray)[i]?) = fun (i : Nat) => places[i]? := by funext i; simp
            simp only [hpp, e, Sem.run_pure]
          · cases c' with | mk l => exact .agg hr
        · cases h
      · cases h
    · rename_i n elem hu
      split at h
      · rename_i size hs
        split at h
        · rename_i c hc
          cases h
          obtain ⟨c', e, hr⟩ := xfill_ok hp hzc hc
          refine pure_of (.agg c') (fun w => ?_) ?_
          · unfold Instr.build
            simp only [Sem.run_bind, hzr w, Result.andThen_ok, run_underlying hu, sizeT_ok hs w, e, Sem.run_pure]
          · cases c' with | mk l => exact .agg hr
        · cases h
      · cases h
    · cases h
  · cases h

theorem evAll_ok {s : Sg} {n : Nat} {fr : Fr} {a : Act} (k : FR s n fr a) {l : List Operand} {r : List AV} (h : evAll fr l = some r) : VRs s r (l.map a.eval) := by
  obtain ⟨h1, h2⟩ := mapO_get h
  refine VRs.of_get (by simp [h1]) fun i x hx => ?_
  have hi : i < l.length := by have := (List.getElem?_eq_some_iff.1 hx).1; omega
  obtain ⟨y, hy, hm⟩ := h2 i l[i] (List.getElem?_eq_getElem hi)
  rw [hx] at hm; cases hm
  exact ⟨a.eval l[i], by simp [hi], ev_ok k hy⟩

theorem evO_ok {s : Sg} {n : Nat} {fr : Fr} {a : Act} (k : FR s n fr a) {x : Option Operand} {r : Option AV} (h : evO fr x = some r) : OR s r (x.map a.eval) := by
  cases x with
  | none => have := Option.some.inj h; subst this; exact .none
  | some x =>
    simp only [evO] at h
    split at h
    · rename_i v hv; cases h; exact .some (ev_ok k hv)
    · cases h
end
end Go.Proofs.YtpnoifikpmfpdaaDoorX
namespace Go.Proofs.YtpnoifikpmfpdaaDoorX
open Go
set_option linter.unusedVariables false
set_option linter.unusedSimpArgs false
noncomputable section

/-! ### rows -/
theorem rowAt_some {h : H} {b : Id} {row : Row} (e : rowAt h b = some row) : T.get b h.t = some (.cells row) := by
  simp only [rowAt] at e
  split at e
  · cases e; assumption
  · cases e

theorem mapAt_some {h : H} {b : Id} {es : List (AV × AV × Nat)} {c : Nat} (e : mapAt h b = some (es, c)) : T.get b h.t = some (.omap es c) := by
  simp only [mapAt] at e
  split at e
  · cases e; assumption
  · cases e

/-- What is known of a row that a value points into. -/
structure RowR (s : Sg) (l : Loc) (row : Row) (w : World) (cs : Array Value) (e : TypeId) (fr : Nat × Nat) : Prop where
  heap : w.heap[l.blk]? = some (.cells cs e fr)
  lim : cs.size = l.lim
  fits : l.sh + row.n ≤ l.lim
  soft : ∀ j, j < cs.size → ¬ (fr.1 ≤ j ∧ j < fr.2)
  cell : ∀ i v, i < row.n → T.get (slot i) row.t = some v → ∃ v', cs[l.sh + i]? = some v' ∧ VR s v v'

theorem HR.row {s : Sg} {h : H} {w : World} (k : HR s h w) {b : Id} {l : Loc} {row : Row} (hl : s b = some l) (e : rowAt h b = some row) : ∃ cs ty fr, RowR s l row w cs ty fr := by
  obtain ⟨l', hl', ho⟩ := k.live b _ (rowAt_some e)
  rw [hl] at hl'; cases hl'
  obtain ⟨cs, ty, fr, h1, h2, h3, h4, h5⟩ := ho
  exact ⟨cs, ty, fr, h1, h2, h3, h4, h5⟩

theorem getR_ok {row : Row} {o : Nat} {v : AV} (h : getR row o = some v) : o < row.n ∧ T.get (slot o) row.t = some v := by
  simp only [getR, cnd_eq] at h
  split at h
  · cases h
  · rename_i hn
    refine ⟨?_, h⟩
    rcases Nat.lt_or_ge o row.n with h1 | h1
    · exact h1
    · exact (hn (by simpa using h1)).elim

theorem getL_ok {s : Sg} {l : Loc} {row : Row} {w : World} {cs : Array Value} {e : TypeId} {fr : Nat × Nat} (k : RowR s l row w cs e fr) : ∀ (n o : Nat) (r : List AV), getL row.t o n = some r → o + n ≤ row.n →
    ∃ r', VRs s r r' ∧ r'.length = n ∧ ∀ j v, r'[j]? = some v → cs[l.sh + (o + j)]? = some v
  | 0, o, r, h, _ => by have := Option.some.inj h; subst this; exact ⟨[], .nil, rfl, fun j v hj => by simp at hj⟩
  | n + 1, o, r, h, hn => by
    simp only [getL] at h
    split at h
    · rename_i v hv
      split at h
      · rename_i m hm
        cases h
        obtain ⟨v', hc, hr⟩ := k.cell o v (by omega) hv
        obtain ⟨r', h1, h2, h3⟩ := getL_ok k n (o + 1) m hm (by omega)
        refine ⟨v' :: r', .cons hr h1, by simp [h2], fun j u hj => ?_⟩
        cases j with
        | zero => simp at hj; subst hj; simpa using hc
        | succ j =>
          simp at hj
          have := h3 j u hj
          rwa [show o + 1 + j = o + (j + 1) by omega] at this
      · cases h
    · cases h

theorem takeR_ok {s : Sg} {l : Loc} {row : Row} {w : World} {cs : Array Value} {e : TypeId} {fr : Nat × Nat} (k : RowR s l row w cs e fr) {o n : Nat} {r : List AV} (h : takeR row o n = some r) :
    o + n ≤ row.n ∧ ∃ r', VRs s r r' ∧ r'.length = n ∧ ∀ j v, r'[j]? = some v → cs[l.sh + (o + j)]? = some v := by
  simp only [takeR, cnd_eq] at h
  split at h
  · rename_i hle
    have hle : o + n ≤ row.n := by simpa using hle
    exact ⟨hle, getL_ok k n o r h hle⟩
  · cases h

/-- Cells that lie in a row, loaded. -/
theorem load_row {P : Program} {w : World} {g o n : Nat} {cs : Array Value} {e : TypeId} {fr : Nat × Nat} {r' : List Value} (h : w.heap[g]? = some (.cells cs e fr)) (hl : r'.length = n)
    (hc : ∀ j v, r'[j]? = some v → cs[o + j]? = some v) : (loadCells ⟨g, o, none⟩ n).run P w = .ok r'.toArray w := by
  subst hl
  refine run_loadCells_list (P := P) w _ r' fun j v hj => ?_
  rw [add_at, cell_at h]
  exact hc j v hj

theorem xload_ok {P : Program} {s : Sg} {h : H} {w : World} (k : HR s h w) {t : TypeId} {x v : AV} {x' : Value} (e : xload P t x h = some v) (hx : VR s x x') : ∃ v', (Instr.loadAt t x').run P w = .ok v' w ∧ VR s v v' := by
  cases hx <;> (try cases e; done)
  rename_i b l o hl
  simp only [xload] at e
  split at e
  · rename_i row hr
    obtain ⟨cs, ty, fr, R⟩ := k.row hl hr
    split at e
    · rename_i ha
      split at e
      · rename_i n hn
        split at e
        · rename_i r hg
          cases e
          obtain ⟨hle, r', h1, h2, h3⟩ := takeR_ok R hg
          refine ⟨.agg r'.toArray, ?_, .agg h1⟩
          unfold Instr.loadAt loadVar
          have hld := load_row (P := P) (o := l.sh + o) R.heap h2 (fun j v hj => by rw [Nat.add_assoc]; exact h3 j v hj)
          simp only [Sem.run_bind, Instr.sureAddr, Sem.run_pure, Result.andThen_ok, isAggT_ok ha w, if_true, sizeT_ok hn w, hld]
        · cases e
      · cases e
    · rename_i ha
      obtain ⟨hlt, hg⟩ := getR_ok e
      obtain ⟨v', hc, hv⟩ := R.cell o v hlt hg
      refine ⟨v', ?_, hv⟩
      unfold Instr.loadAt loadVar
      have hcell : w.cell? ⟨l.blk, l.sh + o, none⟩ = some v' := by rw [cell_at R.heap]; exact hc
      simp only [Sem.run_bind, Instr.sureAddr, Sem.run_pure, Result.andThen_ok, isAggT_ok ha w, Bool.false_eq_true, if_false, run_load, hcell]
    · cases e
  · cases e

/-! ### maps -/
/-- What was found: the same place, the same value. -/
def FindR (s : Sg) (es' : List MapEntry) (i0 : Nat) (k' : Value) (r : Option (Nat × AV × Nat)) (r' : Option (Nat × Value)) : Prop :=
  match r, r' with
  | none, none => True
  | some (i, v, bn), some (i', v') => i = i' ∧ VR s v v' ∧ i0 ≤ i ∧ ∃ e, es'[i - i0]? = some e ∧ e.val = v' ∧ e.born = bn ∧ Instr.sameBits 10000 e.key k' = true
  | _, _ => False

theorem FindR.step {s : Sg} {es' : List MapEntry} {e : MapEntry} {i0 : Nat} {k' : Value} {r : Option (Nat × AV × Nat)} {r' : Option (Nat × Value)} (h : FindR s es' (i0 + 1) k' r r') : FindR s (e :: es') i0 k' r r' := by
  match r, r', h with
  | none, none, _ => trivial
  | some (i, v, bn), some (i', v'), ⟨h1, h2, h3, e', h4, h5⟩ =>
    refine ⟨h1, h2, by omega, e', ?_, h5⟩
    rw [show i - i0 = (i - (i0 + 1)) + 1 by omega]
    simpa using h4

theorem sameBits_int (k : IntKind) (n : Int) : Instr.sameBits 10000 (.int k n) (.int k n) = true := by simp [Instr.sameBits]
theorem bytes_beq (b : ByteArray) : (b == b) = true := by rw [beq_toListBytes]; exact beq_self_eq_true _
theorem bytes_bne {a b : ByteArray} (h : a ≠ b) : (a == b) = false := by
  rw [beq_toListBytes, Bool.eq_false_iff]
  intro e
  apply h
  have e := eq_of_beq e
  rw [ByteArray.toList_eq, ByteArray.toList_eq] at e
  cases a with | mk a => cases b with | mk b =>
  congr 1
  exact Array.ext' e
theorem sameBits_string (b : ByteArray) : Instr.sameBits 10000 (.string b) (.string b) = true := by simp only [Instr.sameBits]; exact bytes_beq b

theorem bytes_inj {a b : ByteArray} (h : a.data.toList.map UInt8.toNat = b.data.toList.map UInt8.toNat) : a = b := by
  have h1 : a.data.toList = b.data.toList := List.map_inj_right (fun x y e => UInt8.toNat_inj.1 e) |>.1 h
  cases a with | mk a => cases b with | mk b =>
  congr 1
  exact Array.ext' h1

theorem findNow_int {P : Program} {s : Sg} {kt : TypeId} {kd : IntKind} {k : AV} {k' : Value} (hk : VR s k k') (hkk : keyOk P kt 0 k = true) : ∀ {es : List (AV × AV × Nat)} {es' : List MapEntry} (i : Nat) (r : Option (Nat × AV × Nat)), ER s es es' → xfind P kt 0 k es i = some r →
    ∃ r', Instr.findNow (.int kd) k' es' i = some r' ∧ FindR s es' i k' r r'
  | _, _, i, r, .nil, h => by have := Option.some.inj h; subst this; exact ⟨none, rfl, trivial⟩
  | _, _, i, r, .cons (k := k2) (k' := k2') hk2 hv he, h => by
    simp only [xfind, keq] at h
    cases hk <;> (try (simp [keyOk] at hkk; done))
    rename_i j m
    cases hk2 <;> (try (simp at h; done))
    rename_i j2 m2
    by_cases ej : j = j2
    · subst ej
      simp only [if_true] at h
      by_cases em : m = m2
      · subst em
        simp at h
        subst h
        refine ⟨some (i, _), by simp [Instr.findNow, Instr.sameNow], rfl, hv, Nat.le_refl _, _, by rw [Nat.sub_self]; rfl, rfl, rfl, sameBits_int _ _⟩
      · have hb : (m == m2) = false := by simpa using em
        rw [hb] at h
        obtain ⟨r', h1, h2⟩ := findNow_int (.int j m) hkk (i + 1) r he h
        exact ⟨r', by simp [Instr.findNow, Instr.sameNow, hb]; exact h1, h2.step⟩
    · simp [ej] at h

theorem findNow_str {P : Program} {s : Sg} {kt : TypeId} {k : AV} {k' : Value} (hk : VR s k k') (hkk : keyOk P kt 1 k = true) : ∀ {es : List (AV × AV × Nat)} {es' : List MapEntry} (i : Nat) (r : Option (Nat × AV × Nat)), ER s es es' → xfind P kt 1 k es i = some r →
    ∃ r', Instr.findNow .string k' es' i = some r' ∧ FindR s es' i k' r r'
  | _, _, i, r, .nil, h => by have := Option.some.inj h; subst this; exact ⟨none, rfl, trivial⟩
  | _, _, i, r, .cons (k := k2) (k' := k2') hk2 hv he, h => by
    simp only [xfind, keq] at h
    cases hk <;> (try (simp [keyOk] at hkk; done))
    rename_i p
    cases hk2 <;> (try (simp at h; done))
    rename_i q
    by_cases e : p = q
    · subst e
      simp at h
      subst h
      refine ⟨some (i, _), by simp only [Instr.findNow, Instr.sameNow, bytes_beq], rfl, hv, Nat.le_refl _, _, by rw [Nat.sub_self]; rfl, rfl, rfl, sameBits_string _⟩
    · have hb : (p.data.toList.map UInt8.toNat == q.data.toList.map UInt8.toNat) = false := by
        rw [Bool.eq_false_iff]; intro hh; exact e (bytes_inj (by simpa using hh))
      dsimp only at h
      rw [hb] at h
      obtain ⟨r', h1, h2⟩ := findNow_str (.str p) hkk (i + 1) r he h
      have hb' : (p == q) = false := bytes_bne e
      exact ⟨r', by simp only [Instr.findNow, Instr.sameNow, hb']; exact h1, h2.step⟩

theorem findAsking_ok {P : Program} {s : Sg} {w : World} {kt : TypeId} {k : AV} {k' : Value} (hk : VR s k k') : ∀ {es : List (AV × AV × Nat)} {es' : List MapEntry} (i : Nat) (r : Option (Nat × AV × Nat)), ER s es es' → xfind P kt 2 k es i = some r →
    ∃ r', (Instr.findAsking kt k' es' i).run P w = .ok r' w ∧ FindR s es' i k' r r'
  | _, _, i, r, .nil, h => by have := Option.some.inj h; subst this; exact ⟨none, rfl, trivial⟩
  | _, _, i, r, .cons (k := k2) (k' := k2') hk2 hv he, h => by
    simp only [xfind, keq] at h
    split at h
    case h_1 hq =>
      have := Option.some.inj h
      subst this
      split at hq
      · rename_i x hx
        split at hq
        · rename_i y hy
          have e1 := toV_ok s 20 _ _ _ hx hk
          have e2 := toV_ok s 20 _ _ _ hy hk2
          subst e1 e2
          split at hq
          · rename_i hrun
            split at hq
            · rename_i hsb
              refine ⟨some (i, _), ?_, rfl, hv, Nat.le_refl _, _, by rw [Nat.sub_self]; rfl, rfl, rfl, ?_⟩
              · simp only [Instr.findAsking, Sem.run_bind, runPure_ok P w _ _ hrun, Result.andThen_ok, if_true, Sem.run_pure]
              · exact hsb
            · cases hq
          · rename_i hne; exact (hne hq).elim
        · cases hq
      · cases hq
    case h_2 hq =>
      split at hq
      · rename_i x hx
        split at hq
        · rename_i y hy
          have e1 := toV_ok s 20 _ _ _ hx hk
          have e2 := toV_ok s 20 _ _ _ hy hk2
          subst e1 e2
          split at hq
          · split at hq <;> cases hq
          · obtain ⟨r', h1, h2⟩ := findAsking_ok (w := w) hk (i + 1) r he h
            refine ⟨r', ?_, h2.step⟩
            simp only [Instr.findAsking, Sem.run_bind, runPure_ok P w _ _ hq, Result.andThen_ok, Bool.false_eq_true, if_false, h1]
        · cases hq
      · cases hq
    case h_3 hq => cases h

theorem findKey_ok {P : Program} {s : Sg} {w : World} {kt : TypeId} {kk : Nat} {k : AV} {k' : Value} {es : List (AV × AV × Nat)} {es' : List MapEntry} {r : Option (Nat × AV × Nat)} (hkk : keyKind P kt = some kk) (hok : keyOk P kt kk k = true)
    (hk : VR s k k') (he : ER s es es') (h : xfind P kt kk k es 0 = some r) : ∃ r', (Instr.findKey kt k' es').run P w = .ok r' w ∧ FindR s es' 0 k' r r' := by
  simp only [keyKind] at hkk
  split at hkk
  · rename_i kd hu
    cases hkk
    obtain ⟨r', h1, h2⟩ := findNow_int (kd := kd) hk hok 0 r he h
    exact ⟨r', by unfold Instr.findKey; simp only [Sem.run_bind, run_underlying hu, Result.andThen_ok, h1, Sem.run_pure], h2⟩
  · rename_i hu
    cases hkk
    obtain ⟨r', h1, h2⟩ := findNow_str hk hok 0 r he h
    exact ⟨r', by unfold Instr.findKey; simp only [Sem.run_bind, run_underlying hu, Result.andThen_ok, h1, Sem.run_pure], h2⟩
  · rename_i fs hu
    cases hkk
    obtain ⟨r', h1, h2⟩ := findAsking_ok (w := w) hk 0 r he h
    refine ⟨r', ?_, h2⟩
    unfold Instr.findKey
    simp only [Sem.run_bind, run_underlying hu, Result.andThen_ok]
    cases he with
    | nil =>
      simp only [Instr.findNow, Sem.run_pure]
      simpa [Instr.findAsking] using h1
    | cons a b c =>
      have : ∀ (k2 : Value), Instr.sameNow (.struct fs) k' k2 = none := fun k2 => by cases k' <;> cases k2 <;> rfl
      simp only [Instr.findNow, this]
      exact h1
  · cases hkk

theorem checkKey_ok {P : Program} {s : Sg} {w : World} {kt : TypeId} {kk : Nat} {k : AV} {k' : Value} (hkk : keyKind P kt = some kk) (hok : keyOk P kt kk k = true) (hk : VR s k k') (b : Bool) :
    (Instr.checkKey b 10000 kt k').run P w = .ok () w := by
  simp only [keyKind] at hkk
  split at hkk
  · rename_i kd hu
    cases hkk
    cases hk <;> (try (simp [keyOk] at hok; done))
    show (Instr.checkKey b (9999 + 1) kt _).run P w = _
    unfold Instr.checkKey
    simp only [Sem.run_bind, run_underlying hu, Result.andThen_ok, Sem.run_pure]
  · rename_i hu
    cases hkk
    cases hk <;> (try (simp [keyOk] at hok; done))
    show (Instr.checkKey b (9999 + 1) kt _).run P w = _
    unfold Instr.checkKey
    simp only [Sem.run_bind, run_underlying hu, Result.andThen_ok, Sem.run_pure]
  · cases hkk
    simp only [keyOk] at hok
    split at hok
    · rename_i x hx
      have := toV_ok s 20 _ _ _ hx hk
      subst this
      simp only [Bool.and_eq_true] at hok
      cases b
      · obtain ⟨u, hu⟩ := Option.isSome_iff_exists.1 hok.2
        exact runPure_ok P w _ u hu
      · obtain ⟨u, hu⟩ := Option.isSome_iff_exists.1 hok.1
        exact runPure_ok P w _ u hu
    · cases hok
  · cases hkk

theorem HR.mapR {s : Sg} {h : H} {w : World} (k : HR s h w) {b : Id} {l : Loc} {es : List (AV × AV × Nat)} {c : Nat} (hl : s b = some l) (e : mapAt h b = some (es, c)) : ∃ es' : Array MapEntry, w.heap[l.blk]? = some (.map es' c) ∧ ER s es es'.toList := by
  obtain ⟨l', hl', ho⟩ := k.live b _ (mapAt_some e)
  rw [hl] at hl'; cases hl'
  exact ho

theorem run_getObj_map {P : Program} {w : World} {g : Nat} {es : Array MapEntry} {c : Nat} (h : w.heap[g]? = some (.map es c)) : (getObj g).run P w = .ok (.map es c) w := by
  simp only [getObj, Sem.run, h]

theorem ER.length {s : Sg} : ∀ {es : List (AV × AV × Nat)} {es' : List MapEntry}, ER s es es' → es.length = es'.length
  | _, _, .nil => rfl
  | _, _, .cons _ _ c => by simp [ER.length c]

theorem xlookup_ok {P : Program} {s : Sg} {h : H} {w : World} (k : HR s h w) {t : TypeId} {x key v : AV} {x' key' : Value} {ok : Bool} (e : xlookup P t x key ok h = some v) (hx : VR s x x') (hk : VR s key key') :
    ∃ v', (Instr.lookup t x' key' ok).run P w = .ok v' w ∧ VR s v v' := by
  simp only [xlookup] at e
  split at e
  · rename_i kt et hu
    split at e
    · rename_i kk hkk
      split at e
      · rename_i hok
        split at e
        · rename_i es hes
          have hent : (∃ g c, ∃ es' : Array MapEntry, x' = .map (some g) ∧ w.heap[g]? = some (.map es' c) ∧ ER s es es'.toList) ∨ (x' = .map none ∧ es = []) := by
            cases hx <;> (try (simp at hes; done))
            · rename_i b l hl
              simp only at hes
              split at hes
              · rename_i es0 c0 hm
                cases hes
                obtain ⟨es', h1, h2⟩ := k.mapR hl hm
                exact .inl ⟨_, _, es', rfl, h1, h2⟩
              · cases hes
            · cases hes
              exact .inr ⟨rfl, rfl⟩
          have hrun : ∃ es' : Array MapEntry, ER s es es'.toList ∧ ∀ r', (Instr.findKey kt key' es'.toList).run P w = .ok r' w → (Instr.lookup t x' key' ok).run P w =
              ((match r' with | some (_, v) => pure (v, true) | none => do pure (← zeroValue et, false) : Sem (Value × Bool)).run P w).andThen fun p w' => .ok (if ok then .tuple #[p.1, .bool p.2] else p.1) w' := by
            rcases hent with ⟨g, c, es', rfl, h1, h2⟩ | ⟨rfl, rfl⟩
            · refine ⟨es', h2, fun r' hr => ?_⟩
              unfold Instr.lookup
              simp only [Sem.run_bind, run_underlying hu, Result.andThen_ok, run_getObj_map h1, Sem.run_pure, checkKey_ok hkk hok hk, hr]
              cases r' <;> simp only [Sem.run_bind, Sem.run_pure] <;> first | rfl | (cases (zeroValue et).run P w <;> rfl)
            · refine ⟨#[], .nil, fun r' hr => ?_⟩
              unfold Instr.lookup
              simp only [Sem.run_bind, run_underlying hu, Result.andThen_ok, Sem.run_pure, checkKey_ok hkk hok hk, hr]
              cases r' <;> simp only [Sem.run_bind, Sem.run_pure] <;> first | rfl | (cases (zeroValue et).run P w <;> rfl)
          obtain ⟨es', her, hrun⟩ := hrun
          split at e
          · rename_i i v0 bn hf
            obtain ⟨r', h1, h2⟩ := findKey_ok (w := w) hkk hok hk her hf
            match r', h1, h2 with
            | some (i', v'), h1, ⟨_, hv, _⟩ =>
              cases e
              refine ⟨if ok then .tuple #[v', .bool true] else v', ?_, ?_⟩
              · rw [hrun _ h1]; rfl
              · cases ok
                · exact hv
                · exact .tup (.cons hv (.cons (.bool _) .nil))
          · rename_i hf
            obtain ⟨r', h1, h2⟩ := findKey_ok (w := w) hkk hok hk her hf
            match r', h1, h2 with
            | none, h1, _ =>
              split at e
              · rename_i z hz
                obtain ⟨z', hzr, hzv⟩ := zeroT_ok hz
                cases e
                refine ⟨if ok then .tuple #[z', .bool false] else z', ?_, ?_⟩
                · rw [hrun _ h1]
                  simp only [Sem.run_bind, hzr w, Result.andThen_ok, Sem.run_pure]
                · cases ok
                  · exact hzv s
                  · exact .tup (.cons (hzv s) (.cons (.bool _) .nil))
              · cases e
          · cases e
        · cases e
      · cases e
    · cases e
  · cases e
end
end Go.Proofs.YtpnoifikpmfpdaaDoorX
namespace Go.Proofs.YtpnoifikpmfpdaaDoorX
open Go
set_option linter.unusedVariables false
set_option linter.unusedSimpArgs false
noncomputable section

theorem VRs.one {s : Sg} {x : AV} {l : List Value} (h : VRs s [x] l) : ∃ x', l = [x'] ∧ VR s x x' := by
  cases h with | cons a b => cases b; exact ⟨_, rfl, a⟩
theorem VRs.two {s : Sg} {x y : AV} {l : List Value} (h : VRs s [x, y] l) : ∃ x' y', l = [x', y'] ∧ VR s x x' ∧ VR s y y' := by
  cases h with | cons a b => cases b with | cons c d => cases d; exact ⟨_, _, rfl, a, c⟩

theorem args_eq (ρ : Operand → Value) (args : Array Operand) : args.map ρ = (args.toList.map ρ).toArray := by
  apply Array.ext'; simp

/-- A call of a builtin. -/
theorem run_callB {P : Program} (ρ : Operand → Value) (dst : Option Tmp) (b : Builtin) (args : Array Operand) (ats : Array TypeId) (type : TypeId) (pos : String) (after : Array Edge) (guard : Option (Nat × Bool)) :
    ∃ cs, ∀ w, (execOp ρ ⟨dst, .call ⟨.builtin b, args, ats⟩, type, pos, after, guard⟩).run P w = (builtin b ats type cs (args.toList.map ρ).toArray).run P w := by
  refine ⟨args.map fun | .const _ => true | _ => false, fun w => ?_⟩
  simp only [execOp, resolve, Sem.run_bind, Sem.run_pure, Result.andThen_ok, invoke, args_eq ρ args]
  rfl

/-- A builtin that leaves the memory alone. -/
theorem builtin0_ok {P : Program} {s : Sg} {b : Builtin} {ats : Array TypeId} {type : TypeId} {cs : Array Bool} {l : List AV} {l' : List Value} {h h' : H} {v : AV} (hb : b = .min ∨ b = .max ∨ b = .complex ∨ b = .real ∨ b = .imag)
    (e : xbuiltin P b ats type l h = some (v, h')) (hl : VRs s l l') : h' = h ∧ QOk P s (builtin b ats type cs l'.toArray) v := by
  rcases hb with rfl | rfl | rfl | rfl | rfl
  · rcases l with _ | ⟨x, _ | ⟨y, _ | ⟨z, l⟩⟩⟩ <;> (try cases e; done)
    obtain ⟨x', y', rfl, hx, hy⟩ := hl.two
    obtain ⟨h1, h2⟩ := val_some e
    exact ⟨h2, QOk.of_pure (via2_ok (f := fun u v => Builtin.min_ ats type #[u, v]) h1 hx hy)⟩
  · rcases l with _ | ⟨x, _ | ⟨y, _ | ⟨z, l⟩⟩⟩ <;> (try cases e; done)
    obtain ⟨x', y', rfl, hx, hy⟩ := hl.two
    obtain ⟨h1, h2⟩ := val_some e
    exact ⟨h2, QOk.of_pure (via2_ok (f := fun u v => Builtin.max_ ats type #[u, v]) h1 hx hy)⟩
  · rcases l with _ | ⟨x, _ | ⟨y, _ | ⟨z, l⟩⟩⟩ <;> (try cases e; done)
    obtain ⟨x', y', rfl, hx, hy⟩ := hl.two
    obtain ⟨h1, h2⟩ := val_some e
    exact ⟨h2, QOk.of_pure (via2_ok (f := fun u v => Builtin.complex_ ats type #[u, v]) h1 hx hy)⟩
  · rcases l with _ | ⟨x, _ | ⟨y, l⟩⟩ <;> (try cases e; done)
    obtain ⟨x', rfl, hx⟩ := hl.one
    obtain ⟨h1, h2⟩ := val_some e
    exact ⟨h2, QOk.of_pure (via1_ok (f := fun u => Builtin.real_ ats type #[u]) h1 hx)⟩
  · rcases l with _ | ⟨x, _ | ⟨y, l⟩⟩ <;> (try cases e; done)
    obtain ⟨x', rfl, hx⟩ := hl.one
    obtain ⟨h1, h2⟩ := val_some e
    exact ⟨h2, QOk.of_pure (via1_ok (f := fun u => Builtin.imag_ ats type #[u]) h1 hx)⟩

/-- What a quiet operation of the first class answers, in any world. -/
theorem q0_ok {P : Program} {K : CallF} {s : Sg} {n : Nat} {fr : Fr} {a : Act} {h h' : H} {o : Oper} {v : AV} (k : FR s n fr a) (hc : classOf P o = 0) (e : xop P K fr h o = some (v, h')) : h' = h ∧ QOk P s (execOp a.eval o) v := by
  obtain ⟨dst, op, type, pos, after, guard⟩ := o
  cases op
  case move x =>
    obtain ⟨h1, h2⟩ := val_some (show val h (ev fr x) = some (v, h') from e)
    exact ⟨h2, a.eval x, fun w => rfl, ev_ok k h1⟩
  case assign x =>
    obtain ⟨h1, h2⟩ := val_some (show val h (ev fr x) = some (v, h') from e)
    exact ⟨h2, a.eval x, fun w => rfl, ev_ok k h1⟩
  case pick c x y =>
    replace e : opPick c x y P K type fr h = some (v, h') := e
    simp only [opPick] at e
    split at e
    · rename_i hb
      have hv := ev_ok k hb
      obtain ⟨h1, h2⟩ := val_some e
      refine ⟨h2, a.eval x, fun w => ?_, ev_ok k h1⟩
      cases hh : a.eval c <;> rw [hh] at hv <;> cases hv
      simp only [execOp, hh, asBool, Sem.run_bind, Sem.run_pure, Result.andThen_ok, if_true]
    · rename_i hb
      have hv := ev_ok k hb
      obtain ⟨h1, h2⟩ := val_some e
      refine ⟨h2, a.eval y, fun w => ?_, ev_ok k h1⟩
      cases hh : a.eval c <;> rw [hh] at hv <;> cases hv
      simp only [execOp, hh, asBool, Sem.run_bind, Sem.run_pure, Result.andThen_ok, Bool.false_eq_true, if_false]
    · cases e
  case build t parts =>
    replace e : opBuild t parts P K type fr h = some (v, h') := e
    simp only [opBuild] at e
    split at e
    · rename_i l hl
      obtain ⟨h1, h2⟩ := val_some e
      have hp := evParts_ok k hl
      refine ⟨h2, ?_⟩
      have := QOk.of_pure (xbuild_ok h1 hp)
      have he : execOp a.eval ⟨dst, .build t parts, type, pos, after, guard⟩ = (do pure (.value (← Instr.build t ⟨parts.toList.map fun x => (x.1, a.eval x.2)⟩))) := by
        simp only [execOp]
        congr 2
        apply Array.ext'; simp
      rw [he]; exact this
    · cases e
  case nilCheck x =>
    replace e : opNilCheck x P K type fr h = some (v, h') := e
    simp only [opNilCheck] at e
    split at e
    · rename_i b o hb
      cases e
      have hv := ev_ok k hb
      refine ⟨rfl, a.eval x, fun w => ?_, hv⟩
      cases hh : a.eval x <;> rw [hh] at hv <;> cases hv
      simp only [execOp, hh, Sem.run_pure]
    · rename_i hb
      cases e
      have hv := ev_ok k hb
      refine ⟨rfl, a.eval x, fun w => ?_, hv⟩
      cases hh : a.eval x <;> rw [hh] at hv <;> cases hv <;> simp only [execOp, hh, Sem.run_pure]
    · rename_i hb
      cases e
      have hv := ev_ok k hb
      refine ⟨rfl, a.eval x, fun w => ?_, hv⟩
      cases hh : a.eval x <;> rw [hh] at hv <;> cases hv
      simp only [execOp, hh, Sem.run_pure]
    · cases e
  case binOp op t x y t2 =>
    replace e : opBinOp op t x y t2 P K type fr h = some (v, h') := e
    simp only [opBinOp] at e
    split at e
    · rename_i hx hy
      obtain ⟨h1, h2⟩ := val_some e
      exact ⟨h2, QOk.of_pure (xbin_ok h1 (ev_ok k hx) (ev_ok k hy) x y)⟩
    · cases e
  case unOp op t x =>
    replace e : opUnOp op t x P K type fr h = some (v, h') := e
    simp only [opUnOp] at e
    split at e
    · rename_i b hb
      have hv := ev_ok k hb
      split at e
      · cases e
        refine ⟨rfl, .bool (!b), fun w => ?_, .bool _⟩
        cases hh : a.eval x <;> rw [hh] at hv <;> cases hv
        simp only [execOp, hh, Op.unary, Sem.run_bind, Sem.run_pure, Result.andThen_ok]
      · cases e
    · rename_i u _ hb
      obtain ⟨h1, h2⟩ := val_some e
      exact ⟨h2, QOk.of_pure (via1_ok (f := Op.unary op) h1 (ev_ok k hb))⟩
    · cases e
  case makeFunc f first caps =>
    replace e : opMakeFunc f first caps P K type fr h = some (v, h') := e
    simp only [opMakeFunc] at e
    split at e
    · split at e
      · rename_i g _ _ l1 l2 h1 h2
        cases e
        refine ⟨rfl, .func (.func g) ⟨first.toList.map a.eval⟩ ⟨caps.toList.map a.eval⟩, fun w => ?_, .fn g (evAll_ok k h1) (evAll_ok k h2)⟩
        simp only [execOp, Instr.makeFunc, Sem.run_bind, Sem.run_pure, Result.andThen_ok, args_eq]
      · cases e
    · cases e
  case slice t x lo hi mx =>
    replace e : opSlice t x lo hi mx P K type fr h = some (v, h') := e
    simp only [opSlice] at e
    split at e
    · rename_i h1 h2 h3 h4
      obtain ⟨e1, e2⟩ := val_some e
      exact ⟨e2, QOk.of_pure (xslice_ok e1 (ev_ok k h1) (evO_ok k h2) (evO_ok k h3) (evO_ok k h4))⟩
    · cases e
  case fieldAddr t x f =>
    replace e : opFieldAddr t x f P K type fr h = some (v, h') := e
    simp only [opFieldAddr] at e
    split at e
    · rename_i hx
      obtain ⟨h1, h2⟩ := val_some e
      exact ⟨h2, QOk.of_pure (xfieldAddr_ok h1 (ev_ok k hx))⟩
    · cases e
  case field t x f =>
    replace e : opField t x f P K type fr h = some (v, h') := e
    simp only [opField] at e
    split at e
    · rename_i hx
      obtain ⟨h1, h2⟩ := val_some e
      exact ⟨h2, QOk.of_pure (xfield_ok h1 (ev_ok k hx))⟩
    · cases e
  case indexAddr t x i =>
    replace e : opIndexAddr t x i P K type fr h = some (v, h') := e
    simp only [opIndexAddr] at e
    split at e
    · rename_i hx hi
      obtain ⟨h1, h2⟩ := val_some e
      exact ⟨h2, QOk.of_pure (xindexAddr_ok h1 (ev_ok k hx) (ev_ok k hi))⟩
    · cases e
  case index t x i =>
    replace e : opIndex t x i P K type fr h = some (v, h') := e
    simp only [opIndex] at e
    split at e
    · rename_i hx hi
      obtain ⟨h1, h2⟩ := val_some e
      exact ⟨h2, QOk.of_pure (xindex_ok h1 (ev_ok k hx) (ev_ok k hi))⟩
    · cases e
  case extract t i =>
    replace e : opExtract t i P K type fr h = some (v, h') := e
    simp only [opExtract] at e
    split at e
    · rename_i hx
      obtain ⟨h1, h2⟩ := val_some e
      exact ⟨h2, QOk.of_pure (xextract_ok h1 (ev_ok k hx))⟩
    · cases e
  case call c =>
    obtain ⟨callee, args, ats⟩ := c
    cases callee
    case builtin b =>
      replace e : callB b ⟨.builtin b, args, ats⟩ P type fr h = some (v, h') := e
      simp only [callB] at e
      split at e
      · rename_i l hl
        have hargs := evAll_ok k hl
        have hb : b = .min ∨ b = .max ∨ b = .complex ∨ b = .real ∨ b = .imag := by cases b <;> first | (cases hc; done) | simp
        obtain ⟨cs, hr⟩ := run_callB (P := P) a.eval dst b args ats type pos after guard
        obtain ⟨h1, v', h2, h3⟩ := builtin0_ok (cs := cs) hb e hargs
        exact ⟨h1, v', fun w => (hr w).trans (h2 w), h3⟩
      · cases e
    all_goals cases hc
  all_goals first
    | (cases hc; done)
    | (simp only [classOf] at hc; split at hc <;> cases hc; done)
    | (rename_i r; cases r <;> cases hc; done)

theorem VR.str0 (s : Sg) : VR s (.str []) (.string ByteArray.empty) := by simpa using VR.str (s := s) ByteArray.empty

theorem bytesOf_ok {s : Sg} : ∀ {l : List AV} {l' : List Value} {r : List Nat}, bytesOf l = some r → VRs s l l' → ∃ ns : List Int, l' = ns.map (Value.int .u8) ∧ r = ns.map fun n => n.toNat % 256
  | [], l', r, h, hl => by
    have := Option.some.inj h
    subst this
    cases hl
    exact ⟨[], rfl, rfl⟩
  | x :: l, l', r, h, hl => by
    cases hl with | cons hx hl =>
    cases x <;> (try (simp [bytesOf] at h; done))
    rename_i k n
    cases k <;> (try (simp [bytesOf] at h; done))
    simp only [bytesOf] at h
    split at h
    · rename_i r0 h0
      cases h
      cases hx
      obtain ⟨ns, h1, h2⟩ := bytesOf_ok h0 hl
      exact ⟨n :: ns, by simp [h1], by simp [h2]⟩
    · cases h

theorem push_bytes : ∀ (ns : List Int) (b : ByteArray), (ns.foldl (fun r n => r.push (UInt8.ofNat n.toNat)) b).data.toList.map UInt8.toNat = b.data.toList.map UInt8.toNat ++ ns.map fun n => n.toNat % 256
  | [], b => by simp
  | n :: ns, b => by
    rw [List.foldl_cons, push_bytes ns]
    simp [ByteArray.push]

theorem xconv0_ok {P : Program} {s : Sg} {h h' : H} {w : World} (k : HR s h w) {src dst : TypeId} {x v : AV} {x' : Value} (hd : ∀ e, P.underlying dst ≠ some (.slice e)) (e : xconv P src dst x h = some (v, h')) (hx : VR s x x') :
    h' = h ∧ ∃ v', (convert src dst x').run P w = .ok v' w ∧ VR s v v' := by
  unfold xconv at e
  split at e
  · rename_i el hu
    exact (hd el hu).elim
  unfold xconvS at e
  split at e
  · rename_i kd n
    cases hx
    split at e
    · rename_i kd2 hu
      split at e
      · rename_i d hsd
        obtain ⟨h1, h2⟩ := val_some e
        refine ⟨h2, .int kd2 (kd2.wrap n), ?_, by rw [intRes_some h1]; exact .int _ _⟩
        unfold convert
        simp only [Sem.run_bind, run_underlying hsd, run_underlying hu, Result.andThen_ok, Conv.intToInt, Sem.run_pure]
      · cases e
    · obtain ⟨h1, h2⟩ := val_some e
      obtain ⟨v', hr, hv⟩ := via1_ok (f := convert src dst) h1 (.int (s := s) _ _)
      exact ⟨h2, v', hr w, hv⟩
  · obtain ⟨h1, h2⟩ := val_some e
    obtain ⟨v', hr, hv⟩ := via1_ok (f := convert src dst) h1 hx
    exact ⟨h2, v', hr w, hv⟩
  · obtain ⟨h1, h2⟩ := val_some e
    obtain ⟨v', hr, hv⟩ := via1_ok (f := convert src dst) h1 hx
    exact ⟨h2, v', hr w, hv⟩
  · split at e
    · rename_i hu
      split at e
      · rename_i d hsd
        cases e
        cases hx
        rename_i b
        refine ⟨rfl, .string b, ?_, .str b⟩
        unfold convert
        simp only [Sem.run_bind, run_underlying hsd, run_underlying hu, Result.andThen_ok, Sem.run_pure]
      · cases e
    · cases e
  · split at e
    · rename_i el hs hu
      split at e
      · rename_i hel
        cases e
        cases hx
        refine ⟨rfl, .string .empty, ?_, .str0 s⟩
        rw [run_convert_bytes_string w src dst el none 0 0 hs hel hu]
        rfl
      · cases e
    · cases e
  · rename_i b o n c z
    split at e
    · rename_i el hs hu
      split at e
      · rename_i hel
        split at e
        · rename_i hz
          subst hz
          split at e
          · rename_i hn
            cases e
            subst hn
            have hx' : ∃ ad c', x' = .slice (some ad) 0 c' := by cases hx <;> exact ⟨_, _, rfl⟩
            obtain ⟨ad, c', rfl⟩ := hx'
            refine ⟨rfl, .string .empty, ?_, .str0 s⟩
            rw [run_convert_bytes_string w src dst el (some ad) 0 c' hs hel hu]
            exact run_bytesToString w ad 0 c' [] rfl
          · rename_i hn
            cases hx
            · rename_i l c' h1_ h2_ h3_ h4_
              split at e
              · rename_i row hr
                obtain ⟨cs, ty, fr, R⟩ := k.row (by assumption) hr
                split at e
                · rename_i r hg
                  split at e
                  · rename_i ns hb
                    cases e
                    obtain ⟨hle, r', h1, h2, h3⟩ := takeR_ok R hg
                    obtain ⟨is, rfl, rfl⟩ := bytesOf_ok hb h1
                    have hld := load_row (P := P) (o := l.sh + o) R.heap h2 (fun j v hj => by rw [Nat.add_assoc]; exact h3 j v hj)
                    refine ⟨rfl, .string (is.foldl (fun r n => r.push (UInt8.ofNat n.toNat)) ByteArray.empty), ?_, ?_⟩
                    · rw [run_convert_bytes_string w src dst el _ _ _ hs hel hu]
                      exact run_bytesToString w _ n c' is hld
                    · have := VR.str (s := s) (is.foldl (fun r n => r.push (UInt8.ofNat n.toNat)) ByteArray.empty)
                      rw [push_bytes] at this
                      simpa using this
                  · cases e
                · cases e
              · cases e
            · exact (hn rfl).elim
        · cases e
      · cases e
    · cases e
  · cases e

theorem xlen_ok {P : Program} {s : Sg} {h : H} {w : World} (k : HR s h w) {ats : Array TypeId} {type : TypeId} {x v : AV} {x' : Value} (e : xlen P ats x h = some v) (hx : VR s x x') :
    ∃ v', (Builtin.len_ ats type #[x']).run P w = .ok v' w ∧ VR s v v' := by
  simp only [xlen] at e
  split at e
  · rename_i t ht
    unfold Builtin.len_
    have h0 : (#[x'] : Array Value)[0]? = some x' := rfl
    simp only [ht, h0]
    split at e
    · rename_i hu
      split at e
      · cases e
        cases hx
        rename_i b
        refine ⟨goInt b.size, by simp only [Sem.run_bind, run_underlying hu, Result.andThen_ok, Sem.run_pure], ?_⟩
        rw [List.length_map]
        exact .int _ _
      · cases e
    · rename_i n el hu
      cases e
      exact ⟨goInt n, by simp only [Sem.run_bind, run_underlying hu, Result.andThen_ok, Sem.run_pure], .int _ _⟩
    · rename_i el hu
      split at e
      · cases e
        cases hx <;> exact ⟨goInt _, by simp only [Sem.run_bind, run_underlying hu, Result.andThen_ok, Sem.run_pure], .int _ _⟩
      · cases e
        cases hx
        exact ⟨goInt 0, by simp only [Sem.run_bind, run_underlying hu, Result.andThen_ok, Sem.run_pure]; rfl, .int _ _⟩
      · cases e
    · rename_i kt et hu
      split at e
      · cases e
        cases hx
        exact ⟨goInt 0, by simp only [Sem.run_bind, run_underlying hu, Result.andThen_ok, Sem.run_pure], .int _ _⟩
      · split at e
        · rename_i es c hm
          cases e
          cases hx
          obtain ⟨es', h1, h2⟩ := k.mapR (by assumption) hm
          refine ⟨goInt es'.size, by simp only [Sem.run_bind, run_underlying hu, Result.andThen_ok, run_getObj_map h1, Sem.run_pure], ?_⟩
          rw [h2.length, Array.length_toList]
          exact .int _ _
        · cases e
      · cases e
    · cases e
  · cases e

/-- What a quiet operation that looks at the memory answers. -/
theorem q3_ok {P : Program} {K : CallF} {s : Sg} {n : Nat} {fr : Fr} {a : Act} {h h' : H} {w : World} {o : Oper} {v : AV} (k : FR s n fr a) (hr : HR s h w) (hc : classOf P o = 3) (e : xop P K fr h o = some (v, h')) :
    h' = h ∧ ∃ v', (execOp a.eval o).run P w = .ok (.value v') w ∧ VR s v v' := by
  obtain ⟨dst, op, type, pos, after, guard⟩ := o
  have key : ∀ {x : Sem Value} {v : AV}, (∃ v', x.run P w = .ok v' w ∧ VR s v v') → ∃ v', (do pure (Next.value (← x)) : Sem Next).run P w = .ok (.value v') w ∧ VR s v v' := fun ⟨v', h1, h2⟩ => ⟨v', by simp only [Sem.run_bind, h1, Result.andThen_ok, Sem.run_pure], h2⟩
  cases op
  case load t x =>
    replace e : opLoad t x P K type fr h = some (v, h') := e
    simp only [opLoad] at e
    split at e
    · rename_i hx
      obtain ⟨h1, h2⟩ := val_some e
      exact ⟨h2, key (xload_ok hr h1 (ev_ok k hx))⟩
    · cases e
  case lookup t x i ok =>
    replace e : opLookup t x i ok P K type fr h = some (v, h') := e
    simp only [opLookup] at e
    split at e
    · rename_i hx hi
      obtain ⟨h1, h2⟩ := val_some e
      exact ⟨h2, key (xlookup_ok hr h1 (ev_ok k hx) (ev_ok k hi))⟩
    · cases e
  case convert src dst x =>
    have hd : ∀ e, P.underlying dst ≠ some (.slice e) := fun e he => by
      simp only [classOf, he] at hc
      cases hc
    replace e : opConvert src dst x P K type fr h = some (v, h') := e
    simp only [opConvert] at e
    split at e
    · rename_i hx
      obtain ⟨h1, h2⟩ := xconv0_ok hr hd e (ev_ok k hx)
      exact ⟨h1, key h2⟩
    · cases e
  case call c =>
    obtain ⟨callee, args, ats⟩ := c
    cases callee
    case builtin b =>
      replace e : callB b ⟨.builtin b, args, ats⟩ P type fr h = some (v, h') := e
      simp only [callB] at e
      split at e
      · rename_i l hl
        have hargs := evAll_ok k hl
        have hb : b = .len := by cases b <;> first | (cases hc; done) | rfl
        subst hb
        obtain ⟨cs, hrun⟩ := run_callB (P := P) a.eval dst .len args ats type pos after guard
        rcases l with _ | ⟨x, _ | ⟨y, l⟩⟩ <;> (try cases e; done)
        obtain ⟨x', hx', hx⟩ := hargs.one
        obtain ⟨h1, h2⟩ := val_some (show val h (xlen P ats x h) = some (v, h') from e)
        obtain ⟨v', hv1, hv2⟩ := xlen_ok (type := type) hr h1 hx
        refine ⟨h2, v', ?_, hv2⟩
        rw [hrun w, hx']
        simp only [builtin, Sem.run_bind, hv1, Result.andThen_ok, Sem.run_pure]
      · cases e
    all_goals cases hc
  all_goals first
    | (cases hc; done)
    | (rename_i r; cases r <;> cases hc; done)
end
end Go.Proofs.YtpnoifikpmfpdaaDoorX
namespace Go.Proofs.YtpnoifikpmfpdaaDoorX
open Go
set_option linter.unusedVariables false
set_option linter.unusedSimpArgs false
noncomputable section

/-- The later world has one block more. -/
structure Fresh (w w' : World) (o : Obj) : Prop where
  size : w'.heap.size = w.heap.size + 1
  old : ∀ c, c < w.heap.size → w'.heap[c]? = w.heap[c]?
  new : w'.heap[w.heap.size]? = some o
  os : w'.os = w.os
  tape : w'.tape = w.tape
  output : w'.output = w.output

theorem Fresh.alloc (w : World) (o : Obj) : Fresh w (w.alloc o) o := by
  refine ⟨World.size_alloc w o, fun c hc => ?_, ?_, rfl, rfl, rfl⟩
  · simp only [World.alloc, Array.getElem?_push]; rw [if_neg (by omega)]
  · simp only [World.alloc, Array.getElem?_push, if_true]

/-- What an operation that makes a block does. -/
def MOk (P : Program) (s : Sg) (e : Sem Next) (ob : AO) (mk : Id → AV) : Prop :=
  ∀ w, ∃ lim o v' w', e.run P w = .ok (.value v') w' ∧ Fresh w w' o ∧
    (∀ s' w2, s.le s' → w2.heap[w.heap.size]? = some o → ObjR s' ob ⟨w.heap.size, 0, lim⟩ w2) ∧ ∀ s' b, s.le s' → s' b = some ⟨w.heap.size, 0, lim⟩ → VR s' (mk b) v'

theorem putL_get : ∀ (l : List AV) (o : Nat) (t : T AV) (i : Nat), T.get (slot i) (putL l o t) = if o ≤ i ∧ i < o + l.length then l[i - o]? else T.get (slot i) t
  | [], o, t, i => by rw [if_neg (by simp)]; rfl
  | v :: l, o, t, i => by
    simp only [putL]
    rw [putL_get l (o + 1) _ i]
    by_cases h1 : o + 1 ≤ i ∧ i < o + 1 + l.length
    · rw [if_pos h1, if_pos (by simp; omega), show i - o = (i - (o + 1)) + 1 by omega]
      simp
    · rw [if_neg h1]
      by_cases h2 : o = i
      · subst h2
        rw [T.get_put_same, if_pos (by simp)]
        simp
      · rw [T.get_put_ne _ _ _ _ (fun e => h2 (slot_inj e)), if_neg (by simp; omega)]

theorem rowOf_ok {s : Sg} {l : List AV} {l' rest : List Value} {w : World} {g : Nat} {cs : Array Value} {e : TypeId} {fr : Nat × Nat} (hv : VRs s l l') (hc : cs.toList = l' ++ rest) (hh : w.heap[g]? = some (.cells cs e fr))
    (hs : ∀ j, j < cs.size → ¬ (fr.1 ≤ j ∧ j < fr.2)) : ObjR s (.cells (rowOf l)) ⟨g, 0, cs.size⟩ w := by
  have hlen := hv.length
  have hsz : cs.size = l'.length + rest.length := by rw [← Array.length_toList, hc, List.length_append]
  refine ⟨cs, e, fr, hh, rfl, by show 0 + l.length ≤ cs.size; omega, hs, fun i v hi hg => ?_⟩
  have hg : T.get (slot i) (putL l 0 .nil) = some v := hg
  rw [putL_get] at hg
  have hi : i < l.length := hi
  rw [if_pos (by omega)] at hg
  obtain ⟨v', h1, h2⟩ := hv.get i v (by simpa using hg)
  refine ⟨v', ?_, h2⟩
  rw [Nat.zero_add, ← Array.getElem?_toList, hc, List.getElem?_append_left (by omega)]
  exact h1

theorem reps_length (l : List AV) : ∀ n, (reps l n).length = n * l.length
  | 0 => by simp [reps]
  | n + 1 => by simp [reps, reps_length l n, Nat.succ_mul]; omega

theorem reps_get (l : List AV) : ∀ (n i : Nat), i < n * l.length → (reps l n)[i]? = l[i % l.length]?
  | 0, i, h => by simp at h
  | n + 1, i, h => by
    simp only [reps]
    by_cases h1 : i < l.length
    · rw [List.getElem?_append_left h1, Nat.mod_eq_of_lt h1]
    · rw [List.getElem?_append_right (by omega), reps_get l n (i - l.length) (by rw [Nat.succ_mul] at h; omega)]
      congr 1
      rw [← Nat.mod_eq_sub_mod (by omega)]

theorem reps_ok {s : Sg} {l : List AV} {z : Array Value} (hz : VRs s l z.toList) (n : Nat) : VRs s (reps l n) ((Array.range (n * l.length)).map (fun i => z[i % z.size]!)).toList := by
  have hlen : l.length = z.size := by simpa using hz.length
  refine VRs.of_get (by simp [reps_length]) fun i x hx => ?_
  have hi : i < n * l.length := by
    have := (List.getElem?_eq_some_iff.1 hx).1
    rwa [reps_length] at this
  rw [reps_get l n i hi] at hx
  obtain ⟨y, h1, h2⟩ := hz.get _ x hx
  refine ⟨y, ?_, h2⟩
  rw [Array.getElem?_toList] at h1 ⊢
  rw [Array.getElem?_map]
  have hr : (Array.range (n * l.length))[i]? = some i := by simp [hi]
  rw [hr]
  simp only [Option.map_some]
  rw [hlen] at h1
  congr 1
  have := (Array.getElem?_eq_some_iff.1 h1)
  obtain ⟨hlt, he⟩ := this
  rw [getElem!_pos z _ hlt, he]

theorem xbuildSlice_ok {P : Program} {s : Sg} {t : TypeId} {len : Nat} {parts : List (Nat × AV)} {parts' : List (Nat × Value)} {h h' : H} {v : AV} (e : xbuildSlice P t len parts h = some (v, h')) (hp : PR s parts parts') :
    ∃ ob mk, (∀ h2, xbuildSlice P t len parts h2 = newB h2 ob mk) ∧ MOk P s (do pure (.value (← Instr.buildSlice t len ⟨parts'⟩))) ob mk := by
  unfold xbuildSlice at e ⊢
  split at e
  · rename_i elem hu
    split at e
    · rename_i size hs
      split at e
      · rename_i hb
        split at e
        · rename_i z hz
          obtain ⟨z', hzr, hzv⟩ := zeroT_ok hz
          split at e
          · rename_i hzl
            split at e
            · rename_i c hc
              refine ⟨.cells (rowOf c), fun b => .slc b 0 len len size, fun h2 => by rw [if_pos hb, if_pos hzl], fun w => ?_⟩
              have hz1 : ∃ z1 : Array Value, ((len * size = 0 ∧ z1 = #[]) ∨ (¬ len * size = 0 ∧ z1 = z'.cells)) ∧ VRs s (reps (cellsOf z) len) ((Array.range (len * size)).map (fun i => z1[i % z1.size]!)).toList := by
                by_cases h0 : len * size = 0
                · refine ⟨#[], .inl ⟨h0, rfl⟩, ?_⟩
                  have : len = 0 := by
                    rcases Nat.mul_eq_zero.1 h0 with h | h
                    · exact h
                    · omega
                  subst this
                  simpa [reps, h0] using VRs.nil (s := s)
                · refine ⟨z'.cells, .inr ⟨h0, rfl⟩, ?_⟩
                  have := reps_ok ((hzv s).cells) len
                  rwa [hzl] at this
              obtain ⟨z1, hz1, hz2⟩ := hz1
              obtain ⟨c', hf, hr⟩ := xfill_ok hp hz2 hc
              refine ⟨c'.size, .cells c' elem, .slice (some ⟨w.heap.size, 0, none⟩) len len, w.alloc (.cells c' elem), ?_, Fresh.alloc w _, fun s' w2 hle hw2 => rowOf_ok (rest := []) (hr.mono hle) (by simp) hw2 (fun j _ => by simp), fun s' b hle hb' => ?_⟩
              · unfold Instr.buildSlice
                have h24 : ¬ (len * size > 2 ^ 24) := by omega
                rcases hz1 with ⟨h0, rfl⟩ | ⟨h0, rfl⟩
                · simp only [Sem.run_bind, run_underlying hu, Result.andThen_ok, sizeT_ok hs w, h24, h0, if_true, if_false, newRow, Sem.run_pure]
                  rw [h0] at hf
                  rw [if_neg (by omega : ¬ (0 > 2 ^ 24))]
                  simp only [Sem.run_bind, Sem.run_pure, Result.andThen_ok, hf, run_newObj]
                  rfl
                · simp only [Sem.run_bind, run_underlying hu, Result.andThen_ok, sizeT_ok hs w, h24, h0, if_false, hzr w, newRow, Sem.run_pure, hf, run_newObj]
                  rfl
              · have hcl : c'.size = len * size := by
                  have h1 : c.length = c'.size := by simpa using hr.length
                  have h2 : c.length = (reps (cellsOf z) len).length := by
                    clear hf hr h1
                    have : ∀ (l : List (Nat × AV)) (a c : List AV), xfill (fun i => some (i * size, size)) a l = some c → c.length = a.length := by
                      intro l
                      induction l with
                      | nil => intro a c h; have := Option.some.inj h; rw [this]
                      | cons x l ih =>
                        intro a c h
                        obtain ⟨i, v⟩ := x
                        simp only [xfill] at h
                        split at h
                        · split at h
                          · rename_i c1 h1
                            rw [ih _ _ h]
                            simp only [splice] at h1
                            split at h1
                            · rename_i hh
                              simp only [Bool.and_eq_true, decide_eq_true_eq] at hh
                              cases h1
                              simp; omega
                            · cases h1
                          · cases h
                        · cases h
                    exact this _ _ _ hc
                  rw [← h1, h2, reps_length, hzl]
                have := VR.slc (s := s') (b := b) (o := 0) (n := len) (c := len) (c' := len) (z := size) hb' (Nat.le_refl _) (Nat.le_refl _) (by show 0 + 0 + len * size ≤ c'.size; omega)
                exact this
            · cases e
          · cases e
        · cases e
      · cases e
    · cases e
  · cases e

theorem zeroT_some {P : Program} {t : TypeId} {z : AV} {i : TypeInfo} (h : zeroT P t = some z) (hi : P.info? t = some i) : ∃ v, i.zero = some v ∧ ∀ s, VR s z v := by
  simp only [zeroT, hi] at h
  split at h
  · rename_i v hv
    exact ⟨v, hv, fun s => ofV_ok s 20 v z h⟩
  · cases h

theorem xmakeSlice_ok {P : Program} {s : Sg} {n : Nat} {fr : Fr} {a : Act} (kf : FR s n fr a) {t : TypeId} {l c : Operand} {K : CallF} {type : TypeId} {h h' : H} {v : AV} (e : opMakeSlice t l c P K type fr h = some (v, h')) :
    ∃ ob mk, (∀ h2, opMakeSlice t l c P K type fr h2 = newB h2 ob mk) ∧ MOk P s (do pure (.value (← Instr.makeSlice t (a.eval l) (a.eval c)))) ob mk := by
  unfold opMakeSlice at e ⊢
  split at e
  · rename_i kl li kc ci hl hc
    have vl := ev_ok kf hl
    have vc := ev_ok kf hc
    split at e
    · rename_i elem hu
      split at e
      · rename_i info hi
        split at e
        · rename_i hb
          split at e
          · rename_i z hz
            obtain ⟨z', hzr, hzv⟩ := zeroT_ok hz
            split at e
            · rename_i hzl
              refine ⟨.cells (rowOf (reps (cellsOf z) ci.toNat)), fun b => .slc b 0 li.toNat ci.toNat info.size, fun h2 => by rw [if_pos hb, if_pos hzl], fun w => ?_⟩
              generalize a.eval l = lv at vl
              generalize a.eval c = cv at vc
              cases vl
              cases vc
              obtain ⟨zv, hzv1, hzv2⟩ := zeroT_some hz hi
              have hz2 := reps_ok ((hzv2 s).cells) ci.toNat
              rw [hzl] at hz2
              obtain ⟨hb1, hb2, hb3, hb4, hb5⟩ := hb
              have hbytes : (info.bytes : Int) * ci ≤ 281474976710656 := by
                have h1 : (info.bytes : Int) * ci ≤ 65536 * 16777216 := Int.mul_le_mul (by omega) (by omega) (by omega) (by omega)
                omega
              refine ⟨ci.toNat * info.size, .cells (madeCells zv.cells (ci.toNat * info.size)) elem, .slice (some ⟨w.heap.size, 0, none⟩) li.toNat ci.toNat, w.alloc (.cells (madeCells zv.cells (ci.toNat * info.size)) elem), ?_, Fresh.alloc w _, fun s' w2 hle hw2 => ?_, fun s' b hle hb' => ?_⟩
              · simp only [Sem.run_bind, run_make w t elem info zv hu hi hzv1 kl kc li ci hb1 hb2 hbytes (by omega), Result.andThen_ok, Sem.run_pure]
              · have := rowOf_ok (rest := []) (hz2.mono hle) (by simp [madeCells]) hw2 (fun j _ => by simp)
                rwa [size_madeCells] at this
              · exact VR.slc (s := s') (b := b) (o := 0) (n := li.toNat) (c := ci.toNat) (c' := ci.toNat) (z := info.size) hb' (by omega) (Nat.le_refl _) (by show 0 + 0 + ci.toNat * info.size ≤ ci.toNat * info.size; omega)
            · cases e
          · cases e
        · cases e
      · cases e
    · cases e
  · cases e
end
end Go.Proofs.YtpnoifikpmfpdaaDoorX
namespace Go.Proofs.YtpnoifikpmfpdaaDoorX
open Go
set_option linter.unusedVariables false
set_option linter.unusedSimpArgs false
noncomputable section

theorem u8s_ok (s : Sg) (b : ByteArray) : VRs s (u8s (b.data.toList.map UInt8.toNat)) (b.data.toList.map fun x => Value.int .u8 x.toNat) := by
  generalize b.data.toList = l
  induction l with
  | nil => exact .nil
  | cons x l ih => exact .cons (.int _ _) ih

/-- What an operation that makes a block does, of the first class or the second. -/
theorem m_ok {P : Program} {K : CallF} {s : Sg} {n : Nat} {fr : Fr} {a : Act} {h h' : H} {o : Oper} {v : AV} (k : FR s n fr a) (hc : classOf P o = 1) (e : xop P K fr h o = some (v, h')) :
    ∃ ob mk, (∀ K' h2, xop P K' fr h2 o = newB h2 ob mk) ∧ MOk P s (execOp a.eval o) ob mk := by
  obtain ⟨dst, op, type, pos, after, guard⟩ := o
  cases op
  case alloc t =>
    replace e : opAlloc t P K type fr h = some (v, h') := e
    simp only [opAlloc] at e
    split at e
    · rename_i z hz
      obtain ⟨z', hzr, hzv⟩ := zeroT_ok hz
      refine ⟨.cells (rowOf (cellsOf z)), fun b => .ptr b 0, fun K' h2 => by show opAlloc t P K' type fr h2 = _; simp only [opAlloc, hz], fun w => ⟨z'.cells.size, .cells z'.cells t, .pointer (some ⟨w.heap.size, 0, none⟩), w.alloc (.cells z'.cells t), ?_, Fresh.alloc w _, fun s' w2 hle hw2 => rowOf_ok (rest := []) ((hzv s').cells) (by simp) hw2 (fun j _ => by simp), fun s' b hle hb => .ptr 0 hb⟩⟩
      simp only [execOp, Instr.alloc, newVar, newRow, Sem.run_bind, hzr w, Result.andThen_ok, run_newObj, Sem.run_pure]
      rfl
    · cases e
  case box t x =>
    replace e : opBox t x P K type fr h = some (v, h') := e
    simp only [opBox] at e
    split at e
    · rename_i u hx
      have hv := ev_ok k hx
      refine ⟨.cells (rowOf (cellsOf u)), fun b => .ptr b 0, fun K' h2 => by show opBox t x P K' type fr h2 = _; simp only [opBox, hx], fun w => ⟨(a.eval x).cells.size, .cells (a.eval x).cells t, .pointer (some ⟨w.heap.size, 0, none⟩), w.alloc (.cells (a.eval x).cells t), ?_, Fresh.alloc w _, fun s' w2 hle hw2 => rowOf_ok (rest := []) ((hv.mono hle).cells) (by simp) hw2 (fun j _ => by simp), fun s' b hle hb => .ptr 0 hb⟩⟩
      simp only [execOp, Instr.box, newVar, newRow, Sem.run_bind, Result.andThen_ok, run_newObj, Sem.run_pure]
      rfl
    · cases e
  case buildSlice t len parts =>
    replace e : opBuildSlice t len parts P K type fr h = some (v, h') := e
    simp only [opBuildSlice] at e
    split at e
    · rename_i l hl
      obtain ⟨ob, mk, h1, h2⟩ := xbuildSlice_ok e (evParts_ok k hl)
      refine ⟨ob, mk, fun K' h2 => ?_, ?_⟩
      · show opBuildSlice t len parts P K' type fr h2 = _
        simp only [opBuildSlice, hl]
        exact h1 h2
      · have he : execOp a.eval ⟨dst, .buildSlice t len parts, type, pos, after, guard⟩ = (do pure (.value (← Instr.buildSlice t len ⟨parts.toList.map fun x => (x.1, a.eval x.2)⟩))) := by
          simp only [execOp]
          congr 2
          apply Array.ext'; simp
        rw [he]; exact h2
    · cases e
  case makeMap t r =>
    cases r
    · replace e : opMakeMap t none P K type fr h = some (v, h') := e
      refine ⟨.omap [] 0, fun b => .map b, fun K' h2 => rfl, fun w => ⟨0, .map #[] 0, .map (some w.heap.size), w.alloc (.map #[] 0), ?_, Fresh.alloc w _, fun s' w2 hle hw2 => ⟨#[], hw2, .nil⟩, fun s' b hle hb => .map hb⟩⟩
      simp only [execOp, Instr.makeMap, Option.map_none, Sem.run_bind, Result.andThen_ok, run_newObj, Sem.run_pure]
      rfl
    · cases hc
  case makeSlice t l c =>
    obtain ⟨ob, mk, h1, h2⟩ := xmakeSlice_ok k (show opMakeSlice t l c P K type fr h = some (v, h') from e)
    exact ⟨ob, mk, fun K' => h1, h2⟩
  case convert src dst x =>
    replace e : opConvert src dst x P K type fr h = some (v, h') := e
    simp only [opConvert] at e
    split at e
    · rename_i u hx
      have hv := ev_ok k hx
      have hsl : ∃ el, P.underlying dst = some (.slice el) := by
        simp only [classOf] at hc
        split at hc
        · exact ⟨_, by assumption⟩
        · cases hc
      obtain ⟨el, hd⟩ := hsl
      simp only [xconv, hd, xconvB] at e
      split at e
      · rename_i p
        split at e
        · rename_i hel
          split at e
          · rename_i sd hs
            refine ⟨.cells (rowOf (u8s p)), fun b => .slc b 0 p.length p.length 1, fun K' h2 => by show opConvert src dst x P K' type fr h2 = _; simp only [opConvert, hx, xconv, xconvB, hd, hel, hs], fun w => ?_⟩
            generalize hav : a.eval x = av at hv
            cases hv
            rename_i b
            have hln : (b.data.toList.map UInt8.toNat).length = b.size := by rw [List.length_map]; exact Array.length_toList
            refine ⟨(Lib.bytesCells w el b).size, .cells (Lib.bytesCells w el b) el ((Lib.bytesCells w el b).size, (Lib.bytesCells w el b).size + 1), .slice (some ⟨w.heap.size, 0, none⟩) b.size (grownCap w b.size 0 el), Lib.bytesWorld w el b, ?_, ⟨Lib.bytesWorld_size w el b, fun c hc => Lib.bytesWorld_at_old w el b c hc, Lib.bytesWorld_at_new w el b, rfl, rfl, rfl⟩, fun s' w2 hle hw2 => ?_, fun s' bb hle hb => ?_⟩
            · simp only [execOp, hav, Sem.run_bind, Lib.run_convert_string_bytes w src dst el b hs hd hel, Result.andThen_ok, Sem.run_pure]
            · refine rowOf_ok (rest := (Array.replicate (grownCap w b.size 0 el - b.size) (Value.int .u8 0)).toList) (u8s_ok s' b) ?_ hw2 (fun j hj => by simp; omega)
              simp [Lib.bytesCells]
            · rw [hln]
              refine VR.slc (c' := grownCap w b.size 0 el) hb (Nat.le_refl _) (grownCap_ge w b.size 0 el) ?_
              have : (Lib.bytesCells w el b).size = grownCap w b.size 0 el := by
                have := grownCap_ge w b.size 0 el
                simp [Lib.bytesCells]
                omega
              rw [this]
              show 0 + 0 + grownCap w b.size 0 el * 1 ≤ grownCap w b.size 0 el
              omega
          · cases e
        · cases e
      · cases e
    · cases e
  all_goals first
    | (cases hc; done)
    | (rename_i c; obtain ⟨callee, args, ats⟩ := c; cases callee <;> (try cases hc; done); rename_i b; cases b <;> cases hc)
end
end Go.Proofs.YtpnoifikpmfpdaaDoorX
namespace Go.Proofs.YtpnoifikpmfpdaaDoorX
open Go
set_option linter.unusedVariables false
set_option linter.unusedSimpArgs false
noncomputable section

/-- What an operation does: an answer, a picture of the memory behind it. -/
def EOk (P : Program) (s : Sg) (h : H) (w : World) (e : Sem Next) (v : AV) (h' : H) : Prop :=
  ∃ s' v' w', (e.run P w = .ok (.value v') w' ∨ (e.run P w = .ok .skip w' ∧ v' = undef)) ∧ HR s' h' w' ∧ Grows s h w s' h' w' ∧ VR s' v v'

theorem EOk.unit {P : Program} {s : Sg} {h h' : H} {w w' : World} {e : Sem Unit} (hr : e.run P w = .ok () w') (h1 : HR s h' w') (h2 : Grows s h w s h' w') : EOk P s h w (do e; pure .skip) undefA h' :=
  ⟨s, undef, w', .inr ⟨by simp only [Sem.run_bind, hr, Result.andThen_ok, Sem.run_pure], rfl⟩, h1, h2, .tup .nil⟩

theorem EOk.value {P : Program} {s s' : Sg} {h h' : H} {w w' : World} {e : Sem Value} {v : AV} (v' : Value) (hr : e.run P w = .ok v' w') (h1 : HR s' h' w') (h2 : Grows s h w s' h' w') (hv : VR s' v v') :
    EOk P s h w (do pure (.value (← e))) v h' :=
  ⟨s', v', w', .inl (by simp only [Sem.run_bind, hr, Result.andThen_ok, Sem.run_pure]), h1, h2, hv⟩

theorem spliceR_ok {P : Program} {s : Sg} {l : Loc} {row row' : Row} {w : World} {cs : Array Value} {e : TypeId} {fr : Nat × Nat} (R : RowR s l row w cs e fr) {o : Nat} {vs : List AV} {vs' : List Value} (h : spliceR row o vs = some row') (hv : VRs s vs vs') :
    ∃ cs', (storeCells ⟨l.blk, l.sh + o, none⟩ vs').run P w = .ok () (setB w l.blk (.cells cs' e fr)) ∧ ∀ w2, w2.heap[l.blk]? = some (.cells cs' e fr) → ObjR s (.cells row') l w2 := by
  simp only [spliceR, cnd_eq] at h
  split at h
  · rename_i hb
    cases h
    simp only [Bool.and_eq_true] at hb
    have hle : o + vs.length ≤ row.n := by simpa using hb.1
    have hlen := hv.length
    have hf := R.fits
    have hl := R.lim
    obtain ⟨cs', h1, h2, h3⟩ := run_storeCells' P l.blk (l.sh + o) e fr vs' 0 cs w R.heap R.soft (by omega) (hv.isCell hb.2)
    refine ⟨cs', h1, fun w2 hw2 => ⟨cs', e, fr, hw2, by omega, hf, fun j hj => R.soft j (by omega), fun i v hi hg => ?_⟩⟩
    have hg : T.get (slot i) (putL vs o row.t) = some v := hg
    have hi : i < row.n := hi
    rw [putL_get] at hg
    rw [h3]
    by_cases hc : o ≤ i ∧ i < o + vs.length
    · rw [if_pos hc] at hg
      rw [if_pos (by omega)]
      obtain ⟨y, hy, hr⟩ := hv.get _ v hg
      exact ⟨y, by rw [← hy]; congr 1; omega, hr⟩
    · rw [if_neg hc] at hg
      rw [if_neg (by omega)]
      exact R.cell i v hi hg
  · cases h

theorem store_put {P : Program} {s : Sg} {h : H} {w : World} (k : HR s h w) {b : Id} {l : Loc} {row row' : Row} {o : Nat} {vs : List AV} {vs' : List Value} (hl : s b = some l) (hr : rowAt h b = some row) (hs : spliceR row o vs = some row') (hv : VRs s vs vs') :
    ∃ w', (storeCells ⟨l.blk, l.sh + o, none⟩ vs').run P w = .ok () w' ∧ HR s (putRow h b row') w' ∧ Grows s h w s (putRow h b row') w' := by
  obtain ⟨cs, ty, fr, R⟩ := k.row hl hr
  obtain ⟨cs', h1, h2⟩ := spliceR_ok (P := P) R hs hv
  obtain ⟨h3, h4⟩ := k.put (o' := .cells row') (ob := .cells cs' ty fr) (rowAt_some hr) hl h2
  exact ⟨_, h1, h3, h4⟩

theorem xstore_ok {P : Program} {s : Sg} {h h' : H} {w : World} (k : HR s h w) {t : TypeId} {x v : AV} {x' v' : Value} (e : xstore P t x v h = some h') (hx : VR s x x') (hv : VR s v v') :
    EOk P s h w (do Instr.storeAt t x' v'; pure .skip) undefA h' := by
  cases hx <;> (try cases e; done)
  rename_i b l o hl
  simp only [xstore] at e
  split at e
  · rename_i row hr
    split at e
    · rename_i n hn
      split at e
      · rename_i hsz
        split at e
        · rename_i row' hs
          cases e
          have hc := hv.cells
          obtain ⟨w', h1, h2, h3⟩ := store_put (P := P) k hl hr hs hc
          refine EOk.unit ?_ h2 h3
          unfold Instr.storeAt storeVar
          have hlen : (cellsOf v).length = v'.cells.size := by simpa using hc.length
          simp only [Sem.run_bind, Instr.sureAddr, Sem.run_pure, Result.andThen_ok, sizeT_ok hn w]
          rw [if_neg (by omega)]
          simp only [Sem.run_bind, Sem.run_pure, Result.andThen_ok, h1]
        · cases e
      · cases e
    · cases e
  · cases e

/-! ### maps that change -/
theorem run_setObj_map {P : Program} {w : World} {g : Nat} {es : Array MapEntry} {c : Nat} (h : w.heap[g]? = some (.map es c)) (o : Obj) : (setObj g o).run P w = .ok () (setB w g o) := by
  simp only [setObj, Sem.run, h]; rfl

theorem map_put {s : Sg} {h : H} {w : World} (k : HR s h w) {b : Id} {l : Loc} {es es2 : List (AV × AV × Nat)} {c c2 : Nat} {es2' : Array MapEntry} (hl : s b = some l) (hm : mapAt h b = some (es, c)) (he : ER s es2 es2'.toList) :
    HR s (putMap h b es2 c2) (setB w l.blk (.map es2' c2)) ∧ Grows s h w s (putMap h b es2 c2) (setB w l.blk (.map es2' c2)) :=
  k.put (o' := .omap es2 c2) (mapAt_some hm) hl fun w2 hw2 => ⟨es2', hw2, he⟩

theorem ER.append {s : Sg} : ∀ {a b : List (AV × AV × Nat)} {a' b' : List MapEntry}, ER s a a' → ER s b b' → ER s (a ++ b) (a' ++ b')
  | _, _, _, _, .nil, h => h
  | _, _, _, _, .cons x y z, h => .cons x y (ER.append z h)

theorem ER.setKV {s : Sg} {k v : AV} {k' v' : Value} (hk : VR s k k') (hv : VR s v v') : ∀ {es : List (AV × AV × Nat)} {es' : List MapEntry}, ER s es es' → ∀ i, ER s (setKV k v es i) (es'.modify i fun e => { e with key := k', val := v' })
  | _, _, .nil, i => by cases i <;> exact .nil
  | _, _, .cons a b c, 0 => .cons hk hv c
  | _, _, .cons a b c, i + 1 => .cons a b (ER.setKV hk hv c i)

theorem ER.setVal {s : Sg} {v : AV} {v' : Value} (hv : VR s v v') : ∀ {es : List (AV × AV × Nat)} {es' : List MapEntry}, ER s es es' → ∀ i, ER s (setVal v es i) (es'.modify i fun e => { e with val := v' })
  | _, _, .nil, i => by cases i <;> exact .nil
  | _, _, .cons a b c, 0 => .cons a hv c
  | _, _, .cons a b c, i + 1 => .cons a b (ER.setVal hv c i)

theorem ER.eraseIdx {s : Sg} : ∀ {es : List (AV × AV × Nat)} {es' : List MapEntry}, ER s es es' → ∀ i, ER s (es.eraseIdx i) (es'.eraseIdx i)
  | _, _, .nil, i => by simp; exact .nil
  | _, _, .cons a b c, 0 => c
  | _, _, .cons a b c, i + 1 => .cons a b (ER.eraseIdx c i)

theorem ER.bornAt {s : Sg} {n : Int} : ∀ {es : List (AV × AV × Nat)} {es' : List MapEntry}, ER s es es' → ∀ k i, bornAt n es k = some i → k ≤ i ∧ es'.findIdx? (fun e => (e.born : Int) == n) = some (i - k)
  | _, _, .nil, k, i, h => by cases h
  | _, _, .cons (n := bn) a b c, k, i, h => by
    simp only [Go.Proofs.YtpnoifikpmfpdaaDoorX.bornAt] at h
    split at h
    · rename_i he
      cases h
      refine ⟨Nat.le_refl _, ?_⟩
      rw [List.findIdx?_cons]
      simp [he]
    · rename_i he
      obtain ⟨h1, h2⟩ := ER.bornAt c (k + 1) i h
      refine ⟨by omega, ?_⟩
      rw [List.findIdx?_cons]
      simp only [he, h2]
      simp
      omega

theorem run_keyThatStays {P : Program} {w : World} {old new : Value} (h : Instr.sameBits 10000 old new = true) : (Instr.keyThatStays old new).run P w = .ok new w := by
  unfold Instr.keyThatStays
  rw [if_pos h]; rfl

theorem entry_key {es' : Array MapEntry} {i : Nat} {e : MapEntry} {d : Value} (h : es'.toList[i]? = some e) : ((es'[i]?).map (·.key)).getD d = e.key := by
  rw [Array.getElem?_toList] at h
  rw [h]; rfl

theorem xmapUpdate_ok {P : Program} {s : Sg} {h h' : H} {w : World} (k : HR s h w) {t : TypeId} {m key v : AV} {m' key' v' : Value} (e : xmapUpdate P t m key v h = some h') (hm : VR s m m') (hk : VR s key key') (hv : VR s v v') :
    EOk P s h w (do Instr.mapUpdate t m' key' v'; pure .skip) undefA h' := by
  simp only [xmapUpdate] at e
  split at e
  · rename_i kt et hu
    split at e
    · rename_i kk hkk
      split at e
      · rename_i hok
        split at e
        · cases hm
          rename_i b l hl
          split at e
          · rename_i es c hma
            obtain ⟨es', h1, h2⟩ := k.mapR hl hma
            split at e
            · rename_i i v0 bn hf
              cases e
              obtain ⟨r', h3, h4⟩ := findKey_ok (w := w) hkk hok hk h2 hf
              match r', h3, h4 with
              | some (i', v0'), h3, ⟨hi, _, _, en, hen, _, _, hsb⟩ =>
                subst hi
                rw [Nat.sub_zero] at hen
                obtain ⟨h5, h6⟩ := map_put (c2 := c) (es2' := es'.modify i fun e => { e with key := key', val := v' }) k hl hma (by rw [Array.toList_modify]; exact h2.setKV hk hv i)
                refine EOk.unit ?_ h5 h6
                unfold Instr.mapUpdate
                simp only [Sem.run_bind, run_underlying hu, Result.andThen_ok, run_getObj_map h1, checkKey_ok hkk hok hk, h3, entry_key hen, run_keyThatStays hsb, run_setObj_map h1]
            · rename_i hf
              cases e
              obtain ⟨r', h3, h4⟩ := findKey_ok (w := w) hkk hok hk h2 hf
              match r', h3, h4 with
              | none, h3, _ =>
                obtain ⟨h5, h6⟩ := map_put (c2 := c + 1) (es2' := es'.push { key := key', val := v', born := c }) k hl hma (by rw [Array.toList_push]; exact h2.append (.cons hk hv .nil))
                refine EOk.unit ?_ h5 h6
                unfold Instr.mapUpdate
                simp only [Sem.run_bind, run_underlying hu, Result.andThen_ok, run_getObj_map h1, checkKey_ok hkk hok hk, h3, run_setObj_map h1]
            · cases e
          · cases e
        · cases e
      · cases e
    · cases e
  · cases e

theorem xmapEntry_ok {P : Program} {s : Sg} {h h' : H} {w : World} (k : HR s h w) {t : TypeId} {m key v : AV} {m' key' : Value} (e : xmapEntry P t m key h = some (v, h')) (hm : VR s m m') (hk : VR s key key') :
    EOk P s h w (do pure (.value (← Instr.mapEntry t m' key'))) v h' := by
  simp only [xmapEntry] at e
  split at e
  · rename_i kt et hu
    split at e
    · rename_i kk hkk
      split at e
      · rename_i hok
        split at e
        · cases hm
          rename_i b l hl
          split at e
          · rename_i es c hma
            obtain ⟨es', h1, h2⟩ := k.mapR hl hma
            split at e
            · rename_i i v0 bn hf
              cases e
              obtain ⟨r', h3, h4⟩ := findKey_ok (w := w) hkk hok hk h2 hf
              match r', h3, h4 with
              | some (i', v0'), h3, ⟨hi, hv0, _, en, hen, hval, hborn, hsb⟩ =>
                subst hi
                rw [Nat.sub_zero] at hen
                have hen' : es'[i]? = some en := by rw [← Array.getElem?_toList]; exact hen
                have hmod : (es'.modify i fun e => { e with key := key' }) = es'.modify i fun e => { e with key := key', val := v0' } := by
                  refine Array.ext_getElem? fun j => ?_
                  simp only [Array.getElem?_modify]
                  split
                  · rename_i ej; subst ej; rw [hen']; simp [← hval]
                  · rfl
                obtain ⟨h5, h6⟩ := map_put (c2 := c) (es2' := es'.modify i fun e => { e with key := key' }) k hl hma (by rw [hmod, Array.toList_modify]; exact h2.setKV hk hv0 i)
                refine EOk.value (.tuple #[v0', goInt bn]) ?_ h5 h6 (.tup (.cons hv0 (.cons (.int _ _) .nil)))
                unfold Instr.mapEntry
                simp only [Sem.run_bind, run_underlying hu, Result.andThen_ok, run_getObj_map h1, checkKey_ok hkk hok hk, h3, entry_key hen, run_keyThatStays hsb, run_setObj_map h1, Sem.run_pure, hen', Option.map_some, Option.getD_some, hborn]
            · rename_i hf
              split at e
              · rename_i z hz
                obtain ⟨z', hzr, hzv⟩ := zeroT_ok hz
                cases e
                obtain ⟨r', h3, h4⟩ := findKey_ok (w := w) hkk hok hk h2 hf
                match r', h3, h4 with
                | none, h3, _ =>
                  obtain ⟨h5, h6⟩ := map_put (c2 := c + 1) (es2' := es'.push { key := key', val := z', born := c }) k hl hma (by rw [Array.toList_push]; exact h2.append (.cons hk (hzv s) .nil))
                  refine EOk.value (.tuple #[z', goInt c]) ?_ h5 h6 (.tup (.cons (hzv s) (.cons (.int _ _) .nil)))
                  unfold Instr.mapEntry
                  simp only [Sem.run_bind, run_underlying hu, Result.andThen_ok, run_getObj_map h1, checkKey_ok hkk hok hk, h3, hzr w, run_setObj_map h1, Sem.run_pure]
              · cases e
            · cases e
          · cases e
        · cases e
      · cases e
    · cases e
  · cases e

theorem xentryStore_ok {P : Program} {s : Sg} {h h' : H} {w : World} (k : HR s h w) {t : TypeId} {m st v : AV} {m' st' v' : Value} (e : xentryStore m st v h = some h') (hm : VR s m m') (hs : VR s st st') (hv : VR s v v') :
    EOk P s h w (do Instr.entryStore t m' st' v'; pure .skip) undefA h' := by
  cases hm <;> cases hs <;> (try cases e; done)
  rename_i b l hl kd n
  simp only [xentryStore] at e
  split at e
  · rename_i es c hma
    obtain ⟨es', h1, h2⟩ := k.mapR hl hma
    split at e
    · rename_i i hb
      cases e
      obtain ⟨_, h3⟩ := h2.bornAt 0 i hb
      obtain ⟨h5, h6⟩ := map_put (c2 := c) (es2' := es'.modify i fun e => { e with val := v' }) k hl hma (by rw [Array.toList_modify]; exact h2.setVal hv i)
      refine EOk.unit ?_ h5 h6
      unfold Instr.entryStore
      have h3' : es'.findIdx? (fun e => (e.born : Int) == n) = some i := by
        rw [← List.findIdx?_toArray] at h3
        simpa using h3
      simp only [Sem.run_bind, Result.andThen_ok, run_getObj_map h1, asInt, asIntOf, Sem.run_pure, h3', run_setObj_map h1]
    · cases e
  · cases e

theorem xdelete_ok {P : Program} {s : Sg} {h h' : H} {w : World} (k : HR s h w) {ats : Array TypeId} {type t : TypeId} {m key : AV} {m' key' : Value} (ht : ats[0]? = some t) (e : xdelete P t m key h = some h') (hm : VR s m m') (hk : VR s key key') :
    EOk P s h w (do pure (.value (← Builtin.delete_ ats type #[m', key']))) (.tup []) h' := by
  have q0 : (#[m', key'] : Array Value)[0]? = some m' := rfl
  have q1 : (#[m', key'] : Array Value)[1]? = some key' := rfl
  simp only [xdelete] at e
  split at e
  · rename_i kt et hu
    split at e
    · rename_i kk hkk
      split at e
      · rename_i hok
        split at e
        · cases hm
          cases e
          refine EOk.value (.tuple #[]) ?_ k (Grows.refl _ _ _) (.tup .nil)
          unfold Builtin.delete_
          simp only [ht, q0, q1, Sem.run_bind, run_underlying hu, Result.andThen_ok, checkKey_ok hkk hok hk, Sem.run_pure]
        · cases hm
          rename_i b l hl
          split at e
          · rename_i es c hma
            obtain ⟨es', h1, h2⟩ := k.mapR hl hma
            split at e
            · rename_i i v0 bn hf
              cases e
              obtain ⟨r', h3, h4⟩ := findKey_ok (w := w) hkk hok hk h2 hf
              match r', h3, h4 with
              | some (i', v0'), h3, ⟨hi, _, _, en, hen, _, _, hsb⟩ =>
                subst hi
                obtain ⟨h5, h6⟩ := map_put (c2 := c) (es2' := es'.eraseIdxIfInBounds i) k hl hma (by
                  have : (es'.eraseIdxIfInBounds i).toList = es'.toList.eraseIdx i := by simp
                  rw [this]; exact h2.eraseIdx i)
                refine EOk.value (.tuple #[]) ?_ h5 h6 (.tup .nil)
                unfold Builtin.delete_
                simp only [ht, q0, q1, Sem.run_bind, run_underlying hu, Result.andThen_ok, run_getObj_map h1, checkKey_ok hkk hok hk, h3, run_setObj_map h1, Sem.run_pure]
            · rename_i hf
              cases e
              obtain ⟨r', h3, h4⟩ := findKey_ok (w := w) hkk hok hk h2 hf
              match r', h3, h4 with
              | none, h3, _ =>
                refine EOk.value (.tuple #[]) (w' := w) ?_ k (Grows.refl _ _ _) (.tup .nil)
                unfold Builtin.delete_
                simp only [ht, q0, q1, Sem.run_bind, run_underlying hu, Result.andThen_ok, run_getObj_map h1, checkKey_ok hkk hok hk, h3, run_setObj_map h1, Sem.run_pure]
                rw [setB_self w _ _ (by simpa using h1)]
            · cases e
          · cases e
        · cases e
      · cases e
    · cases e
  · cases e
end
end Go.Proofs.YtpnoifikpmfpdaaDoorX
namespace Go.Proofs.YtpnoifikpmfpdaaDoorX
open Go
set_option linter.unusedVariables false
set_option linter.unusedSimpArgs false
noncomputable section

/-- A row of the picture holds a list. -/
def RowIs (s : Sg) (row : Row) (l : List Value) : Prop := row.n ≤ l.length ∧ ∀ i v, i < row.n → T.get (slot i) row.t = some v → ∃ v', l[i]? = some v' ∧ VR s v v'

theorem RowIs.rowOf {s : Sg} {l : List AV} {l' : List Value} (h : VRs s l l') : RowIs s (rowOf l) l' := by
  have hlen := h.length
  refine ⟨by show l.length ≤ l'.length; omega, fun i v hi hg => ?_⟩
  have hg : T.get (slot i) (putL l 0 .nil) = some v := hg
  have hi : i < l.length := hi
  rw [putL_get, if_pos (by omega)] at hg
  exact h.get i v (by simpa using hg)

theorem RowIs.obj {s : Sg} {row : Row} {l rest : List Value} {w : World} {g : Nat} {cs : Array Value} {e : TypeId} (h : RowIs s row l) (hc : cs.toList = l ++ rest) (hh : w.heap[g]? = some (.cells cs e (0, 0))) : ObjR s (.cells row) ⟨g, 0, cs.size⟩ w := by
  have hsz : cs.size = l.length + rest.length := by rw [← Array.length_toList, hc, List.length_append]
  have hn := h.1
  refine ⟨cs, e, (0, 0), hh, rfl, by show 0 + row.n ≤ cs.size; omega, fun j _ => by simp, fun i v hi hg => ?_⟩
  obtain ⟨v', h1, h2⟩ := h.2 i v hi hg
  refine ⟨v', ?_, h2⟩
  have : i < l.length := (List.getElem?_eq_some_iff.1 h1).1
  rw [Nat.zero_add, ← Array.getElem?_toList, hc, List.getElem?_append_left this]
  exact h1

/-- The first cells of a slice or a string. -/
theorem firstA_ok {P : Program} {s : Sg} {h : H} {w : World} (k : HR s h w) {size n : Nat} {x : AV} {x' : Value} {r : List AV} (e : firstA size n x h = some r) (hx : VR s x x') :
    ∃ r', VRs s r r' ∧ r'.length = n * size ∧ ∀ w2, w2.heap = w.heap → (Builtin.firstCells size n x').run P w2 = .ok r'.toArray w2 := by
  cases hx <;> (try cases e; done)
  · rename_i b
    simp only [firstA] at e
    split at e
    · rename_i hb
      cases e
      obtain ⟨hs, hn⟩ := hb
      subst hs
      have hsz : b.data.toList.length = b.size := Array.length_toList
      simp only [List.length_map] at hn
      refine ⟨(b.data.toList.take n).map fun x => Value.int .u8 x.toNat, ?_, by simp; omega, fun w2 _ => ?_⟩
      · have : u8s ((b.data.toList.map UInt8.toNat).take n) = u8s (((b.extract 0 n).data.toList).map UInt8.toNat) := by
          congr 1
          rw [← List.map_take]
          congr 1
          have : (b.extract 0 n).data = b.data.extract 0 n := ByteArray.data_extract
          rw [this]
          simp
        have h2 := u8s_ok s (b.extract 0 n)
        rw [← this] at h2
        have h3 : (b.extract 0 n).data.toList = b.data.toList.take n := by
          have : (b.extract 0 n).data = b.data.extract 0 n := ByteArray.data_extract
          rw [this]
          simp
        rwa [h3] at h2
      · simp only [Builtin.firstCells, Sem.run_pure]
        congr 1
        apply Array.ext'
        have : (b.extract 0 n).data = b.data.extract 0 n := ByteArray.data_extract
        simp [this]
    · cases e
  · rename_i b l o len c c' z hl h1 h2 h3
    simp only [firstA] at e
    split at e
    · rename_i hb
      obtain ⟨hz, hn⟩ := hb
      subst hz
      split at e
      · rename_i row hr
        obtain ⟨cs, ty, fr, R⟩ := k.row (by assumption) hr
        obtain ⟨hle, r', h4, h5, h6⟩ := takeR_ok R e
        refine ⟨r', h4, h5, fun w2 hw2 => ?_⟩
        have hh : w2.heap[l.blk]? = some (.cells cs ty fr) := by rw [hw2]; exact R.heap
        exact load_row (P := P) (o := l.sh + o) hh h5 (fun j v hj => by rw [Nat.add_assoc]; exact h6 j v hj)
      · cases e
    · cases e
  · rename_i b o z a
    simp only [firstA] at e
    split at e
    · rename_i hb
      have hn : n = 0 := by omega
      subst hn
      split at e
      · rename_i row hr
        have : r = [] := by
          simp only [takeR, cnd_eq] at e
          split at e
          · rw [Nat.zero_mul] at e
            exact (Option.some.inj e).symm
          · cases e
        subst this
        exact ⟨[], .nil, by simp, fun w2 _ => by simp only [Builtin.firstCells, Nat.zero_mul]; rfl⟩
      · cases e
    · cases e
  · simp only [firstA] at e
    split at e
    · rename_i hn
      cases e
      subst hn
      exact ⟨[], .nil, by simp, fun w2 _ => rfl⟩
    · cases e

theorem lenA_ok {P : Program} {s : Sg} {x : AV} {x' : Value} {n : Nat} (e : lenA x = some n) (hx : VR s x x') (w : World) : (Builtin.lenOf x').run P w = .ok n w := by
  cases hx <;> (try cases e; done) <;> cases e
  · rename_i b
    have : (b.data.toList.map UInt8.toNat).length = b.size := by rw [List.length_map]; exact Array.length_toList
    rw [this]; rfl
  all_goals rfl

/-- What 'append' asks of its types. -/
structure AppT (P : Program) (ats : Array TypeId) (st elem : TypeId) (i : TypeInfo) (z : Value) : Prop where
  h0 : ats[0]? = some st
  hu : P.underlying st = some (.slice elem)
  hi : P.info? elem = some i
  hz : i.zero = some z
  hx : ats[1]? = none ∨ ∃ xt d, ats[1]? = some xt ∧ P.underlying xt = some d ∧ ∀ k, d ≠ .int k

theorem append_fits {P : Program} {ats : Array TypeId} {st elem type : TypeId} {i : TypeInfo} {z : Value} (A : AppT P ats st elem i z) {w w' : World} {a : Addr} {sLen sCap n : Nat} {x' : Value} {new' : List Value}
    (hl : (Builtin.lenOf x').run P w = .ok n w) (hn : sLen + n ≤ sCap) (hf : (Builtin.firstCells i.size n x').run P w = .ok new'.toArray w) (hst : (storeCells (a.add (sLen * i.size)) new').run P w = .ok () w') :
    (Builtin.append_ ats type #[.slice (some a) sLen sCap, x']).run P w = .ok (.slice (some a) (sLen + n) sCap) w' := by
  have q0 : (#[Value.slice (some a) sLen sCap, x'] : Array Value)[0]? = some (.slice (some a) sLen sCap) := rfl
  have q1 : (#[Value.slice (some a) sLen sCap, x'] : Array Value)[1]? = some x' := rfl
  unfold Builtin.append_
  simp only [A.h0, q0, q1, Sem.run_bind, run_underlying A.hu, Result.andThen_ok, sizeOf, run_typeInfo w A.hi, Sem.run_pure]
  rcases A.hx with hxt | ⟨xt, d, hxt, hd, hne⟩
  · simp only [hxt, Sem.run_pure, Result.andThen_ok, Bool.false_eq_true, if_false, Sem.run_bind, hl, hn, if_true, Bool.not_false, hf, hst]
  · cases d <;> first
      | exact (hne _ rfl).elim
      | simp only [hxt, run_underlying hd, Sem.run_pure, Result.andThen_ok, Bool.false_eq_true, if_false, Sem.run_bind, hl, hn, if_true, Bool.not_false, hf, hst]

theorem append_grows {P : Program} {ats : Array TypeId} {st elem type : TypeId} {i : TypeInfo} {z : Value} (A : AppT P ats st elem i z) {w : World} {base : Option Addr} {sLen sCap n : Nat} {x' : Value} {old' new' : List Value}
    (hl : (Builtin.lenOf x').run P w = .ok n w) (hn : sCap < sLen + n) (hb : sLen + n ≤ 16777216) (hby : i.bytes ≤ 65536) (hf : ∀ w2, w2.heap = w.heap → (Builtin.firstCells i.size n x').run P w2 = .ok new'.toArray w2)
    (ho : ∀ w2, w2.heap = w.heap → (Builtin.firstCells i.size sLen (.slice base sLen sCap)).run P w2 = .ok old'.toArray w2) :
    (Builtin.append_ ats type #[.slice base sLen sCap, x']).run P w =
      .ok (.slice (some ⟨w.heap.size, 0, none⟩) (sLen + n) (grownCap w (sLen + n) sCap elem))
        (w.drew.alloc (.cells (old'.toArray ++ new'.toArray ++ Builtin.zeroCells z.cells (grownCap w (sLen + n) sCap elem - (sLen + n))) elem)) := by
  have q0 : (#[Value.slice base sLen sCap, x'] : Array Value)[0]? = some (.slice base sLen sCap) := rfl
  have q1 : (#[Value.slice base sLen sCap, x'] : Array Value)[1]? = some x' := rfl
  have hn' : ¬ (sLen + n ≤ sCap) := by omega
  have hti : ∀ w2, (typeInfo elem).run P w2 = .ok i w2 := fun w2 => run_typeInfo w2 A.hi
  have h63 : ¬ (((sLen + n : Nat) : Int) > IntKind.i64.max ∧ (False ∨ i.bytes = 0)) := by
    have : IntKind.i64.max = 9223372036854775807 := rfl
    rw [this]; omega
  have hfit : ¬ (Builtin.nextslicecap (sLen + n) sCap * i.bytes > 2 ^ 48) := by
    have h1 : (sLen + n) * i.bytes ≤ 16777216 * 65536 := Nat.mul_le_mul hb hby
    have := growslice_fits hn (bytes := i.bytes) (by omega)
    omega
  have hd : ∀ q, q = Question.appendCap (sLen + n) sCap elem → (choose q).run P w = .ok (grownCap w (sLen + n) sCap elem) w.drew := fun q hq => by subst hq; rfl
  have hzv : ∀ w2, (zeroValue elem).run P w2 = .ok z w2 := fun w2 => by simp only [zeroValue, Sem.run_bind, run_typeInfo w2 A.hi, Result.andThen_ok, A.hz, Sem.run_pure]
  unfold Builtin.append_
  simp only [A.h0, q0, q1, Sem.run_bind, run_underlying A.hu, Result.andThen_ok, sizeOf, run_typeInfo w A.hi, Sem.run_pure]
  rcases A.hx with hxt | ⟨xt, d, hxt, hd', hne⟩
  · simp only [hxt, Sem.run_pure, Result.andThen_ok, Bool.false_eq_true, if_false, Sem.run_bind, hl, hn', Bool.not_false, if_true, hti, h63, hfit, hd _ rfl, run_askRoom, ho w.drew rfl, hf w.drew rfl, hzv, newRow, run_newObj]
    rfl
  · cases d <;> first
      | exact (hne _ rfl).elim
      | (simp only [hxt, run_underlying hd', Sem.run_pure, Result.andThen_ok, Bool.false_eq_true, if_false, Sem.run_bind, hl, hn', Bool.not_false, if_true, hti, h63, hfit, hd _ rfl, run_askRoom, ho w.drew rfl, hf w.drew rfl, hzv, newRow, run_newObj]; rfl)
end
end Go.Proofs.YtpnoifikpmfpdaaDoorX
namespace Go.Proofs.YtpnoifikpmfpdaaDoorX
open Go
set_option linter.unusedVariables false
set_option linter.unusedSimpArgs false
noncomputable section

theorem Pic.of {s : Sg} {h : H} {b : Id} {o : AO} {l : Loc} (hb : T.get b h.t = some o) (hl : s b = some l) : Pic s h l.blk := ⟨b, o, l, hb, hl, rfl⟩

/-- Behind a block's end a picture has it no more. -/
theorem not_pic_kill {s : Sg} {h : H} {w : World} (k : HR s h w) {b : Id} {o : AO} {l : Loc} (hb : T.get b h.t = some o) (hl : s b = some l) : ¬ Pic s (killB h b) l.blk := by
  rintro ⟨c, x, m, hx, hm, e⟩
  by_cases ec : b = c
  · subst ec
    rw [show T.get b (killB h b).t = none from T.get_put_same _ _ _] at hx
    cases hx
  · have hx' : T.get c h.t = some x := by
      rw [show T.get c (killB h b).t = T.get c h.t from T.get_put_ne _ _ _ _ ec] at hx
      exact hx
    exact ec (k.inj b c o x l m hb hx' hl hm e.symm)

theorem grown_ge (w : World) (need old : Nat) (e : TypeId) : need ≤ grownCap w need old e := grownCap_ge w need old e

/-- A list behind another one, as a new block that takes the place of an elder one (or of none). -/
theorem new_grown {s : Sg} {h h0 : H} {w : World} (k : HR s h w) (hk : HR s h0 w) (hg : Grows s h w s h0 w) {row : Row} {l rest : List Value} {e : TypeId} {n lim : Nat} (hr : RowIs s row l) (hnx : h0.nx = h.nx) :
    ∃ s', HR s' ⟨T.put (some (.cells row)) h0.nx h0.t, inc h0.nx⟩ (w.drew.alloc (.cells (l.toArray ++ rest.toArray) e)) ∧ s' h0.nx = some ⟨w.heap.size, 0, (l.toArray ++ rest.toArray).size⟩ ∧
      Grows s h w s' ⟨T.put (some (.cells row)) h0.nx h0.t, inc h0.nx⟩ (w.drew.alloc (.cells (l.toArray ++ rest.toArray) e)) := by
  have hk2 : HR s h0 w.drew := hk.drawn _
  obtain ⟨s', h1, h2, h3⟩ := hk2.new (.cells row) (l.toArray ++ rest.toArray).size (.cells (l.toArray ++ rest.toArray) e) fun s' w2 hle hw2 => by
    have hr' : RowIs s' row l := ⟨hr.1, fun i v hi hgt => by obtain ⟨v', a, b⟩ := hr.2 i v hi hgt; exact ⟨v', a, b.mono hle⟩⟩
    exact hr'.obj (rest := rest) (by simp) hw2
  exact ⟨s', h1, h2, (hg.trans (Grows.drawn s h0 w _)).trans h3⟩

theorem plainX_ok {P : Program} {ats : Array TypeId} (h : plainX P ats = true) : ats[1]? = none ∨ ∃ xt d, ats[1]? = some xt ∧ P.underlying xt = some d ∧ ∀ k, d ≠ .int k := by
  unfold plainX at h
  cases hq : ats[1]? with
  | none => exact .inl rfl
  | some xt =>
    rw [hq] at h
    dsimp only at h
    cases hd : P.underlying xt with
    | none => rw [hd] at h; cases h
    | some d => exact .inr ⟨xt, d, rfl, hd, fun kk ek => by subst ek; rw [hd] at h; cases h⟩

theorem zeroOk_ok {P : Program} {t : TypeId} {n : Nat} {i : TypeInfo} (h : zeroOk P t n = true) (hi : P.info? t = some i) : ∃ z, i.zero = some z ∧ z.cells.size = n := by
  unfold zeroOk at h
  cases hz : zeroT P t with
  | none => rw [hz] at h; cases h
  | some z =>
    rw [hz] at h
    obtain ⟨v, h1, h2⟩ := zeroT_some hz hi
    refine ⟨v, h1, ?_⟩
    have h3 : (cellsOf z).length = v.cells.size := by simpa using (h2 (fun _ => none)).cells.length
    have h4 : (cellsOf z).length = n := by simpa using h
    omega

theorem xappend_ok {P : Program} {s : Sg} {h h' : H} {w : World} (k : HR s h w) {ats : Array TypeId} {type : TypeId} {x y v : AV} {x' y' : Value} (e : xappend P ats x y h = some (v, h')) (hx : VR s x x') (hy : VR s y y') :
    EOk P s h w (do pure (.value (← Builtin.append_ ats type #[x', y']))) v h' := by
  simp only [xappend] at e
  split at e
  · rename_i st hst
    split at e
    · rename_i elem hu
      split at e
      · rename_i info hi
        split at e
        · rename_i hb
          obtain ⟨hsz, hby, hzs, hxt⟩ := hb
          obtain ⟨z, hz, hzl⟩ := zeroOk_ok hzs hi
          have A : AppT P ats st elem info z := ⟨hst, hu, hi, hz, plainX_ok hxt⟩
          split at e
          · rename_i n hn
            have hlen := lenA_ok (P := P) hn hy
            split at e
            · rename_i new hnew
              obtain ⟨new', hv, hnl, hf⟩ := firstA_ok (P := P) k hnew hy
              split at e
              · rename_i hcell
                split at e
                · cases hx
                  split at e
                  · rename_i hn0
                    cases e
                    subst hn0
                    refine EOk.value (.slice none 0 0) (w' := w) ?_ k (Grows.refl _ _ _) .snil
                    have q0 : (#[Value.slice none 0 0, y'] : Array Value)[0]? = some (.slice none 0 0) := rfl
                    have q1 : (#[Value.slice none 0 0, y'] : Array Value)[1]? = some y' := rfl
                    unfold Builtin.append_
                    simp only [A.h0, q0, q1, Sem.run_bind, run_underlying A.hu, Result.andThen_ok, sizeOf, run_typeInfo w A.hi, Sem.run_pure]
                    rcases A.hx with hxt | ⟨xt, d, hxt, hd, hne⟩
                    · simp only [hxt, Sem.run_pure, Result.andThen_ok, Bool.false_eq_true, if_false, Sem.run_bind, hlen w, Nat.add_zero, Nat.le_refl, if_true, Bool.not_false, hf w rfl]
                    · cases d <;> first
                        | exact (hne _ rfl).elim
                        | simp only [hxt, run_underlying hd, Sem.run_pure, Result.andThen_ok, Bool.false_eq_true, if_false, Sem.run_bind, hlen w, Nat.add_zero, Nat.le_refl, if_true, Bool.not_false, hf w rfl]
                  · rename_i hn0
                    split at e
                    · rename_i hle
                      cases e
                      have hrun := append_grows (type := type) A (w := w) (base := none) (sLen := 0) (sCap := 0) (old' := []) (hlen w) (by omega) (by omega) hby hf (fun w2 _ => rfl)
                      simp only [Nat.zero_add] at hrun
                      have hr := RowIs.rowOf hv
                      obtain ⟨s', h1, h2, h3⟩ := new_grown (rest := (Builtin.zeroCells z.cells (grownCap w n 0 elem - n)).toList) (e := elem) (n := 0) (lim := 0) k k (Grows.refl s h w) hr rfl
                      have hcs : (new'.toArray ++ (Builtin.zeroCells z.cells (grownCap w n 0 elem - n)).toList.toArray) = ([].toArray ++ new'.toArray ++ Builtin.zeroCells z.cells (grownCap w n 0 elem - n)) := by simp
                      rw [hcs] at h1 h2 h3
                      refine EOk.value _ hrun h1 h3 (VR.slc h2 (Nat.le_refl _) (grown_ge w n 0 elem) ?_)
                      have hg := grown_ge w n 0 elem
                      have hzc := size_zeroCells z.cells (grownCap w n 0 elem - n)
                      show 0 + 0 + grownCap w n 0 elem * info.size ≤ (([] : List Value).toArray ++ new'.toArray ++ Builtin.zeroCells z.cells (grownCap w n 0 elem - n)).size
                      simp only [Array.size_append, List.size_toArray, List.length_nil, hnl, hzc, hzl]
                      have : grownCap w n 0 elem * info.size = n * info.size + (grownCap w n 0 elem - n) * info.size := by rw [← Nat.add_mul]; congr 1; omega
                      omega
                    · cases e
                · rename_i b o len c z0
                  split at e
                  · rename_i hz0
                    subst hz0
                    split at e
                    · rename_i row hrow
                      obtain ⟨l0, hl0, _⟩ := k.live b _ (rowAt_some hrow)
                      split at e
                      · rename_i hle
                        split at e
                        · rename_i row' hs
                          cases e
                          cases hx
                          · rename_i l c' h1_ h2_ h3_ h4_
                            have hlb : s b = some l := by assumption
                            obtain ⟨w', e1, e2, e3⟩ := store_put (P := P) k hlb hrow hs hv
                            have hrun := append_fits (type := type) A (w := w) (a := ⟨l.blk, l.sh + o, none⟩) (sLen := len) (sCap := c') (hlen w) (by omega) (hf w rfl) (by rw [add_at, Nat.add_assoc]; exact e1)
                            exact EOk.value _ hrun e2 e3 (VR.slc hlb (by omega) (by assumption) (by assumption))
                          · rename_i ad
                            have hn0 : n = 0 := by omega
                            subst hn0
                            have hnew0 : new = [] := by
                              have := hv.length
                              rw [Nat.zero_mul] at hnl
                              exact List.length_eq_zero_iff.1 (by omega)
                            subst hnew0
                            have hnew0' : new' = [] := List.length_eq_zero_iff.1 (by rw [hnl, Nat.zero_mul])
                            subst hnew0'
                            have hrow' : row' = row := by
                              simp only [spliceR, cnd_eq] at hs
                              split at hs
                              · cases hs; rfl
                              · cases hs
                            subst hrow'
                            obtain ⟨cs, ty, fr, R⟩ := k.row hl0 hrow
                            obtain ⟨e2, e3⟩ := k.put (o' := .cells row') (ob := .cells cs ty fr) (rowAt_some hrow) hl0 (fun w2 hw2 => ⟨cs, ty, fr, hw2, R.lim, R.fits, R.soft, R.cell⟩)
                            rw [setB_self w _ _ R.heap] at e2 e3
                            have hrun := append_fits (type := type) A (w := w) (w' := w) (a := ad) (sLen := 0) (sCap := 0) (hlen w) (by omega) (hf w rfl) rfl
                            exact EOk.value _ hrun e2 e3 (VR.slcEnd ad)
                        · cases e
                      · rename_i hnle
                        split at e
                        · rename_i hle24
                          obtain ⟨cs, ty, fr, R⟩ := k.row hl0 hrow
                          -- the list that the new row holds
                          have hgen : ∃ (row' : Row) (old' : List Value), (v, h') = (AV.slc h.nx 0 (len + n) (len + n) info.size, (⟨T.put (some (.cells row')) h.nx (killB h b).t, inc h.nx⟩ : H)) ∧
                              old'.length = len * info.size ∧ (∀ j u, old'[j]? = some u → cs[l0.sh + (o + j)]? = some u) ∧ RowIs s row' (old' ++ new') := by
                            split at e
                            · rename_i hcond
                              obtain ⟨ho0, hle2⟩ := hcond
                              subst ho0
                              have hfits := R.fits
                              have hlim := R.lim
                              have hcl : len * info.size ≤ (cs.toList.drop l0.sh).length := by simp; omega
                              refine ⟨_, (cs.toList.drop l0.sh).take (len * info.size), (Option.some.inj e).symm, by simp; omega, fun j u hj => ?_, ?_, fun i u hi hgt => ?_⟩
                              · rw [List.getElem?_take] at hj
                                split at hj
                                · rw [List.getElem?_drop, Array.getElem?_toList] at hj
                                  rw [Nat.zero_add]; exact hj
                                · cases hj
                              · show (len + n) * info.size ≤ _
                                rw [List.length_append, hnl, List.length_take, Nat.min_eq_left hcl, Nat.add_mul]
                                exact Nat.le_refl _
                              · have hi : i < (len + n) * info.size := hi
                                have hgt : T.get (slot i) (putL new (len * info.size) row.t) = some u := hgt
                                rw [putL_get] at hgt
                                have hnewl := hv.length
                                rw [Nat.add_mul] at hi
                                by_cases hc : len * info.size ≤ i
                                · rw [if_pos (by omega)] at hgt
                                  obtain ⟨u', q1, q2⟩ := hv.get _ u hgt
                                  refine ⟨u', ?_, q2⟩
                                  rw [List.getElem?_append_right (by rw [List.length_take, Nat.min_eq_left hcl]; omega), List.length_take, Nat.min_eq_left hcl]
                                  exact q1
                                · rw [if_neg (by omega)] at hgt
                                  obtain ⟨u', q1, q2⟩ := R.cell i u (by omega) hgt
                                  refine ⟨u', ?_, q2⟩
                                  rw [List.getElem?_append_left (by rw [List.length_take, Nat.min_eq_left hcl]; omega), List.getElem?_take_of_lt (by omega), List.getElem?_drop, Array.getElem?_toList]
                                  exact q1
                            · split at e
                              · rename_i old hold
                                obtain ⟨_, r', q1, q2, q3⟩ := takeR_ok R hold
                                exact ⟨_, r', (Option.some.inj e).symm, q2, q3, RowIs.rowOf (q1.append hv)⟩
                              · cases e
                          obtain ⟨row', old', hve, holdl, holdc, hris⟩ := hgen
                          cases hve
                          have hkill := k.kill b
                          have hnp := not_pic_kill k (rowAt_some hrow) hl0
                          have hrown : row'.n ≤ (len + n) * info.size := by
                            have := hris.1
                            rw [List.length_append, holdl, hnl, ← Nat.add_mul] at this
                            exact this
                          have grow : ∀ (base : Option Addr) (c' : Nat), c' < len + n → (∀ w2, w2.heap = w.heap → (Builtin.firstCells info.size len (.slice base len c')).run P w2 = .ok old'.toArray w2) →
                              EOk P s h w (do pure (.value (← Builtin.append_ ats type #[.slice base len c', y']))) (.slc h.nx 0 (len + n) (len + n) info.size) ⟨T.put (some (.cells row')) h.nx (killB h b).t, inc h.nx⟩ := fun base c' hlt hof => by
                            have hrun := append_grows (type := type) A (w := w) (base := base) (sLen := len) (sCap := c') (hlen w) hlt hle24 hby hf hof
                            obtain ⟨s', h1, h2, h3⟩ := new_grown (rest := (Builtin.zeroCells z.cells (grownCap w (len + n) c' elem - (len + n))).toList) (e := elem) (n := 0) (lim := 0) k hkill.1 hkill.2 hris rfl
                            have hcs : ((old' ++ new').toArray ++ (Builtin.zeroCells z.cells (grownCap w (len + n) c' elem - (len + n))).toList.toArray) = (old'.toArray ++ new'.toArray ++ Builtin.zeroCells z.cells (grownCap w (len + n) c' elem - (len + n))) := by
                              apply Array.ext'; simp
                            rw [hcs] at h1 h2 h3
                            refine EOk.value _ hrun h1 h3 (VR.slc h2 (Nat.le_refl _) (grown_ge w (len + n) c' elem) ?_)
                            have hg := grown_ge w (len + n) c' elem
                            have hzc := size_zeroCells z.cells (grownCap w (len + n) c' elem - (len + n))
                            show 0 + 0 + grownCap w (len + n) c' elem * info.size ≤ (old'.toArray ++ new'.toArray ++ Builtin.zeroCells z.cells (grownCap w (len + n) c' elem - (len + n))).size
                            simp only [Array.size_append, List.size_toArray, holdl, hnl, hzc, hzl]
                            have : grownCap w (len + n) c' elem * info.size = len * info.size + n * info.size + (grownCap w (len + n) c' elem - (len + n)) * info.size := by rw [← Nat.add_mul, ← Nat.add_mul]; congr 1; omega
                            omega
                          cases hx
                          · rename_i l c' h1_ h2_ h3_ h4_
                            have hlb : s b = some l := by assumption
                            rw [hl0] at hlb
                            cases hlb
                            have hlim : l0.sh + o + c' * info.size ≤ l0.lim := by assumption
                            by_cases hfit : len + n ≤ c'
                            · -- in place
                              have hm : (len + n) * info.size ≤ c' * info.size := Nat.mul_le_mul_right _ hfit
                              have hlimc := R.lim
                              rw [Nat.add_mul] at hm
                              obtain ⟨cs', e1, e2, e3⟩ := run_storeCells' P l0.blk (l0.sh + (o + len * info.size)) ty fr new' 0 cs w R.heap R.soft (by omega) (hv.isCell hcell)
                              have hrun := append_fits (type := type) A (w := w) (a := ⟨l0.blk, l0.sh + o, none⟩) (sLen := len) (sCap := c') (hlen w) hfit (hf w rfl) (by rw [add_at, Nat.add_assoc]; exact e1)
                              have hlt0 := lt_of_heap R.heap
                              obtain ⟨s', q1, q2, q3, q4, q5⟩ := hkill.1.name (.cells row') ⟨l0.blk, l0.sh + o, l0.lim⟩ h.nx ⟨T.put (some (.cells row')) h.nx (killB h b).t, inc h.nx⟩
                                (by show num h.nx < num (inc h.nx); rw [num_inc]; omega) (Nat.le_refl _) (by show num h.nx ≤ num (inc h.nx); rw [num_inc]; omega) rfl (setB w l0.blk (.cells cs' ty fr))
                                (fun cc hcc hp => by
                                  rw [setB_get _ _ _ _ hlt0, if_neg]
                                  rintro rfl
                                  exact hnp hp) hnp
                                (fun s' hle => ⟨cs', ty, fr, by rw [setB_get _ _ _ _ hlt0, if_pos rfl], by show cs'.size = l0.lim; omega, by show l0.sh + o + row'.n ≤ l0.lim; have := Nat.add_mul len n info.size; omega, fun j hj => R.soft j (by omega), fun i u hi hgt => by
                                  obtain ⟨u', p1, p2⟩ := hris.2 i u hi hgt
                                  refine ⟨u', ?_, p2.mono hle⟩
                                  show cs'[l0.sh + o + i]? = some u'
                                  rw [e3]
                                  have hilt : i < (old' ++ new').length := (List.getElem?_eq_some_iff.1 p1).1
                                  rw [List.length_append] at hilt
                                  by_cases hc : i < old'.length
                                  · rw [List.getElem?_append_left hc] at p1
                                    rw [if_neg (by omega), Nat.add_assoc]
                                    exact holdc i u' p1
                                  · rw [List.getElem?_append_right (by omega)] at p1
                                    rw [if_pos (by omega), ← p1]
                                    congr 1
                                    omega⟩)
                              refine EOk.value _ hrun q1 ⟨q3, q4, by show num h.nx ≤ num (inc h.nx); rw [num_inc]; omega, rfl, rfl, rfl, by rw [setB_size]; exact Nat.le_refl _, fun cc hcc hp => ?_, fun cc hcc => .inl ?_⟩ ?_
                              · rw [setB_get _ _ _ _ hlt0, if_neg]
                                rintro rfl
                                exact hp (Pic.of (rowAt_some hrow) hl0)
                              · rcases q5 cc hcc with hh | rfl
                                · rcases hkill.2.img cc hh with h' | h'
                                  · exact h'
                                  · obtain ⟨c1, x1, m1, hx1, hm1, em⟩ := hh
                                    obtain ⟨m2, hm2, ho2⟩ := hkill.1.live c1 x1 hx1
                                    rw [hm1] at hm2; cases hm2
                                    have := ho2.lt
                                    omega
                                · show Pic s h l0.blk
                                  exact Pic.of (rowAt_some hrow) hl0
                              · exact VR.slc (l := ⟨l0.blk, l0.sh + o, l0.lim⟩) (o := 0) q2 (Nat.le_refl _) hfit (by show l0.sh + o + 0 + _ ≤ l0.lim; omega)
                            · refine grow (some ⟨l0.blk, l0.sh + o, none⟩) c' (by omega) fun w2 hw2 => ?_
                              have hh : w2.heap[l0.blk]? = some (.cells cs ty fr) := by rw [hw2]; exact R.heap
                              exact load_row (P := P) (o := l0.sh + o) hh holdl (fun j u hj => by rw [Nat.add_assoc]; exact holdc j u hj)
                          · rename_i ad
                            refine grow (some ad) 0 (by omega) fun w2 hw2 => ?_
                            have : old' = [] := List.length_eq_zero_iff.1 (by rw [holdl, Nat.zero_mul])
                            subst this
                            simp only [Builtin.firstCells, Nat.zero_mul]
                            rfl
                        · cases e
                    · cases e
                  · cases e
                · cases e
              · cases e
            · cases e
          · cases e
        · cases e
      · cases e
    · cases e
  · cases e
end
end Go.Proofs.YtpnoifikpmfpdaaDoorX
namespace Go.Proofs.YtpnoifikpmfpdaaDoorX
open Go
set_option linter.unusedVariables false
set_option linter.unusedSimpArgs false
noncomputable section

theorem xcopy_ok {P : Program} {s : Sg} {h h' : H} {w : World} (k : HR s h w) {ats : Array TypeId} {type : TypeId} {x y v : AV} {x' y' : Value} (e : xcopy P ats x y h = some (v, h')) (hx : VR s x x') (hy : VR s y y') :
    EOk P s h w (do pure (.value (← Builtin.copy_ ats type #[x', y']))) v h' := by
  have q0 : (#[x', y'] : Array Value)[0]? = some x' := rfl
  have q1 : (#[x', y'] : Array Value)[1]? = some y' := rfl
  simp only [xcopy] at e
  split at e
  · rename_i dt hdt
    split at e
    · rename_i elem hu
      split at e
      · rename_i size hs
        split at e
        · rename_i m kk hm hk
          have hlen := lenA_ok (P := P) hm hy
          split at e
          · rename_i cs hcs
            obtain ⟨new', hv, hnl, hf⟩ := firstA_ok (P := P) k hcs hy
            split at e
            · rename_i hcell
              have hrun : ∀ (base : Option Addr) (c' : Nat) (w' : World), x' = .slice base kk c' → (match base with | none => w' = w | some a => (storeCells a new').run P w = .ok () w') → (Builtin.copy_ ats type #[x', y']).run P w = .ok (goInt (Nat.min m kk)) w' := fun base c' w' ex hst => by
                subst ex
                unfold Builtin.copy_
                simp only [hdt, q0, q1, Sem.run_bind, run_underlying hu, Result.andThen_ok, hlen w, sizeT_ok hs w, hf w rfl]
                cases base with
                | none => cases hst; rfl
                | some a => simp only [Sem.run_bind, hst, Result.andThen_ok, Sem.run_pure]
              split at e
              · cases hx
                cases hk
                cases e
                exact EOk.value _ (hrun none 0 w rfl rfl) k (Grows.refl _ _ _) (.int _ _)
              · rename_i b o n c z
                cases hk
                split at e
                · rename_i hz
                  subst hz
                  split at e
                  · rename_i hn
                    cases e
                    have hn' : new' = [] := List.length_eq_zero_iff.1 (by rw [hnl]; simp only [hn, Nat.zero_mul])
                    subst hn'
                    have hx' : ∃ a c', x' = .slice (some a) kk c' := by cases hx <;> exact ⟨_, _, rfl⟩
                    obtain ⟨a, c', ex⟩ := hx'
                    exact EOk.value _ (hrun (some a) c' w ex rfl) k (Grows.refl _ _ _) (.int _ _)
                  · rename_i hn
                    split at e
                    · rename_i row hrow
                      split at e
                      · rename_i row' hsp
                        cases e
                        cases hx
                        · rename_i l c' h1_ h2_ h3_ h4_
                          obtain ⟨w', e1, e2, e3⟩ := store_put (P := P) k (by assumption) hrow hsp hv
                          exact EOk.value _ (hrun (some ⟨l.blk, l.sh + o, none⟩) c' w' rfl e1) e2 e3 (.int _ _)
                        · exact (hn (by simp)).elim
                      · cases e
                    · cases e
                · cases e
              · cases e
            · cases e
          · cases e
        · cases e
      · cases e
    · cases e
  · cases e

theorem xclear_ok {P : Program} {s : Sg} {h h' : H} {w : World} (k : HR s h w) {ats : Array TypeId} {type : TypeId} {x v : AV} {x' : Value} (e : xclear P ats x h = some (v, h')) (hx : VR s x x') :
    EOk P s h w (do pure (.value (← Builtin.clear_ ats type #[x']))) v h' := by
  have q0 : (#[x'] : Array Value)[0]? = some x' := rfl
  simp only [xclear] at e
  split at e
  · rename_i t ht
    split at e
    · rename_i elem hu
      split at e
      · cases hx
        cases e
        refine EOk.value (.tuple #[]) (w' := w) ?_ k (Grows.refl _ _ _) (.tup .nil)
        unfold Builtin.clear_
        simp only [ht, q0, Sem.run_bind, run_underlying hu, Result.andThen_ok, Sem.run_pure]
      · rename_i b o n c z
        split at e
        · rename_i size hs
          split at e
          · rename_i hz
            subst hz
            split at e
            · rename_i hn
              cases e
              subst hn
              have hx' : ∃ a c', x' = .slice (some a) 0 c' := by cases hx <;> exact ⟨_, _, rfl⟩
              obtain ⟨a, c', ex⟩ := hx'
              subst ex
              refine EOk.value (.tuple #[]) (w' := w) ?_ k (Grows.refl _ _ _) (.tup .nil)
              unfold Builtin.clear_
              simp only [ht, q0, Sem.run_bind, run_underlying hu, Result.andThen_ok, Sem.run_pure]
            · rename_i hn
              split at e
              · rename_i zv hzv
                obtain ⟨z', hzr, hzvr⟩ := zeroT_ok hzv
                split at e
                · rename_i hzl
                  split at e
                  · rename_i row hrow
                    split at e
                    · rename_i row' hsp
                      cases e
                      cases hx
                      · rename_i l c' h1_ h2_ h3_ h4_
                        have hz := reps_ok ((hzvr s).cells) n
                        have hzl' : (cellsOf zv).length = z'.cells.size := by simpa using (hzvr s).cells.length
                        rw [hzl'] at hz
                        obtain ⟨w', e1, e2, e3⟩ := store_put (P := P) k (by assumption) hrow hsp hz
                        refine EOk.value (.tuple #[]) ?_ e2 e3 (.tup .nil)
                        unfold Builtin.clear_
                        obtain ⟨m, rfl⟩ : ∃ m, n = m + 1 := ⟨n - 1, by omega⟩
                        simp only [ht, q0, Sem.run_bind, run_underlying hu, Result.andThen_ok, hzr w, Builtin.zeroCells, e1, Sem.run_pure]
                      · exact (hn rfl).elim
                    · cases e
                  · cases e
                · cases e
              · cases e
          · cases e
        · cases e
      · cases e
    · cases e
  · cases e

/-! ### ranging over a map -/
theorem run_getObj {P : Program} {w : World} {g : Nat} {m : Option Nat} {a b : Nat} {l : Array Nat} (h : w.heap[g]? = some (.mapIter m a l b)) : (getObj g).run P w = .ok (.mapIter m a l b) w := by
  simp only [getObj, Sem.run, h]

theorem xrange_ok {P : Program} {s : Sg} {h h' : H} {w : World} (k : HR s h w) {t : TypeId} {x v : AV} {x' : Value} (e : xrange P t x h = some (v, h')) (hx : VR s x x') :
    EOk P s h w (do pure (.value (← Instr.range t x'))) v h' := by
  simp only [xrange] at e
  split at e
  · rename_i kt et hu
    split at e
    · cases hx
      have e := Option.some.inj e
      cases e
      obtain ⟨s', h1, h2, h3⟩ := k.new (.iter none 0 [] 0) 0 (.mapIter none 0 #[] 0) fun s' w2 hle hw2 => ⟨none, hw2, rfl, rfl⟩
      refine EOk.value (.pointer (some ⟨w.heap.size, 0 + 0, none⟩)) ?_ h1 h3 (VR.ptr 0 h2)
      unfold Instr.range
      simp only [Sem.run_bind, run_underlying hu, Result.andThen_ok, Sem.run_pure, run_newObj]
      rfl
    · rename_i m
      split at e
      · rename_i es c hma
        cases hx
        rename_i l hl
        have e := Option.some.inj e
        cases e
        obtain ⟨es', h1, h2⟩ := k.mapR hl hma
        obtain ⟨s', h3, h4, h5⟩ := k.new (.iter (some m) c [] c) 0 (.mapIter (some l.blk) c #[] c) fun s' w2 hle hw2 => ⟨some l.blk, hw2, rfl, l, hle _ _ hl, rfl⟩
        refine EOk.value (.pointer (some ⟨w.heap.size, 0 + 0, none⟩)) ?_ h3 h5 (VR.ptr 0 h4)
        unfold Instr.range
        simp only [Sem.run_bind, run_underlying hu, Result.andThen_ok, run_getObj_map h1, Sem.run_pure, run_newObj]
        rfl
      · cases e
    · cases e
  · cases e

theorem ER.filter {s : Sg} (f : Nat → Bool) : ∀ {es : List (AV × AV × Nat)} {es' : List MapEntry}, ER s es es' → ER s (es.filter fun e => f e.2.2) (es'.filter fun e => f e.born)
  | _, _, .nil => .nil
  | _, _, .cons (n := n) a b c => by
    simp only [List.filter_cons]
    cases f n
    · exact ER.filter f c
    · exact .cons a b (ER.filter f c)

theorem ER.all {s : Sg} (f : Nat → Bool) : ∀ {es : List (AV × AV × Nat)} {es' : List MapEntry}, ER s es es' → (es.all fun e => f e.2.2) = (es'.all fun e => f e.born)
  | _, _, .nil => rfl
  | _, _, .cons a b c => by simp only [List.all_cons, ER.all f c]

theorem HR.iterR {s : Sg} {h : H} {w : World} (k : HR s h w) {b : Id} {l : Loc} {m : Option Id} {since last : Nat} {seen : List Nat} (hl : s b = some l) (e : T.get b h.t = some (.iter m since seen last)) :
    ∃ m', w.heap[l.blk]? = some (.mapIter m' since seen.toArray last) ∧ l.sh = 0 ∧ IterM s m m' := by
  obtain ⟨l', hl', ho⟩ := k.live b _ e
  rw [hl] at hl'; cases hl'
  exact ho

theorem run_setObj_iter {P : Program} {w : World} {g : Nat} {m : Option Nat} {a b : Nat} {l : Array Nat} (h : w.heap[g]? = some (.mapIter m a l b)) (o : Obj) : (setObj g o).run P w = .ok () (setB w g o) := by
  simp only [setObj, Sem.run, h]; rfl

theorem xnext_ok {P : Program} {s : Sg} {h h' : H} {w : World} (k : HR s h w) {type : TypeId} {x v : AV} {isS : Bool} {x' : Value} (e : xnext x isS h = some (v, h')) (hx : VR s x x') :
    EOk P s h w (do pure (.value (← Instr.next x' isS type))) v h' := by
  simp only [xnext] at e
  split at e
  · cases e
  · rename_i hS
    have hS : isS = false := by simpa using hS
    subst hS
    split at e
    · rename_i r
      cases hx
      rename_i l hl
      split at e
      · rename_i since seen last hit
        cases e
        obtain ⟨m', h1, h0, h2⟩ := k.iterR hl hit
        have h2 : m' = none := h2
        subst h2
        refine EOk.value (.tuple #[.bool false]) (w' := w) ?_ k (Grows.refl _ _ _) (.tup (.cons (.bool _) .nil))
        unfold Instr.next
        rw [h0]
        simp only [Nat.add_zero, Sem.run_bind, run_getObj h1, Result.andThen_ok, Sem.run_pure]
      · rename_i m since seen last hit
        obtain ⟨m', h1, h0, l', hl', rfl⟩ := k.iterR hl hit
        split at e
        · rename_i es clock hma
          obtain ⟨es', h3, h4⟩ := k.mapR hl' hma
          have hcond : (!seen.toArray.isEmpty && !es'.isEmpty && es'.all (fun x => decide (x.born ≥ last))) = (!seen.isEmpty && !es.isEmpty && es.all (fun x => decide (x.2.2 ≥ last))) := by
            have a1 : seen.toArray.isEmpty = seen.isEmpty := by simp
            have a2 : es'.isEmpty = es.isEmpty := by
              have : es.length = es'.size := by simpa using h4.length
              rw [Bool.eq_iff_iff, Array.isEmpty_iff_size_eq_zero, List.isEmpty_iff_length_eq_zero]; omega
            have a3 : es'.all (fun x => decide (x.born ≥ last)) = es.all (fun x => decide (x.2.2 ≥ last)) := by
              rw [h4.all (fun n => decide (n ≥ last)), ← Array.all_toList]
            rw [a1, a2, a3]
          split at e
          · cases e
          · rename_i hno
            have hleft := h4.filter (fun n => !seen.contains n)
            have hla : (es'.filter fun e => !seen.toArray.contains e.born).toList = es'.toList.filter fun e => !seen.contains e.born := by
              rw [Array.toList_filter]; simp
            split at e
            · rename_i hemp
              rw [hemp] at hleft
              cases e
              refine EOk.value (.tuple #[.bool false]) (w' := w) ?_ k (Grows.refl _ _ _) (.tup (.cons (.bool _) .nil))
              have hl2 : (es'.filter fun e => !seen.toArray.contains e.born) = #[] := by
                apply Array.ext'
                rw [hla]
                generalize hg : (es'.toList.filter fun e => !seen.contains e.born) = q at hleft
                cases hleft
                rfl
              unfold Instr.next
              rw [h0]
              simp only [Nat.add_zero, Sem.run_bind, run_getObj h1, Result.andThen_ok, run_getObj_map h3, hcond]
              rw [if_neg hno]
              have hff : ∀ f : MapEntry → Bool, (#[] : Array MapEntry).filter f = #[] := fun f => by simp
              have hc0 : ((if (#[] : Array MapEntry).isEmpty = true then #[none] else #[]) ++ Array.map some ((#[] : Array MapEntry) ++ #[]) : Array (Option MapEntry)) = #[none] := by simp
              have hch : (choose (.mapNext (#[(none : Option MapEntry)]).size)).run P w = .ok 0 w := rfl
              simp only [hl2, hff, hc0, Sem.run_bind, hch, Result.andThen_ok]
              rfl
            · rename_i kk vv bn hone
              rw [hone] at hleft
              split at e
              · rename_i hlt
                cases e
                generalize hg : (es'.toList.filter fun e => !seen.contains e.born) = q at hleft
                cases hleft
                rename_i k' v' tl hk hv hnil
                cases hnil
                have hl2 : (es'.filter fun e => !seen.toArray.contains e.born) = #[⟨k', v', bn⟩] := by
                  apply Array.ext'
                  rw [hla, hg]
                obtain ⟨h5, h6⟩ := k.put (o' := .iter (some m) since (seen ++ [bn]) clock) (ob := .mapIter (some l'.blk) since (seen ++ [bn]).toArray clock) hit hl (fun w2 hw2 => ⟨_, hw2, h0, l', hl', rfl⟩)
                refine EOk.value (.tuple #[.bool true, k', v']) ?_ h5 h6 (.tup (.cons (.bool _) (.cons hk (.cons hv .nil))))
                unfold Instr.next
                rw [h0]
                simp only [Nat.add_zero, Sem.run_bind, run_getObj h1, Result.andThen_ok, run_getObj_map h3, hcond]
                rw [if_neg hno]
                have ho : (#[(⟨k', v', bn⟩ : MapEntry)].filter fun e => decide (e.born < since)) = #[⟨k', v', bn⟩] := by simp [hlt]
                have hn : (#[(⟨k', v', bn⟩ : MapEntry)].filter fun e => decide (e.born ≥ since)) = #[] := by simp; omega
                have hc0 : ((if (#[(⟨k', v', bn⟩ : MapEntry)]).isEmpty = true then #[none] else #[]) ++ Array.map some (#[(⟨k', v', bn⟩ : MapEntry)] ++ #[]) : Array (Option MapEntry)) = #[some ⟨k', v', bn⟩] := by simp
                have hch : (choose (.mapNext (#[some (⟨k', v', bn⟩ : MapEntry)]).size)).run P w = .ok 0 w := rfl
                have hg0 : (#[some (⟨k', v', bn⟩ : MapEntry)])[0]? = some (some ⟨k', v', bn⟩) := rfl
                simp only [hl2, ho, hn, hc0, Sem.run_bind, hch, Result.andThen_ok, hg0, run_setObj_iter h1, Sem.run_pure]
                have : seen.toArray.push bn = (seen ++ [bn]).toArray := by simp
                rw [this]
              · cases e
            · cases e
        · cases e
      · cases e
    · cases e

theorem xentry_ok {P : Program} {s : Sg} {h : H} {w : World} (k : HR s h w) {x v : AV} {x' : Value} (e : xentry x h = some v) (hx : VR s x x') : ∃ v', (Instr.entry x').run P w = .ok v' w ∧ VR s v v' := by
  simp only [xentry] at e
  split at e
  · rename_i r
    cases hx
    rename_i l hl
    split at e
    · rename_i m since seen stepped hit
      obtain ⟨m', h1, h0, l', hl', rfl⟩ := k.iterR hl hit
      split at e
      · rename_i stamp hst
        split at e
        · rename_i es clock hma
          obtain ⟨es', h3, h4⟩ := k.mapR hl' hma
          split at e
          · rename_i hcl
            subst hcl
            split at e
            · rename_i kk vv bn hf
              cases e
              have hfind : ∀ {es : List (AV × AV × Nat)} {l : List MapEntry}, ER s es l → es.find? (fun e => e.2.2 == stamp) = some (kk, vv, bn) → ∃ en, l.find? (fun e => e.born == stamp) = some en ∧ VR s kk en.key ∧ VR s vv en.val := by
                intro es l he
                induction he with
                | nil => intro hf; cases hf
                | cons a b c ih =>
                  intro hf
                  rename_i k0 v0 n0 k1 v1 es1 es2
                  rw [List.find?_cons] at hf ⊢
                  dsimp only at hf ⊢
                  cases hb : (n0 == stamp) with
                  | true =>
                    rw [hb] at hf
                    cases hf
                    exact ⟨_, rfl, a, b⟩
                  | false =>
                    rw [hb] at hf
                    exact ih hf
              obtain ⟨en, q1, q2, q3⟩ := hfind h4 hf
              refine ⟨.tuple #[en.key, en.val], ?_, .tup (.cons q2 (.cons q3 .nil))⟩
              have hbk : seen.toArray.back? = some stamp := by simpa using hst
              have hf' : es'.find? (fun e => e.born == stamp) = some en := by rw [← Array.find?_toList]; exact q1
              unfold Instr.entry
              rw [h0]
              simp only [Nat.add_zero, Sem.run_bind, run_getObj h1, Result.andThen_ok, hbk, run_getObj_map h3, bne_self_eq_false, Bool.false_eq_true, if_false, hf', Sem.run_pure]
            · cases e
          · cases e
        · cases e
      · cases e
    · cases e
  · cases e
end
end Go.Proofs.YtpnoifikpmfpdaaDoorX
