/- Part of a proof that a law of the program holds for every input: how abstract states follow the program (part B). No conditions. -/
import Derived.Test.YtlncingakpelbaaFwA
namespace Go.Proofs.Ytlncingakpelbaa
open Go
set_option linter.unusedVariables false

/-! ## The evaluator of operations over abstract states -/
inductive TK where
  | int (k : IntKind) | bool | str | sl (e : TypeId) | arr (n : Nat) (e : TypeId) | st (offs : List (Nat × Nat)) | ptr | map (k e : TypeId) | fn | other

structure TI where
  k : TK
  size : Nat
  bytes : Nat
  zero : List Value
  code : Option Ty

def TK.known : TK → Bool
  | .other => false
  | _ => true
def TI.isAgg (i : TI) : Bool := match i.k with | .arr .. | .st _ => true | _ => false

structure TI.Ok (P : Program) (t : TypeId) (i : TI) : Prop where
  info : ∃ info z, P.info? t = some info ∧ info.size = i.size ∧ info.bytes = i.bytes ∧ info.zero = some z ∧ z.cells.toList = i.zero ∧ z.cells.size = i.size
  kind : match i.k with
    | .int k => P.underlying t = some (.int k)
    | .bool => P.underlying t = some .bool
    | .str => P.underlying t = some .string
    | .sl e => P.underlying t = some (.slice e)
    | .arr n e => P.underlying t = some (.array n e)
    | .st offs => ∃ fs, P.underlying t = some (.struct fs) ∧ fs.toList.map (fun f => (f.offset, P.cellsOf f.type)) = offs ∧ ∀ p ∈ offs, p.2 ≠ 0
    | .ptr => ∃ e, P.underlying t = some (.pointer e)
    | .map k e => P.underlying t = some (.map k e)
    | .fn => ∃ ps rs v, P.underlying t = some (.func ps rs v)
    | .other => True
  code : ∀ T, i.code = some T → T.size = i.size ∧ 0 < i.size ∧ ∀ w S, Cells w S T T.dflt i.zero

abbrev TyTab := TypeId → Option TI
def TabOk (P : Program) (τ : TyTab) : Prop := ∀ t i, τ t = some i → i.Ok P t

structure St where
  nt : Nat
  tmps : List (Nat × V)
  objs : List Obj

def look (t : Nat) : List (Nat × V) → V
  | [] => .any
  | (u, v) :: r => match Nat.beq u t with
    | true => v
    | false => look t r

def St.get (s : St) (t : Nat) : V := look t s.tmps
def St.set (s : St) (t : Nat) (v : V) : St := { s with tmps := (t, v) :: s.tmps }

def vconst : Value → V
  | .int k n => .d (.int k) n
  | .bool b => .d .bool b
  | .string s => .d .str s
  | .slice none 0 0 => .nils
  | .pointer none => .nilp
  | .nilFunc => .nilf
  | .map none => .nilm
  | .tuple vs => match vs.toList with | [] => .tup [] | _ => .any
  | _ => .any

def St.ev (s : St) : Operand → V
  | .tmp t => s.get t
  | .const c => vconst c
  | .func f => .fn (.func f) [] []
  | .global _ => .any

def V.solid : V → Bool
  | .any | .when .. | .tup _ | .agg _ => false
  | .opt _ v => v.solid
  | _ => true

/-- The cells of a value that is stored. -/
def V.scells : V → Option (List V)
  | .agg cs => if cs.all V.solid then some cs else none
  | v => if v.solid then some [v] else none

/-- Behind a guard that said yes. -/
def V.strip : V → Prop × V
  | .when b v => (b = true, v)
  | v => (True, v)

def asInt : V → Option (IntKind × Int)
  | .d (.int k) n => some (k, n)
  | _ => none
def asBool : V → Option Bool
  | .d .bool b => some b
  | _ => none
def asStr : V → Option ByteArray
  | .d .str s => some s
  | _ => none
def asSl (T : Ty) : V → Option (List T.den)
  | .d (.sl t) l => if h : t = T then some (h ▸ l) else none
  | .nils => some []
  | _ => none

def pack : (T : Ty) → List V → Option T.den
  | .int k, [v] => match asInt v with | some (k', n) => (if k' = k then some n else none) | none => none
  | .bool, [v] => asBool v
  | .str, [v] => asStr v
  | .sl t, [v] => asSl t v
  | .pair a b, cs => match pack a (cs.take a.size), pack b (cs.drop a.size) with
    | some x, some y => some (x, y)
    | _, _ => none
  | .unit, [] => some ()
  | _, _ => none

/-- An obligation, or none. -/
def okP : Option Prop → Prop
  | none => True
  | some p => p
def andO (p : Prop) : Option Prop → Option Prop
  | none => some p
  | some q => some (p ∧ q)

structure Out where
  ob : Option Prop
  v : V
  objs : List Obj

def ofCells (agg : Bool) (cs : List V) : Option V :=
  if agg then some (.agg cs) else match cs with | [v] => some v | _ => none

def takeN (n : Nat) (l : List V) : Option (List V) := if n ≤ l.length then some (l.take n) else none

/-- The first cells of a list are put in the place of others. -/
def putCells (cs : List V) (off : Nat) (new : List V) : Option (List V) :=
  if off + new.length ≤ cs.length then some (cs.take off ++ new ++ cs.drop (off + new.length)) else none

def effLoad (τ : TyTab) (objs : List Obj) (t : TypeId) (v : V) : Option Out :=
  match τ t with
  | none => none
  | some ti => if ti.k.known then match v with
    | .ref l 0 off => match objs[l]? with
      | some (.box cs) => ((takeN ti.size (cs.drop off)).bind (ofCells ti.isAgg)).map fun v => ⟨none, v, objs⟩
      | _ => none
    | .er cs => ((takeN ti.size cs).bind (ofCells ti.isAgg)).map fun v => ⟨none, v, objs⟩
    | .rref l ver i off => match objs[l]? with
      | some (.row T xs ver') => if ver = ver' then ((takeN ti.size ((flat T (xs.getD i T.dflt)).drop off)).bind (ofCells ti.isAgg)).map fun v => ⟨some (i < xs.length), v, objs⟩ else none
      | _ => none
    | _ => none
    else none

def effStore (τ : TyTab) (objs : List Obj) (t : TypeId) (a x : V) : Option Out :=
  match τ t with
  | none => none
  | some ti => match x.scells with
    | none => none
    | some new => if new.length = ti.size then match a with
      | .ref l 0 off => match objs[l]? with
        | some (.box cs) => (putCells cs off new).map fun cs' => ⟨none, .tup [], objs.set l (.box cs')⟩
        | _ => none
      | .rref l ver i off => match objs[l]? with
        | some (.row T xs ver') => if ver = ver' then ((putCells (flat T (xs.getD i T.dflt)) off new).bind (pack T)).map fun y => ⟨some (i < xs.length), .tup [], objs.set l (.row T (xs.set i y) ver)⟩ else none
        | _ => none
      | _ => none
      else none

def effFieldAddr (τ : TyTab) (objs : List Obj) (s : TypeId) (v : V) (f : Nat) : Option Out :=
  match τ s with
  | some ⟨.st offs, _, _, _, _⟩ => match offs[f]? with
    | some (o, _) => match v with
      | .ref l 0 off => match objs[l]? with
        | some (.box _) => some ⟨none, .ref l 0 (off + o), objs⟩
        | _ => none
      | .er cs => some ⟨none, .er (cs.drop o), objs⟩
      | .rref l ver i off => match objs[l]? with
        | some (.row _ _ ver') => if ver = ver' then some ⟨none, .rref l ver i (off + o), objs⟩ else none
        | _ => none
      | _ => none
    | none => none
  | _ => none

def effIndexAddr (τ : TyTab) (objs : List Obj) (t : TypeId) (x ix : V) : Option Out :=
  match τ t, asInt ix with
  | some ⟨.sl e, _, _, _, _⟩, some (_, i) => match τ e with
    | some ei => match x with
      | .d (.sl T) l => if T.size = ei.size then some ⟨some (0 ≤ i ∧ i < (List.length (α := T.den) l : Int)), .er (flat T (List.getD (α := T.den) l i.toNat T.dflt)), objs⟩ else none
      | .osl l ver => match objs[l]? with
        | some (.row T xs ver') => if ver = ver' ∧ T.size = ei.size then some ⟨some (0 ≤ i ∧ i < (xs.length : Int)), .rref l ver i.toNat 0, objs⟩ else none
        | _ => none
      | .osp l ver n => match objs[l]? with
        | some (.row T xs ver') => if ver = ver' ∧ T.size = ei.size then some ⟨some (0 ≤ i ∧ i < (n : Int) ∧ n ≤ xs.length), .rref l ver i.toNat 0, objs⟩ else none
        | _ => none
      | _ => none
    | none => none
  | some ⟨.arr n e, _, _, _, _⟩, some (_, i) => match τ e with
    | some ei => match x with
      | .rref l ver 0 0 => match objs[l]? with
        | some (.row T xs ver') => if ver = ver' ∧ T.size = ei.size then some ⟨some (0 ≤ i ∧ i < (n : Int)), .rref l ver i.toNat 0, objs⟩ else none
        | _ => none
      | _ => none
    | none => none
  | _, _ => none

def fits : IntKind → Int → Prop
  | .i8, n => -128 ≤ n ∧ n ≤ 127
  | .i16, n => -32768 ≤ n ∧ n ≤ 32767
  | .i32, n => -2147483648 ≤ n ∧ n ≤ 2147483647
  | .i64, n => -9223372036854775808 ≤ n ∧ n ≤ 9223372036854775807
  | .u8, n => 0 ≤ n ∧ n ≤ 255
  | .u16, n => 0 ≤ n ∧ n ≤ 65535
  | .u32, n => 0 ≤ n ∧ n ≤ 4294967295
  | .u64, n => 0 ≤ n ∧ n ≤ 18446744073709551615

/-- A number that is wrapped, or (hx) must fit. -/
def wr (hx : Bool) (k : IntKind) (n : Int) : Option Prop × Int := match hx with
  | true => (some (fits k n), n)
  | false => (none, k.wrap n)

def effInt (op : BinOp) (hx : Bool) (k : IntKind) (a b : Int) : Option (Option Prop × V) :=
  match op with
  | .add => some ((wr hx k (a + b)).1, .d (.int k) (wr hx k (a + b)).2)
  | .sub => some ((wr hx k (a - b)).1, .d (.int k) (wr hx k (a - b)).2)
  | .mul => some ((wr hx k (a * b)).1, .d (.int k) (wr hx k (a * b)).2)
  | .quo => some (andO (b ≠ 0) (wr hx k (a.tdiv b)).1, .d (.int k) (wr hx k (a.tdiv b)).2)
  | .rem => some (some (b ≠ 0), .d (.int k) (a.tmod b))
  | .eql => some (none, .d .bool (a == b))
  | .neq => some (none, .d .bool (a != b))
  | .lss => some (none, .d .bool (decide (a < b)))
  | .leq => some (none, .d .bool (decide (a ≤ b)))
  | .gtr => some (none, .d .bool (decide (a > b)))
  | .geq => some (none, .d .bool (decide (a ≥ b)))
  | .and => some (none, .d (.int k) (k.wrap ((BitVec.ofInt k.bits a &&& BitVec.ofInt k.bits b).toNat : Int)))
  | .or => some (none, .d (.int k) (k.wrap ((BitVec.ofInt k.bits a ||| BitVec.ofInt k.bits b).toNat : Int)))
  | _ => none

def effBin (τ : TyTab) (objs : List Obj) (hx : Bool) (op : BinOp) (xt : TypeId) (x y : V) : Option Out :=
  match x, y with
  | .d (.int k) a, .d (.int k') b => match op with
    | .shl => some ⟨some (0 ≤ b), .d (.int k) (k.wrap (a * 2 ^ (min b.toNat k.bits))), objs⟩
    | .shr => some ⟨some (0 ≤ b), .d (.int k) (a.fdiv (2 ^ (min b.toNat k.bits))), objs⟩
    | op => if k = k' then (effInt op hx k a b).map fun r => ⟨r.1, r.2, objs⟩ else none
  | .d .bool a, .d .bool b => match τ xt with
    | some ⟨.bool, _, _, _, _⟩ => match op with
      | .eql => some ⟨none, .d .bool (a == b), objs⟩
      | .neq => some ⟨none, .d .bool (a != b), objs⟩
      | _ => none
    | _ => none
  | p, .nilp => match τ xt with
    | some ⟨.ptr, _, _, _, _⟩ =>
      let r (b : Bool) : Option Out := match op with
        | .eql => some ⟨none, .d .bool b, objs⟩
        | .neq => some ⟨none, .d .bool (!b), objs⟩
        | _ => none
      match p with
      | .nilp => r true
      | .er _ => r false
      | .opt b (.er _) => r (!b)
      | _ => none
    | _ => none
  | _, _ => none

def effUn (objs : List Obj) (hx : Bool) (op : UnOp) (x : V) : Option Out :=
  match op, x with
  | .neg, .d (.int k) n => some ⟨(wr hx k (-n)).1, .d (.int k) (wr hx k (-n)).2, objs⟩
  | .not, .d .bool b => some ⟨none, .d .bool (!b), objs⟩
  | _, _ => none

def effConvert (τ : TyTab) (objs : List Obj) (hx : Bool) (src dst : TypeId) (x : V) : Option Out :=
  match τ src, τ dst, x with
  | some ⟨.int _, _, _, _, _⟩, some ⟨.int k, _, _, _, _⟩, .d (.int _) n => some ⟨(wr hx k n).1, .d (.int k) (wr hx k n).2, objs⟩
  | _, _, _ => none

def zeroV (vs : List Value) : List V := vs.map vconst

def effAlloc (τ : TyTab) (objs : List Obj) (t : TypeId) : Option Out :=
  match τ t with
  | some ⟨.arr n e, _, _, _, _⟩ => none
  | some ti => some ⟨none, .ref objs.length 0 0, objs ++ [.box (zeroV ti.zero)]⟩
  | none => none

def effBox (objs : List Obj) (x : V) : Option Out :=
  x.scells.map fun cs => ⟨none, .ref objs.length 0 0, objs ++ [.box cs]⟩

def fillV (offs : List (Nat × Nat)) : List V → List (Nat × V) → Option (List V)
  | cs, [] => some cs
  | cs, (i, v) :: r => match offs[i]?, v.scells with
    | some (o, n), some new => if new.length = n then (putCells cs o new).bind fun cs' => fillV offs cs' r else none
    | _, _ => none

def effBuild (τ : TyTab) (objs : List Obj) (t : TypeId) (parts : List (Nat × V)) : Option Out :=
  match τ t with
  | some ⟨.st offs, _, _, zero, _⟩ => (fillV offs (zeroV zero) parts).map fun cs => ⟨none, .agg cs, objs⟩
  | _ => none

/-- The elements of a literal, in order. -/
def elemsOf (T : Ty) : Nat → List (Nat × V) → Option (List T.den)
  | _, [] => some []
  | n, (i, v) :: r => if i = n then match v.scells.bind (pack T), elemsOf T (n + 1) r with
    | some x, some l => some (x :: l)
    | _, _ => none
    else none

def effBuildSlice (τ : TyTab) (objs : List Obj) (t : TypeId) (len : Nat) (parts : List (Nat × V)) : Option Out :=
  match τ t with
  | some ⟨.sl e, _, _, _, _⟩ => match τ e with
    | some ei => match ei.code with
      | some T => if len = parts.length then (elemsOf T 0 parts).map fun xs => ⟨some (len * ei.size ≤ 16777216), .osl objs.length 0, objs ++ [.row T xs 0]⟩ else none
      | none => none
    | none => none
  | _ => none

def effMakeSlice (τ : TyTab) (objs : List Obj) (t : TypeId) (l c : V) : Option Out :=
  match τ t, asInt l, asInt c with
  | some ⟨.sl e, _, _, _, _⟩, some (.i64, l), some (.i64, c) => match τ e with
    | some ei => match ei.code with
      | some T => some ⟨some (0 ≤ l ∧ l ≤ c ∧ c * ei.bytes ≤ 140737488355328 ∧ c ≤ 9223372036854775807), .osl objs.length 0, objs ++ [.row T (List.replicate l.toNat T.dflt) 0]⟩
      | none => none
    | none => none
  | _, _, _ => none

/-- The elements that an appended or copied slice holds. -/
def srcOf (T : Ty) (objs : List Obj) : V → Option (List T.den)
  | .osl l ver => match objs[l]? with
    | some (.row t xs ver') => if h : t = T then (if ver = ver' then some (h ▸ xs) else none) else none
    | _ => none
  | v => asSl T v

def effAppend (τ : TyTab) (objs : List Obj) (ts tx : TypeId) (s x : V) : Option Out :=
  if ts = tx then match τ ts with
  | some ⟨.sl e, _, _, _, _⟩ => match τ e with
    | some ei => match ei.code with
      | some T => match srcOf T objs x with
        | some ys => match s with
          | .nils => some ⟨some (ys.length * ei.bytes ≤ 140737488355328 ∧ ys.length ≤ 9223372036854775807), .osl objs.length 0, objs ++ [.row T ys 0]⟩
          | .osl l ver => match objs[l]? with
            | some (.row t xs ver') => if h : t = T then (if ver = ver' then some ⟨some ((xs.length + ys.length) * ei.bytes ≤ 140737488355328 ∧ xs.length + ys.length ≤ 9223372036854775807), .osl l (ver + 1), objs.set l (.row T ((h ▸ xs : List T.den) ++ ys) (ver + 1))⟩ else none) else none
            | _ => none
          | _ => none
        | none => none
      | none => none
    | none => none
  | _ => none
  else none

def effLen (τ : TyTab) (objs : List Obj) (t : TypeId) (x : V) : Option Out :=
  match τ t, x with
  | some ⟨.sl _, _, _, _, _⟩, .d (.sl T) l => some ⟨none, .d (.int .i64) (List.length (α := T.den) l : Int), objs⟩
  | some ⟨.sl _, _, _, _, _⟩, .nils => some ⟨none, .d (.int .i64) (0 : Int), objs⟩
  | some ⟨.sl _, _, _, _, _⟩, .osl l ver => match objs[l]? with
    | some (.row _ xs ver') => if ver = ver' then some ⟨none, .d (.int .i64) (xs.length : Int), objs⟩ else none
    | _ => none
  | some ⟨.sl _, _, _, _, _⟩, .osp l ver n => match objs[l]? with
    | some (.row _ _ ver') => if ver = ver' then some ⟨none, .d (.int .i64) (n : Int), objs⟩ else none
    | _ => none
  | some ⟨.str, _, _, _, _⟩, .d .str s => some ⟨none, .d (.int .i64) (s.size : Int), objs⟩
  | some ⟨.arr n _, _, _, _, _⟩, _ => some ⟨none, .d (.int .i64) (n : Int), objs⟩
  | _, _ => none

def effCopy (τ : TyTab) (objs : List Obj) (td tx : TypeId) (d x : V) : Option Out :=
  match τ td, τ tx with
  | some ⟨.sl e, _, _, _, _⟩, some ⟨.sl _, _, _, _, _⟩ => match τ e with
    | some ei => match ei.code with
      | some T => match asSl T x, d with
        | some ys, .osl l ver => match objs[l]? with
          | some (.row t xs ver') => if h : t = T then (if ver = ver' then
              some ⟨none, .d (.int .i64) (min ys.length xs.length : Nat), objs.set l (.row T (ys.take (min ys.length xs.length) ++ (h ▸ xs : List T.den).drop (min ys.length xs.length)) ver)⟩ else none) else none
          | _ => none
        | _, _ => none
      | none => none
    | none => none
  | _, _ => none

def effSlice (τ : TyTab) (objs : List Obj) (t : TypeId) (x : V) (lo hi : Option V) : Option Out :=
  match τ t, x with
  | some ⟨.sl e, _, _, _, _⟩, .d (.sl T) l => match τ e with
    | some ei => if T.size = ei.size ∧ 0 < T.size then
      let l : List T.den := l
      match lo, hi with
      | none, none => some ⟨none, .d (.sl T) l, objs⟩
      | none, some h => match asInt h with
        | some (_, h) => some ⟨some (0 ≤ h ∧ h ≤ (l.length : Int)), .d (.sl T) (l.take h.toNat), objs⟩
        | none => none
      | some a, none => match asInt a with
        | some (_, a) => some ⟨some (0 ≤ a ∧ a ≤ (l.length : Int)), .d (.sl T) (l.drop a.toNat), objs⟩
        | none => none
      | some a, some h => match asInt a, asInt h with
        | some (_, a), some (_, h) => some ⟨some (0 ≤ a ∧ a ≤ h ∧ h ≤ (l.length : Int)), .d (.sl T) ((l.take h.toNat).drop a.toNat), objs⟩
        | _, _ => none
      else none
    | none => none
  | _, _ => none

def effMinMax (objs : List Obj) (mx : Bool) (x y : V) : Option Out :=
  match x, y with
  | .d (.int k) a, .d (.int k') b => if k = k' then some ⟨none, .d (.int k) (if mx then (if b > a then b else a) else (if b < a then b else a)), objs⟩ else none
  | _, _ => none

def mput {α β : Type} [DecidableEq α] (m : α → Option β) (k : α) (x : β) : α → Option β := fun j => if j = k then some x else m j

def effBuiltin (τ : TyTab) (objs : List Obj) (b : Builtin) (ts : List TypeId) (args : List V) : Option Out :=
  match b, ts, args with
  | .len, [t], [x] => effLen τ objs t x
  | .append, [t, u], [s, x] => effAppend τ objs t u s x
  | .copy, [t, u], [d, x] => effCopy τ objs t u d x
  | .min, _, [x, y] => effMinMax objs false x y
  | .max, _, [x, y] => effMinMax objs true x y
  | _, _, _ => none

def boolV : V → Option (Prop × Bool)
  | .d .bool b => some (True, b)
  | .when g (.d .bool b) => some (g = true, b)
  | _ => none

def effPick (objs : List Obj) (a b : Operand) (c x y : V) : Option Out :=
  match asBool c, boolV x, boolV y with
  | some c, some (gx, x), some (gy, y) =>
    match a, b with
    | .const (.bool true), _ => some ⟨some (c = false → gy), .d .bool (c || y), objs⟩
    | _, .const (.bool false) => some ⟨some (c = true → gx), .d .bool (c && x), objs⟩
    | _, _ => some ⟨some ((c = true → gx) ∧ (c = false → gy)), .d .bool (if c then x else y), objs⟩
  | _, _, _ => none

/-- One operation, its guard aside. 'hx': exact arithmetic (what does not fit is refused by the obligation). -/
def eff (τ : TyTab) (hx : Bool) (op : Op) (s : St) : Option Out :=
  match op with
  | .move x | .assign x => some ⟨none, s.ev x, s.objs⟩
  | .pick c a b => effPick s.objs a b (s.ev c) (s.ev a) (s.ev b)
  | .alloc t => effAlloc τ s.objs t
  | .box _ x => effBox s.objs (s.ev x)
  | .build t parts => effBuild τ s.objs t (parts.toList.map fun p => (p.1, s.ev p.2))
  | .buildSlice t n parts => effBuildSlice τ s.objs t n (parts.toList.map fun p => (p.1, s.ev p.2))
  | .load t a => effLoad τ s.objs t (s.ev a)
  | .store t a x => effStore τ s.objs t (s.ev a) (s.ev x)
  | .nilCheck x => match s.ev x with
    | .ref l v o => match s.objs[l]? with
      | some (.box _) => if v = 0 then some ⟨none, .ref l v o, s.objs⟩ else none
      | _ => none
    | .er cs => some ⟨none, .er cs, s.objs⟩
    | .opt b (.er cs) => some ⟨some (b = true), .er cs, s.objs⟩
    | .fn (.func f) a b => some ⟨none, .fn (.func f) a b, s.objs⟩
    | _ => none
  | .binOp op xt x y _ => effBin τ s.objs hx op xt (s.ev x) (s.ev y)
  | .unOp op _ x => effUn s.objs hx op (s.ev x)
  | .convert a b x => effConvert τ s.objs hx a b (s.ev x)
  | .makeFunc f a b => some ⟨none, .fn f (a.toList.map s.ev) (b.toList.map s.ev), s.objs⟩
  | .makeSlice t l c => effMakeSlice τ s.objs t (s.ev l) (s.ev c)
  | .slice t x lo hi none => effSlice τ s.objs t (s.ev x) (lo.map s.ev) (hi.map s.ev)
  | .fieldAddr t x f => effFieldAddr τ s.objs t (s.ev x) f
  | .indexAddr t x i => effIndexAddr τ s.objs t (s.ev x) (s.ev i)
  | .extract x i => match s.ev x with
    | .tup vs => (vs[i]?).map fun v => ⟨none, v, s.objs⟩
    | _ => none
  | .call { callee := .builtin b, args, argTypes } => effBuiltin τ s.objs b argTypes.toList (args.toList.map s.ev)
  | _ => none

end Go.Proofs.Ytlncingakpelbaa
