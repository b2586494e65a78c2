/-
  The quiet operations (they write nothing that was there): what each yields, abstractly ('vcQ'), and that it does ('vcQ_sound').
-/
import Derived.Test.YtfnfbdccmggfoaaGreatDoorPg1
set_option linter.unusedSimpArgs false
set_option linter.unusedVariables false
namespace Go.Proofs.YtfnfbdccmggfoaaGreatDoor.Pg
open Go.RowKit

/-! ### What is asked of the program's types: closed facts -/
inductive Sh : Type where
  | one
  | many (n : Nat)
  | bad
  deriving DecidableEq

def isAggD : TypeDesc → Bool
  | .struct _ | .array _ _ => true
  | _ => false

def shapeOf (P : Program) (t : TypeId) : Sh :=
  match P.info? t with
  | none => .bad
  | some i => match P.underlying t with
    | some d => if isAggD d = true then .many i.size else if i.size = 1 then .one else .bad
    | none => .bad

def fOff (P : Program) (s : TypeId) (f : Nat) : Option Nat :=
  match P.underlying s with
  | some (.struct fs) => match fs[f]? with
    | some fl => match P.info? fl.type with
      | some i => if i.size = 0 then none else some fl.offset
      | none => none
    | none => none
  | _ => none

/-- Of a field: its offset, and its shape. -/
def fSh (P : Program) (s : TypeId) (f : Nat) : Option (Nat × Sh) :=
  match P.underlying s with
  | some (.struct fs) => match fs[f]? with
    | some fl => some (fl.offset, shapeOf P fl.type)
    | none => none
  | _ => none

def elemSz (P : Program) (t : TypeId) : Option Nat :=
  match P.underlying t with
  | some (.slice e) => match P.info? e with
    | some i => some i.size
    | none => none
  | _ => none

def intKindOf (P : Program) (t : TypeId) : Option IntKind :=
  match P.underlying t with
  | some (.int k) => some k
  | _ => none

/-- Of a struct: its zero cells, and each field's offset and size. -/
def structOf (P : Program) (t : TypeId) : Option (List Value × List (Nat × Nat)) :=
  match P.info? t with
  | none => none
  | some i => match i.zero, P.underlying t with
    | some (.agg z), some (.struct fs) =>
      if fs.all (fun f => (P.info? f.type).isSome) && z.all Value.oneCell' then some (z.toList, fs.toList.map fun f => (f.offset, ((P.info? f.type).map (·.size)).getD 0)) else none
    | _, _ => none

/-- .. of an array: the like. -/
def arrZ (P : Program) (t : TypeId) : Option (List Value × List (Nat × Nat)) :=
  match P.info? t with
  | none => none
  | some i => match i.zero, P.underlying t with
    | some (.agg z), some (.array len e) => match P.info? e with
      | some ie => if z.all Value.oneCell' then some (z.toList, (List.range len).map fun j => (j * ie.size, ie.size)) else none
      | none => none
    | _, _ => none
def aggOf (P : Program) (t : TypeId) : Option (List Value × List (Nat × Nat)) :=
  match structOf P t with
  | some x => some x
  | none => arrZ P t
/-- Of an array type: its length, and its elements' size. -/
def arrOf (P : Program) (t : TypeId) : Option (Nat × Nat) :=
  match P.underlying t with
  | some (.array len e) => match P.info? e with
    | some i => some (len, i.size)
    | none => none
  | _ => none

def callable (P : Program) (f : FuncId) : Bool :=
  match P.funcs[f]? with
  | some fn => fn.body.isSome && fn.name != "runtime.NumGoroutine"
  | none => false

/-! ### Pieces -/

/-- Cells laid over others: a part of a struct. -/
def ovr (off size : Nat) (v : V) (c : Nat → V) : Nat → V := fun j =>
  if off ≤ j ∧ j < off + size then (match v with | .agg _ c' => c' (j - off) | v => v) else c j

def vsize : V → Option Nat
  | .agg n _ => some n
  | .raw v => if v.oneCell' then some 1 else none
  | .e0 | .sl .. | .cp .. | .ptr .. | .vec .. => some 1
  | .tup .. | .any => none

def fillV (places : List (Nat × Nat)) (n : Nat) : List (Nat × V) → (Nat → V) → Option (Nat → V)
  | [], c => some c
  | (f, v) :: rest, c =>
    match places[f]?, vsize v with
    | some (off, size), some q => if q = size ∧ off + size ≤ n then fillV places n rest (ovr off size v c) else none
    | _, _ => none

def rawCells (z : List Value) : Nat → V := fun j => .raw (z.getD j undef)

/-- Int operations: what is asked, and the value. -/
def aint (op : BinOp) (k : IntKind) (a b : Int) : Option (Prop × Value) :=
  match op with
  | .add => some (True, .int k (k.wrap (a + b)))
  | .sub => some (True, .int k (k.wrap (a - b)))
  | .mul => some (True, .int k (k.wrap (a * b)))
  | .quo => some (b ≠ 0, .int k (k.wrap (a.tdiv b)))
  | .rem => some (b ≠ 0, .int k (a.tmod b))
  | .eql => some (True, .bool (a == b))
  | .neq => some (True, .bool (a != b))
  | .lss => some (True, .bool (decide (a < b)))
  | .leq => some (True, .bool (decide (a ≤ b)))
  | .gtr => some (True, .bool (decide (a > b)))
  | .geq => some (True, .bool (decide (a ≥ b)))
  | .and => some (True, .int k (bits .and k a b))
  | .or => some (True, .int k (bits .or k a b))
  | .xor => some (True, .int k (bits .xor k a b))
  | .shr => some (0 ≤ b, .int k (a.fdiv (2 ^ min b.toNat k.bits)))
  | .shl => some (0 ≤ b, .int k (k.wrap (a * 2 ^ min b.toNat k.bits)))
  | _ => none

def astr (op : BinOp) (a b : ByteArray) : Option (Prop × Value) :=
  match op with
  | .eql => some (True, .bool (a.toList == b.toList))
  | .neq => some (True, .bool (!(a.toList == b.toList)))
  | .lss => some (True, .bool (Op.bytesLess a.toList b.toList))
  | .leq => some (True, .bool (Op.bytesLess a.toList b.toList || a.toList == b.toList))
  | .gtr => some (True, .bool (!(Op.bytesLess a.toList b.toList || a.toList == b.toList)))
  | .geq => some (True, .bool (!(Op.bytesLess a.toList b.toList)))
  | _ => none

def boolT (P : Program) (t : TypeId) : Bool :=
  match P.underlying t with
  | some .bool => true
  | _ => false

def abool (op : BinOp) (a b : Bool) : Option (Prop × Value) :=
  match op with
  | .eql => some (True, .bool (a == b))
  | .neq => some (True, .bool (!(a == b)))
  | _ => none

def ptrT (P : Program) (t : TypeId) : Bool :=
  match P.underlying t with
  | some (.pointer _) => true
  | _ => false

/-- A pointer held against nil. -/
def aptr (op : BinOp) (b : Bool) : Option (Prop × Value) :=
  match op with
  | .eql => some (True, .bool b)
  | .neq => some (True, .bool (!b))
  | _ => none

def abin (P : Program) (op : BinOp) (t : TypeId) (x y : Value) : Option (Prop × Value) :=
  match x, y with
  | .int k a, .int k' b => if k = k' then aint op k a b else none
  | .string a, .string b => astr op a b
  | .bool a, .bool b => if boolT P t = true then abool op a b else none
  | .pointer p, .pointer none => if ptrT P t = true then aptr op p.isNone else none
  | _, _ => none

/-- Structs of ints alone: how many; their comparing. -/
def flatInts (P : Program) : List Field → Nat → Bool
  | [], _ => true
  | f :: fs, j => f.name != "_" && f.offset == j && (intKindOf P f.type).isSome && (match shapeOf P f.type with | .one => true | _ => false) && flatInts P fs (j + 1)

def eqInts (P : Program) (t : TypeId) : Option Nat :=
  match P.underlying t with
  | some (.struct fs) => if (!P.stoodInHeld t && !P.eqGuardType P.depth t && flatInts P fs.toList 0) = true then some fs.toList.length else none
  | _ => none

def intOf : V → Option (IntKind × Int)
  | .raw (.int k a) => some (k, a)
  | _ => none

def eqC (c c' : Nat → V) : Nat → Nat → Option Bool
  | 0, _ => some true
  | k + 1, j => match intOf (c j), intOf (c' j), eqC c c' k (j + 1) with
    | some (q, a), some (q', b), some r => if q = q' then some (a == b && r) else none
    | _, _, _ => none

def aggOp (op : BinOp) (k n m : Nat) (r : Option Bool) : Option (Prop × Value) :=
  match op, r with
  | .eql, some b => some (k ≤ n ∧ k ≤ m, .bool b)
  | .neq, some b => some (k ≤ n ∧ k ≤ m, .bool (!b))
  | _, _ => none

def aggBin (P : Program) (op : BinOp) (t : TypeId) (n : Nat) (c : Nat → V) (m : Nat) (c' : Nat → V) : Option (Prop × Value) :=
  match eqInts P t with
  | some k => aggOp op k n m (eqC c c' k 0)
  | none => none

def loadV (st : St) (s : Sh) (p : V) : Option (Prop × V) :=
  match s, p with
  | .one, .ptr o i j => match st.σ o with
    | .box _ n c => some (i = 0 ∧ j < n, c j)
    | .vec _ sz n _ f => some (i < n ∧ j < sz, f i j)
    | .dead => none
  | .many q, .ptr o i j => match st.σ o with
    | .box _ n c => some (i = 0 ∧ j + q ≤ n, .agg q fun p => c (j + p))
    | .vec _ sz n _ f => some (i < n ∧ j + q ≤ sz, .agg q fun p => f i (j + p))
    | .dead => none
  | .one, .cp n c => some (0 < n, c 0)
  | .many q, .cp n c => some (q ≤ n, .agg q c)
  | _, _ => none

def lenV (st : St) (v : V) : Option Nat :=
  match v with
  | .sl _ n _ => some n
  | .vec o => match st.σ o with
    | .vec _ _ n _ _ => some n
    | _ => none
  | .e0 => some 0
  | .raw (.slice none 0 0) => some 0
  | _ => none

def indexV (st : St) (sz' : Nat) (v : V) (i : Int) : Option (Prop × V) :=
  match v with
  | .sl sz n f => some (sz' = sz ∧ 0 ≤ i ∧ i < n, .cp sz (f i.toNat))
  | .vec o => match st.σ o with
    | .vec _ sz n _ _ => some (sz' = sz ∧ 0 ≤ i ∧ i < n, .ptr o i.toNat 0)
    | _ => none
  | _ => none

/-- An array's place. -/
def arrIx (len sz : Nat) (v : V) (i : Int) : Option (Prop × V) :=
  match v with
  | .ptr o a j => some (0 ≤ i ∧ i < len, .ptr o a (j + i.toNat * sz))
  | .cp m c => some (0 ≤ i ∧ i < len, .cp (m - i.toNat * sz) fun q => c (i.toNat * sz + q))
  | _ => none

def optInt (st : St) (x : Option Operand) (d : Nat) : Option Int :=
  match x with
  | none => some d
  | some x => match ev st x with
    | .raw (.int _ n) => some n
    | _ => none

/-- A slice expression without a third index, of memory that stays. -/
def sliceV (st : St) (sz' : Nat) (v : V) (lo hi : Option Operand) : Option (Prop × V) :=
  match v with
  | .sl sz n f => match optInt st lo 0, optInt st hi n with
    | some l, some h => some (sz' = sz ∧ 0 ≤ l ∧ l ≤ h ∧ h ≤ n, .sl sz (h - l).toNat fun i j => f (l.toNat + i) j)
    | _, _ => none
  | _ => none

/-- .. and go on. -/
def andK (r : Option (Prop × V)) (K : V → Prop) : Prop :=
  match r with
  | some (c, v) => c ∧ K v
  | none => False

/-- The quiet builtins. -/
def vcBuiltin (P : Program) (st : St) (c : Call) (K : V → Prop) : Prop :=
  match c.callee with
  | .builtin b =>
    match b, c.args.toList, c.argTypes.toList with
    | .len, [x], [t] =>
      match elemSz P t with
      | some _ => match lenV st (ev st x) with
        | some n => K (.raw (.int .i64 n))
        | none => False
      | none => match P.underlying t with
        | some .string => match ev st x with
          | .raw (.string s) => K (.raw (.int .i64 s.size))
          | _ => False
        | _ => False
    | .min, [x, y], _ => match ev st x, ev st y with
      | .raw (.int k a), .raw (.int _ b) => K (.raw (.int k (if b < a then b else a)))
      | _, _ => False
    | .max, [x, y], _ => match ev st x, ev st y with
      | .raw (.int k a), .raw (.int _ b) => K (.raw (.int k (if b > a then b else a)))
      | _, _ => False
    | _, _, _ => False
  | _ => False

/-- WHAT A QUIET OPERATION YIELDS. -/
def vcQ (P : Program) (st : St) (op : Op) (K : V → Prop) : Prop :=
  match op with
  | .move x => K (ev st x)
  | .assign x => K (ev st x)
  | .pick c a b => match ev st c with
    | .raw (.bool p) => K (if p = true then ev st a else ev st b)
    | _ => False
  | .fieldAddr s x f => match fOff P s f, ev st x with
    | some off, .ptr o i j => K (.ptr o i (j + off))
    | some off, .cp n c => K (.cp (n - off) fun q => c (off + q))
    | _, _ => False
  | .nilCheck x => match ev st x with
    | .ptr o i j => K (.ptr o i j)
    | .cp n c => K (.cp n c)
    | _ => False
  | .load t x => andK (loadV st (shapeOf P t) (ev st x)) K
  | .indexAddr t x i => match elemSz P t, ev st i with
    | some sz, .raw (.int _ n) => andK (indexV st sz (ev st x) n) K
    | none, .raw (.int _ n) => match arrOf P t with
      | some (len, sz) => andK (arrIx len sz (ev st x) n) K
      | none => False
    | _, _ => False
  | .binOp op t x y _ => match ev st x, ev st y with
    | .raw a, .raw b => match abin P op t a b with
      | some (c, v) => c ∧ K (.raw v)
      | none => False
    | .agg n c, .agg m c' => match aggBin P op t n c m c' with
      | some (q, v) => q ∧ K (.raw v)
      | none => False
    | _, _ => False
  | .unOp op _ x => match op, ev st x with
    | .not, .raw (.bool b) => K (.raw (.bool (!b)))
    | .neg, .raw (.int k n) => K (.raw (.int k (k.wrap (0 - n))))
    | _, _ => False
  | .convert src dst x => match (P.underlying src).isSome, intKindOf P dst, ev st x with
    | true, some k, .raw (.int _ n) => K (.raw (.int k (k.wrap n)))
    | _, _, _ => False
  | .build t parts => match aggOf P t with
    | some (z, places) => match fillV places z.length (parts.toList.map fun p => (p.1, ev st p.2)) (rawCells z) with
      | some c => K (.agg z.length c)
      | none => False
    | none => False
  | .field t x f => match fSh P t f, ev st x with
    | some (off, .one), .agg n c => off < n ∧ K (c off)
    | some (off, .many q), .agg n c => off + q ≤ n ∧ K (.agg q fun p => c (off + p))
    | _, _ => False
  | .extract x i => match ev st x with
    | .tup n c => i < n ∧ K (c i)
    | _ => False
  | .slice t x lo hi mx => match mx, elemSz P t with
    | none, some sz => andK (sliceV st sz (ev st x) lo hi) K
    | _, _ => False
  | .call c => vcBuiltin P st c K
  | _ => False

/-- What an operation comes to in a world: a value, or a call that hands one back. -/
def Yields (P : Program) (o : Oper) (a : Act) (w : World) (Post : Value → World → Prop) : Prop :=
  match (execOp a.eval o).run P w with
  | .ok (.value v) w' => Post v w'
  | .ok (.enter f args) w' => Calls P f args w' fun e w'' => ∃ v, e = .returned v ∧ Post v w''
  | _ => False

theorem Yields.wp {P : Program} {o : Oper} {a : Act} {w : World} {Post : Value → World → Prop} {K : Act → World → Prop} {Q : Exit → Act → World → Prop} (h : Yields P o a w Post)
    (hk : ∀ v w', Post v w' → K (a.put o.dst v) w') : o.wp P a w K Q := by
  unfold Yields at h
  unfold Oper.wp
  generalize (execOp a.eval o).run P w = r at *
  cases r with
  | halt x w' => exact False.elim h
  | ok n w' =>
    cases n with
    | value v => exact hk _ _ h
    | enter f args =>
      rw [Oper.upon_enter]
      refine Calls.mono h ?_
      intro e w'' hh
      obtain ⟨v, he, hp⟩ := hh
      rw [he]
      exact hk _ _ hp
    | _ => exact False.elim h

theorem Yields.of_run {P : Program} {o : Oper} {a : Act} {w w' : World} {v : Value} {Post : Value → World → Prop} (hr : (execOp a.eval o).run P w = .ok (.value v) w') (h : Post v w') : Yields P o a w Post := by
  unfold Yields; rw [hr]; exact h

/-- Nothing that was there has changed. -/
def Grown (w w' : World) (M M' : Imm) : Prop := Below w.heap.size w w' ∧ (∀ p v, M' p = some v → w'.cell? p = some v ∧ v.oneCell' = true) ∧ ∀ p : Addr, p.block < w.heap.size → M' p = M p
/-- What the world grows to under an operation that is quiet. -/
def Keeps (X : Ctx) (M : Imm) (β : Env) (st : St) (w : World) (r : V) (v : Value) (w' : World) : Prop := ∃ M', Imm.Le M M' ∧ Grown w w' M M' ∧ Mem X M' β st w' ∧ R M' r β v

end Go.Proofs.YtfnfbdccmggfoaaGreatDoor.Pg
