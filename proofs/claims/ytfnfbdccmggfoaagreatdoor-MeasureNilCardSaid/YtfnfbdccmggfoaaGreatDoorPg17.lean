/-
  The rules by which a region is reckoned, an operation at a time: 'pq'.
-/
import Derived.Test.YtfnfbdccmggfoaaGreatDoorPg20
import Derived.Test.YtfnfbdccmggfoaaGreatDoorPg21
namespace Go.Proofs.YtfnfbdccmggfoaaGreatDoor.Pg
open Go.RowKit

/-- The slots of the operations so far: by them a guard is looked up. -/
def guardA (g : List (Option Tmp)) (st : St) (j : Nat) : Option (Option Bool) :=
  match (g[j]?).getD none with
  | some d => match st.T d with
    | .raw (.bool b) => some (some b)
    | .raw (.tuple _) => some none
    | _ => none
  | none => none

def vcA (dr : Bool) (P : Program) : List (Option Tmp) → List Oper → St → (St → Prop) → Prop
  | _, [], st, K => K st
  | g, o :: rest, st, K => match o.guard with
    | none => vcOp dr P st o fun st' => vcA dr P g rest st' K
    | some (j, want) => match guardA g st j with
      | some b => if b = some want then vcOp dr P st o fun st' => vcA dr P g rest st' K else st.fits o.dst ∧ vcA dr P g rest (st.put o.dst (.raw undef)) K
      | none => False

theorem guardA_eq (ops : Array Oper) (st : St) (j : Nat) : guardA (ops.toList.map (·.dst)) st j = guardV ops st j := by
  unfold guardA guardV
  rw [List.getElem?_map, Array.getElem?_toList]
  cases ops[j]? <;> rfl

theorem vcOps_of {dr : Bool} {P : Program} {ops : Array Oper} {K : St → Prop} : ∀ (rest : List Oper) (st : St), vcA dr P (ops.toList.map (·.dst)) rest st K = vcOps dr P ops rest st K
  | [], st => rfl
  | o :: rest, st => by
    have step : ∀ st', vcA dr P (ops.toList.map (·.dst)) rest st' K = vcOps dr P ops rest st' K := fun st' => vcOps_of rest st'
    have step' : (fun st' => vcA dr P (ops.toList.map (·.dst)) rest st' K) = fun st' => vcOps dr P ops rest st' K := funext step
    unfold vcA vcOps
    rw [step', step]
    cases hg : o.guard with
    | none => rfl
    | some q =>
      obtain ⟨j, want⟩ := q
      simp only
      rw [guardA_eq]
      cases guardV ops st j <;> rfl

def KB (dr : Bool) (P : Program) (g : List (Option Tmp)) (rest : List Oper) (K : St → Prop) : St → Prop := fun st => vcA dr P g rest st K

section
variable {P : Program} {k : List It} {st : St} {Q : Exit → St → Prop}
theorem aq_region {id : Nat} {ops : Array Oper} (h : vcA false P (ops.toList.map (·.dst)) ops.toList st (KA P k Q)) : AW P (.code (.region id ops false) :: k) st Q := aw_region ((vcOps_of (dr := false) (P := P) (ops := ops) (K := KA P k Q) ops.toList st).mp h)
theorem aq_draw {id : Nat} {ops : Array Oper} (m : Nat) (hm : P.follows .mixedOrders = true) (hd : drawOK ops m = true) (h : vcA true P (ops.toList.map (·.dst)) ops.toList st (KA P k Q)) : AW P (.code (.region id ops true) :: k) st Q := aw_draw m hm hd ((vcOps_of (dr := true) (P := P) (ops := ops) (K := KA P k Q) ops.toList st).mp h)
/-- How many operations stand ahead of the first that writes. -/
def quietN (ops : Array Oper) : Nat := (ops.toList.takeWhile fun o => !stateful true o.op).length
theorem aq_drawA {id : Nat} {ops : Array Oper} (hm : P.follows .mixedOrders = true) (hd : drawOK ops (quietN ops) = true) (h : vcA true P (ops.toList.map (·.dst)) ops.toList st (KA P k Q)) : AW P (.code (.region id ops true) :: k) st Q := aq_draw (quietN ops) hm hd h
/-- A region that draws, with one late store: s its place in the list, o the object that it goes to. -/
theorem aq_late {id : Nat} {ops : Array Oper} (s o : Nat) (hm : P.follows .mixedOrders = true) (hd : lateOK ops s = true) (h : vcA true P ((nopAt ops s).toList.map (·.dst)) (nopAt ops s).toList (st.mask o) (lateK P k Q ops s o st)) : AW P (.code (.region id ops true) :: k) st Q :=
  aw_late s o hm hd ((vcOps_of (dr := true) (P := P) (ops := nopAt ops s) (K := lateK P k Q ops s o st) (nopAt ops s).toList (st.mask o)).mp h)
end


def eqOB (a : Option (Option Bool)) (b : Bool) : Bool := match a with
  | some (some a) => a == b
  | _ => false
def skOB (a : Option (Option Bool)) (b : Bool) : Bool := match a with
  | some (some a) => a == b
  | some none => true
  | none => false
theorem guardT {b : Bool} {A B : Prop} (h1 : b = true → A) (h2 : b = false → B) : if eqOB (some (some b)) true = true then A else if skOB (some (some b)) false = true then B else False := by
  cases b with
  | true => simpa [eqOB, skOB] using h1 rfl
  | false => simpa [eqOB, skOB] using h2 rfl
theorem guardF {b : Bool} {A B : Prop} (h1 : b = true → B) (h2 : b = false → A) : if eqOB (some (some b)) false = true then A else if skOB (some (some b)) true = true then B else False := by
  cases b with
  | true => simpa [eqOB, skOB] using h1 rfl
  | false => simpa [eqOB, skOB] using h2 rfl
theorem of_KA {P : Program} {k : List It} {Q : Exit → St → Prop} {st : St} (h : AW P k st Q) : KA P k Q st := h
def mskS (σ : Nat → Ob) (o : Nat) : Nat → Ob := fun p => if p = o then .dead else σ p
def pickK (c x y : V) (K : V → Prop) : Prop := match c with
  | .raw (.bool p) => K (if p = true then x else y)
  | _ => False
def faK (o : Option Nat) (x : V) (K : V → Prop) : Prop := match o, x with
  | some off, .ptr o i j => K (.ptr o i (j + off))
  | some off, .cp n c => K (.cp (n - off) fun q => c (off + q))
  | _, _ => False
def ncK (x : V) (K : V → Prop) : Prop := match x with
  | .ptr o i j => K (.ptr o i j)
  | .cp n c => K (.cp n c)
  | _ => False
def ixK (P : Program) (t : TypeId) (st : St) (s : Option Nat) (x i : V) (K : V → Prop) : Prop := match s, i with
  | some sz, .raw (.int _ n) => andK (indexV st sz x n) K
  | none, .raw (.int _ n) => match arrOf P t with
    | some (len, sz) => andK (arrIx len sz x n) K
    | none => False
  | _, _ => False
def arK (a : Option (Nat × Nat)) (x : V) (n : Int) (K : V → Prop) : Prop := match a with
  | some (len, sz) => andK (arrIx len sz x n) K
  | none => False
def biK (P : Program) (t : TypeId) (o : BinOp) (x y : V) (K : V → Prop) : Prop := match x, y with
  | .raw a, .raw b => match abin P o t a b with
    | some (c, v) => c ∧ K (.raw v)
    | none => False
  | .agg n c, .agg m c' => match aggBin P o t n c m c' with
    | some (q, v) => q ∧ K (.raw v)
    | none => False
  | _, _ => False
def notK (x : V) (K : V → Prop) : Prop := match x with
  | .raw (.bool b) => K (.raw (.bool (!b)))
  | _ => False
def negK (x : V) (K : V → Prop) : Prop := match x with
  | .raw (.int k n) => K (.raw (.int k (k.wrap (0 - n))))
  | _ => False
def bdK (s : Option (List Value × List (Nat × Nat))) (ps : List (Nat × V)) (K : V → Prop) : Prop := match s with
  | some (z, places) => match fillV places z.length ps (rawCells z) with
    | some c => K (.agg z.length c)
    | none => False
  | none => False
def fldK (s : Option (Nat × Sh)) (x : V) (K : V → Prop) : Prop := match s, x with
  | some (off, .one), .agg n c => off < n ∧ K (c off)
  | some (off, .many q), .agg n c => off + q ≤ n ∧ K (.agg q fun p => c (off + p))
  | _, _ => False
def exK (x : V) (i : Nat) (K : V → Prop) : Prop := match x with
  | .tup n c => i < n ∧ K (c i)
  | _ => False
def slK (st : St) (s : Option Nat) (x : V) (lo hi : Option Operand) (K : V → Prop) : Prop := match s with
  | some sz => andK (sliceV st sz x lo hi) K
  | none => False
def lenK (P : Program) (t : TypeId) (s : Option Nat) (st : St) (x : V) (K : V → Prop) : Prop := match s with
  | some _ => match lenV st x with
    | some n => K (.raw (.int .i64 n))
    | none => False
  | none => match P.underlying t with
    | some .string => match x with
      | .raw (.string s) => K (.raw (.int .i64 s.size))
      | _ => False
    | _ => False
def gd (d : Option Tmp) (st : St) : Option (Option Bool) := match d with
  | some d => match st.T d with
    | .raw (.bool b) => some (some b)
    | .raw (.tuple _) => some none
    | _ => none
  | none => none
def gb (v : V) : Option (Option Bool) := match v with
  | .raw (.bool b) => some (some b)
  | .raw (.tuple _) => some none
  | _ => none
def sh (off : Nat) (c : Nat → V) : Nat → V := fun q => c (off + q)
def eqS (x y : Option (IntKind × Int)) (r : Option Bool) : Option Bool := match x, y, r with
  | some (q, a), some (q', b), some r => if q = q' then some (a == b && r) else none
  | _, _, _ => none
def ld1 (o : Ob) (i j : Nat) : Option (Prop × V) := match o with
  | .box _ n c => some (i = 0 ∧ j < n, c j)
  | .vec _ sz n _ f => some (i < n ∧ j < sz, f i j)
  | .dead => none
def ldn (q : Nat) (o : Ob) (i j : Nat) : Option (Prop × V) := match o with
  | .box _ n c => some (i = 0 ∧ j + q ≤ n, .agg q fun p => c (j + p))
  | .vec _ sz n _ f => some (i < n ∧ j + q ≤ sz, .agg q fun p => f i (j + p))
  | .dead => none
def lnO (o : Ob) : Option Nat := match o with
  | .vec _ _ n _ _ => some n
  | _ => none
def lnK (o : Option Nat) (K : V → Prop) : Prop := match o with
  | some n => K (.raw (.int .i64 n))
  | none => False
def ixO (ob : Ob) (o sz' : Nat) (i : Int) : Option (Prop × V) := match ob with
  | .vec _ sz n _ _ => some (sz' = sz ∧ 0 ≤ i ∧ i < n, .ptr o i.toNat 0)
  | _ => none
def paK (r : Option (Prop × Value)) (K : V → Prop) : Prop := match r with
  | some (c, v) => c ∧ K (.raw v)
  | none => False
def bs2 (sz n : Nat) (c : Option (Nat → Nat → V)) (K : V → Prop) : Prop := match c with
  | some c => K (.sl sz n c)
  | none => False
def bd2 (n : Nat) (c : Option (Nat → V)) (K : V → Prop) : Prop := match c with
  | some c => K (.agg n c)
  | none => False
def stO (ob : Ob) (st : St) (o i j q : Nat) (v : V) (K : St → Prop) : Prop := match ob with
  | .box t' n c => i = 0 ∧ j + q ≤ n ∧ K (st.setOb o (.box t' n (ovr j q v c)))
  | .vec e sz n fz f => i < n ∧ fz ≤ i ∧ j + q ≤ sz ∧ isImm v = true ∧ K (st.setOb o (.vec e sz n fz fun i' => if i' = i then ovr j q v (f i) else f i'))
  | .dead => False
def stoK (st : St) (d : Option Tmp) (p : V) (q q' : Option Nat) (v : V) (K : St → Prop) : Prop := match d, p, q, q' with
  | none, .ptr o i j, some q, some q' => q = q' ∧ stO (st.σ o) st o i j q v K
  | _, _, _, _ => False
def aT (as : List V) : Nat → V := fun t => (as[t]?).getD .any
def dσ : Nat → Ob := fun _ => .dead
def gσ (os : List Ob) : Nat → Ob := fun o => (os[o]?).getD .dead
def bsK (len : Nat) (s : Option (TypeId × Nat × Nat × List Value)) (ps : List (Nat × V)) (K : V → Prop) : Prop := match s with
  | some (_, sz, _, z) => len * sz ≤ 16777216 ∧ match fillE sz len ps (fun _ => rawCells z) with
    | some f => K (.sl sz len f)
    | none => False
  | none => False
theorem vcQ_not (P : Program) (st : St) (t : TypeId) (x : Operand) (K : V → Prop) : vcQ P st (.unOp .not t x) K = notK (ev st x) K := by
  simp only [vcQ, notK]
  cases ev st x with
  | raw v => cases v <;> rfl
  | _ => rfl
theorem vcQ_neg (P : Program) (st : St) (t : TypeId) (x : Operand) (K : V → Prop) : vcQ P st (.unOp .neg t x) K = negK (ev st x) K := by
  simp only [vcQ, negK]
  cases ev st x with
  | raw v => cases v <;> rfl
  | _ => rfl
theorem vcQ_slice (P : Program) (st : St) (t : TypeId) (x : Operand) (lo hi : Option Operand) (K : V → Prop) : vcQ P st (.slice t x lo hi none) K = slK st (elemSz P t) (ev st x) lo hi K := by
  simp only [vcQ, slK]
  cases elemSz P t <;> rfl
def allV (p : V → Bool) : Nat → (Nat → V) → Bool
  | 0, _ => true
  | n + 1, c => allV p n c && p (c n)
theorem allV_range (p : V → Bool) : ∀ n c, allV p n c = (List.range n).all fun j => p (c j)
  | 0, c => rfl
  | n + 1, c => by rw [allV, allV_range p n c, List.range_succ, List.all_append]; simp
/-- A call: stays as it stands until it is told which contract it goes by. -/
def callK (P : Program) (st : St) (fv : V) (args : List V) (K : V → Prop) : Prop := match fv with
  | .raw (.func (.func f) first captured) =>
    match first.toList, captured.toList with
    | [], [] => (∃ r, Con P st.G f args r ∧ (args.all isImm) = true ∧ K r) ∨ (∃ r, Con P st.G f (args.map (snap st)) r ∧ isFlat r = true ∧ K r)
    | _, _ => False
  | _ => False
theorem vcCall_eq (P : Program) (st : St) (fo : Operand) (as : Array Operand) (ts : Array TypeId) (K : V → Prop) : vcCall P st ⟨.value fo, as, ts⟩ K = callK P st (ev st fo) (as.toList.map (ev st)) K := by
  unfold vcCall callK
  simp only [List.map_map]
  rfl
theorem call_imm {P : Program} {st : St} {f : FuncId} {args : List V} {K : V → Prop} {r : V} (hc : Con P st.G f args r) (hi : args.all isImm = true) (h : K r) : callK P st (.raw (.func (.func f) #[] #[])) args K := .inl ⟨r, hc, hi, h⟩
theorem call_snap {P : Program} {st : St} {f : FuncId} {args args' : List V} {K : V → Prop} {r : V} (hc : Con P st.G f args' r) (ha : args.map (snap st) = args') (hi : isFlat r = true) (h : K r) : callK P st (.raw (.func (.func f) #[] #[])) args K := .inr ⟨r, by rw [ha]; exact hc, hi, h⟩
def agK (s : Option Nat) (op : BinOp) (n m : Nat) (c c' : Nat → V) (K : V → Prop) : Prop := match s with
  | some k => paK (aggOp op k n m (eqC c c' k 0)) K
  | none => False
def alK (z : Option (List Value)) (t : TypeId) (st : St) (dst : Option Tmp) (K : St → Prop) : Prop := match z with
  | some z => st.fits dst ∧ K ((st.new (.box t z.length (rawCells z))).put dst (.ptr st.nx 0 0))
  | none => False
def boxK (z : Option (Nat × (Nat → V))) (t : TypeId) (st : St) (dst : Option Tmp) (K : St → Prop) : Prop := match z with
  | some (n, c) => st.fits dst ∧ K ((st.new (.box t n c)).put dst (.ptr st.nx 0 0))
  | none => False

section
variable (dr : Bool) (P : Program) (g : List (Option Tmp)) (d : Option Tmp) (ty : TypeId) (pos : String) (af : Array Edge) (r : List Oper) (st : St) (K : St → Prop)

theorem a_nil : vcA dr P g [] st K = K st := rfl
theorem a_guard (op : Op) (j : Nat) (want : Bool) : vcA dr P g (⟨d, op, ty, pos, af, some (j, want)⟩ :: r) st K = if eqOB (guardA g st j) want = true then vcA dr P g (⟨d, op, ty, pos, af, none⟩ :: r) st K else (if skOB (guardA g st j) (!want) = true then (st.fits d ∧ vcA dr P g r (st.put d (.raw undef)) K) else False) := by
  show (match guardA g st j with | some b => if b = some want then _ else _ | none => False) = _
  cases guardA g st j with
  | none => rfl
  | some b => cases b with
    | none => cases want <;> rfl
    | some b => cases b <;> cases want <;> rfl
theorem a_move (x : Operand) : vcA dr P g (⟨d, .move x, ty, pos, af, none⟩ :: r) st K = KV st d (KB dr P g r K) (ev st x) := rfl
theorem a_assign (x : Operand) : vcA dr P g (⟨d, .assign x, ty, pos, af, none⟩ :: r) st K = KV st d (KB dr P g r K) (ev st x) := rfl
theorem a_pick (c x y : Operand) : vcA dr P g (⟨d, .pick c x y, ty, pos, af, none⟩ :: r) st K = pickK (ev st c) (ev st x) (ev st y) (KV st d (KB dr P g r K)) := rfl
theorem a_fieldAddr (s : TypeId) (x : Operand) (f : Nat) : vcA dr P g (⟨d, .fieldAddr s x f, ty, pos, af, none⟩ :: r) st K = faK (fOff P s f) (ev st x) (KV st d (KB dr P g r K)) := rfl
theorem a_nilCheck (x : Operand) : vcA dr P g (⟨d, .nilCheck x, ty, pos, af, none⟩ :: r) st K = ncK (ev st x) (KV st d (KB dr P g r K)) := rfl
theorem a_load (t : TypeId) (x : Operand) : vcA dr P g (⟨d, .load t x, ty, pos, af, none⟩ :: r) st K = andK (loadV st (shapeOf P t) (ev st x)) (KV st d (KB dr P g r K)) := rfl
theorem a_indexAddr (t : TypeId) (x i : Operand) : vcA dr P g (⟨d, .indexAddr t x i, ty, pos, af, none⟩ :: r) st K = ixK P t st (elemSz P t) (ev st x) (ev st i) (KV st d (KB dr P g r K)) := by
  show vcQ P st (.indexAddr t x i) _ = _
  unfold vcQ ixK
  rfl
theorem a_binOp (o : BinOp) (t t' : TypeId) (x y : Operand) : vcA dr P g (⟨d, .binOp o t x y t', ty, pos, af, none⟩ :: r) st K = biK P t o (ev st x) (ev st y) (KV st d (KB dr P g r K)) := rfl
theorem a_not (t : TypeId) (x : Operand) : vcA dr P g (⟨d, .unOp .not t x, ty, pos, af, none⟩ :: r) st K = notK (ev st x) (KV st d (KB dr P g r K)) := vcQ_not P st t x _
theorem a_neg (t : TypeId) (x : Operand) : vcA dr P g (⟨d, .unOp .neg t x, ty, pos, af, none⟩ :: r) st K = negK (ev st x) (KV st d (KB dr P g r K)) := vcQ_neg P st t x _
theorem a_build (t : TypeId) (ps : Array (Nat × Operand)) : vcA dr P g (⟨d, .build t ps, ty, pos, af, none⟩ :: r) st K = bdK (aggOf P t) (ps.toList.map fun p => (p.1, ev st p.2)) (KV st d (KB dr P g r K)) := rfl
theorem a_field (t : TypeId) (x : Operand) (f : Nat) : vcA dr P g (⟨d, .field t x f, ty, pos, af, none⟩ :: r) st K = fldK (fSh P t f) (ev st x) (KV st d (KB dr P g r K)) := rfl
theorem a_extract (x : Operand) (i : Nat) : vcA dr P g (⟨d, .extract x i, ty, pos, af, none⟩ :: r) st K = exK (ev st x) i (KV st d (KB dr P g r K)) := rfl
theorem a_slice (t : TypeId) (x : Operand) (lo hi : Option Operand) : vcA dr P g (⟨d, .slice t x lo hi none, ty, pos, af, none⟩ :: r) st K = slK st (elemSz P t) (ev st x) lo hi (KV st d (KB dr P g r K)) := vcQ_slice P st t x lo hi _
theorem a_alloc (t : TypeId) : vcA dr P g (⟨d, .alloc t, ty, pos, af, none⟩ :: r) st K = alK (zeroOf P t) t st d (KB dr P g r K) := rfl
theorem a_box (t : TypeId) (x : Operand) : vcA dr P g (⟨d, .box t x, ty, pos, af, none⟩ :: r) st K = boxK (vcells (ev st x)) t st d (KB dr P g r K) := rfl
theorem a_store (t : TypeId) (p x : Operand) : vcA dr P g (⟨d, .store t p x, ty, pos, af, none⟩ :: r) st K = stoK st d (ev st p) (vsize (ev st x)) (szOf P t) (ev st x) (KB dr P g r K) := rfl
theorem a_buildSlice (t : TypeId) (n : Nat) (ps : Array (Nat × Operand)) : vcA false P g (⟨d, .buildSlice t n ps, ty, pos, af, none⟩ :: r) st K = vcS P st (.buildSlice t n ps) d (KB false P g r K) := rfl
theorem a_buildSliceD (t : TypeId) (n : Nat) (ps : Array (Nat × Operand)) : vcA true P g (⟨d, .buildSlice t n ps, ty, pos, af, none⟩ :: r) st K = bsK n (sliceOf P t) (ps.toList.map fun p => (p.1, ev st p.2)) (KV st d (KB true P g r K)) := rfl
theorem a_convert (src dst : TypeId) (x : Operand) : vcA dr P g (⟨d, .convert src dst x, ty, pos, af, none⟩ :: r) st K = vcQ P st (.convert src dst x) (KV st d (KB dr P g r K)) := rfl
theorem a_callf (fo : Operand) (as : Array Operand) (ts : Array TypeId) : vcA dr P g (⟨d, .call ⟨.value fo, as, ts⟩, ty, pos, af, none⟩ :: r) st K = callK P st (ev st fo) (as.toList.map (ev st)) (KV st d (KB dr P g r K)) := vcCall_eq P st fo as ts _
theorem a_len (x : Operand) (t : TypeId) : vcA dr P g (⟨d, .call ⟨.builtin .len, #[x], #[t]⟩, ty, pos, af, none⟩ :: r) st K = lenK P t (elemSz P t) st (ev st x) (KV st d (KB dr P g r K)) := by
  show vcBuiltin P st ⟨.builtin .len, #[x], #[t]⟩ _ = _
  unfold vcBuiltin lenK
  rfl
theorem a_min (x y : Operand) (ts : Array TypeId) : vcA dr P g (⟨d, .call ⟨.builtin .min, #[x, y], ts⟩, ty, pos, af, none⟩ :: r) st K = vcBuiltin P st ⟨.builtin .min, #[x, y], ts⟩ (KV st d (KB dr P g r K)) := rfl
theorem a_max (x y : Operand) (ts : Array TypeId) : vcA dr P g (⟨d, .call ⟨.builtin .max, #[x, y], ts⟩, ty, pos, af, none⟩ :: r) st K = vcBuiltin P st ⟨.builtin .max, #[x, y], ts⟩ (KV st d (KB dr P g r K)) := rfl
theorem a_append (x y : Operand) (ts : Array TypeId) : vcA dr P g (⟨d, .call ⟨.builtin .append, #[x, y], ts⟩, ty, pos, af, none⟩ :: r) st K = vcS P st (.call ⟨.builtin .append, #[x, y], ts⟩) d (KB dr P g r K) := rfl
end

section
variable (dr : Bool) (K : V → Prop) (KS : St → Prop) (st : St) (P : Program)
theorem eqOB_tt : eqOB (some (some true)) true = true := rfl
theorem eqOB_tf : eqOB (some (some true)) false = false := rfl
theorem eqOB_ft : eqOB (some (some false)) true = false := rfl
theorem eqOB_ff : eqOB (some (some false)) false = true := rfl
theorem skOB_tt : skOB (some (some true)) true = true := rfl
theorem skOB_tf : skOB (some (some true)) false = false := rfl
theorem skOB_ft : skOB (some (some false)) true = false := rfl
theorem skOB_ff : skOB (some (some false)) false = true := rfl
theorem eqOB_u (b : Bool) : eqOB (some none) b = false := rfl
theorem skOB_u (b : Bool) : skOB (some none) b = true := rfl
theorem guardA_of (g : List (Option Tmp)) (j : Nat) : guardA g st j = gd ((g[j]?).getD none) st := rfl
theorem gd_some (d : Tmp) : gd (some d) st = gb (st.T d) := rfl
theorem gb_of (b : Bool) : gb (.raw (.bool b)) = some (some b) := rfl
theorem gb_un : gb (.raw undef) = some none := rfl
theorem pickK_t (x y : V) : pickK (.raw (.bool true)) x y K = K x := rfl
theorem pickK_f (x y : V) : pickK (.raw (.bool false)) x y K = K y := rfl
theorem faK_p (off o i j : Nat) : faK (some off) (.ptr o i j) K = K (.ptr o i (j + off)) := rfl
theorem faK_c (off n : Nat) (c : Nat → V) : faK (some off) (.cp n c) K = K (.cp (n - off) (sh off c)) := rfl
theorem sh_zero (c : Nat → V) : sh 0 c = c := by funext q; show c (0 + q) = c q; rw [Nat.zero_add]
theorem sh_of (c : Nat → V) (off q : Nat) : sh off c q = c (off + q) := rfl
theorem ncK_p (o i j : Nat) : ncK (.ptr o i j) K = K (.ptr o i j) := rfl
theorem ncK_c (n : Nat) (c : Nat → V) : ncK (.cp n c) K = K (.cp n c) := rfl
theorem andK_s (c : Prop) (v : V) : andK (some (c, v)) K = (c ∧ K v) := rfl
theorem loadV_p1 (o i j : Nat) : loadV st .one (.ptr o i j) = ld1 (st.σ o) i j := rfl
theorem loadV_pn (q o i j : Nat) : loadV st (.many q) (.ptr o i j) = ldn q (st.σ o) i j := rfl
theorem loadV_c1 (n : Nat) (c : Nat → V) : loadV st .one (.cp n c) = some (0 < n, c 0) := rfl
theorem loadV_cn (q n : Nat) (c : Nat → V) : loadV st (.many q) (.cp n c) = some (q ≤ n, .agg q c) := rfl
theorem ld1_b (t : TypeId) (n : Nat) (c : Nat → V) (j : Nat) : ld1 (.box t n c) 0 j = some (j < n, c j) := by simp [ld1]
theorem ld1_v (t : TypeId) (sz n fz : Nat) (f : Nat → Nat → V) (i j : Nat) : ld1 (.vec t sz n fz f) i j = some (i < n ∧ j < sz, f i j) := rfl
theorem ldn_b (q : Nat) (t : TypeId) (n : Nat) (c : Nat → V) (j : Nat) : ldn q (.box t n c) 0 j = some (j + q ≤ n, .agg q (sh j c)) := by simp [ldn]; rfl
theorem ldn_v (q : Nat) (t : TypeId) (sz n fz : Nat) (f : Nat → Nat → V) (i j : Nat) : ldn q (.vec t sz n fz f) i j = some (i < n ∧ j + q ≤ sz, .agg q (sh j (f i))) := rfl
theorem lenV_sl (sz n : Nat) (f : Nat → Nat → V) : lenV st (.sl sz n f) = some n := rfl
theorem lenV_vec (o : Nat) : lenV st (.vec o) = lnO (st.σ o) := rfl
theorem lnO_v (t : TypeId) (sz n fz : Nat) (f : Nat → Nat → V) : lnO (.vec t sz n fz f) = some n := rfl
theorem lenV_e0 : lenV st .e0 = some 0 := rfl
theorem lenV_nil : lenV st (.raw (.slice none 0 0)) = some 0 := rfl
theorem lenK_s (t : TypeId) (q : Nat) (x : V) : lenK P t (some q) st x K = lnK (lenV st x) K := rfl
theorem lenK_str (t : TypeId) (s : ByteArray) (h : P.underlying t = some .string) : lenK P t none st (.raw (.string s)) K = K (.raw (.int .i64 s.size)) := by unfold lenK; rw [h]
theorem lnK_s (n : Nat) : lnK (some n) K = K (.raw (.int .i64 n)) := rfl
theorem ixK_a (t : TypeId) (x : V) (k : IntKind) (n : Int) : ixK P t st none x (.raw (.int k n)) K = arK (arrOf P t) x n K := rfl
theorem arK_s (len sz : Nat) (x : V) (n : Int) : arK (some (len, sz)) x n K = andK (arrIx len sz x n) K := rfl
theorem arrIx_p (len sz o a j : Nat) (n : Int) : arrIx len sz (.ptr o a j) n = some (0 ≤ n ∧ n < len, .ptr o a (j + n.toNat * sz)) := rfl
theorem arrIx_c (len sz m : Nat) (c : Nat → V) (n : Int) : arrIx len sz (.cp m c) n = some (0 ≤ n ∧ n < len, .cp (m - n.toNat * sz) (sh (n.toNat * sz) c)) := rfl
theorem ixK_s (t : TypeId) (sz : Nat) (x : V) (k : IntKind) (n : Int) : ixK P t st (some sz) x (.raw (.int k n)) K = andK (indexV st sz x n) K := rfl
theorem indexV_sl (sz' sz n : Nat) (f : Nat → Nat → V) (i : Int) : indexV st sz' (.sl sz n f) i = some (sz' = sz ∧ 0 ≤ i ∧ i < n, .cp sz (f i.toNat)) := rfl
theorem indexV_vec (sz' o : Nat) (i : Int) : indexV st sz' (.vec o) i = ixO (st.σ o) o sz' i := rfl
theorem ixO_v (o sz' : Nat) (i : Int) (t : TypeId) (sz n fz : Nat) (f : Nat → Nat → V) : ixO (.vec t sz n fz f) o sz' i = some (sz' = sz ∧ 0 ≤ i ∧ i < n, .ptr o i.toNat 0) := rfl
theorem biK_int (t : TypeId) (op : BinOp) (k : IntKind) (a b : Int) : biK P t op (.raw (.int k a)) (.raw (.int k b)) K = paK (aint op k a b) K := by simp only [biK, abin, if_true]; rfl
theorem biK_str (t : TypeId) (op : BinOp) (a b : ByteArray) : biK P t op (.raw (.string a)) (.raw (.string b)) K = paK (astr op a b) K := rfl
theorem biK_bool (t : TypeId) (op : BinOp) (a b : Bool) (h : boolT P t = true) : biK P t op (.raw (.bool a)) (.raw (.bool b)) K = paK (abool op a b) K := by simp only [biK, abin, h, if_true]; rfl
theorem biK_agg (t : TypeId) (op : BinOp) (n m : Nat) (c c' : Nat → V) : biK P t op (.agg n c) (.agg m c') K = agK (eqInts P t) op n m c c' K := by simp only [biK, aggBin, agK, paK]; cases eqInts P t <;> rfl
theorem agK_s (op : BinOp) (n m k : Nat) (c c' : Nat → V) : agK (some k) op n m c c' K = paK (aggOp op k n m (eqC c c' k 0)) K := rfl
theorem eqC_0 (j : Nat) (c c' : Nat → V) : eqC c c' 0 j = some true := rfl
theorem eqC_s (k j : Nat) (c c' : Nat → V) : eqC c c' (k + 1) j = eqS (intOf (c j)) (intOf (c' j)) (eqC c c' k (j + 1)) := rfl
theorem eqS_s (q : IntKind) (a b : Int) (r : Bool) : eqS (some (q, a)) (some (q, b)) (some r) = some (a == b && r) := by simp only [eqS, if_true]
theorem intOf_i (k : IntKind) (a : Int) : intOf (.raw (.int k a)) = some (k, a) := rfl
theorem aggOp_eql (k n m : Nat) (b : Bool) : aggOp .eql k n m (some b) = some (k ≤ n ∧ k ≤ m, .bool b) := rfl
theorem aggOp_neq (k n m : Nat) (b : Bool) : aggOp .neq k n m (some b) = some (k ≤ n ∧ k ≤ m, .bool (!b)) := rfl
theorem biK_ptr (t : TypeId) (op : BinOp) (p : Option Addr) (h : ptrT P t = true) : biK P t op (.raw (.pointer p)) (.raw (.pointer none)) K = paK (aptr op p.isNone) K := by simp only [biK, abin, h, if_true]; rfl
theorem isNone_n : (none : Option Addr).isNone = true := rfl
theorem aptr_eql (b : Bool) : aptr .eql b = some (True, .bool b) := rfl
theorem aptr_neq (b : Bool) : aptr .neq b = some (True, .bool (!b)) := rfl
theorem abool_eql (a b : Bool) : abool .eql a b = some (True, .bool (a == b)) := rfl
theorem abool_neq (a b : Bool) : abool .neq a b = some (True, .bool (!(a == b))) := rfl
theorem paK_s (c : Prop) (v : Value) : paK (some (c, v)) K = (c ∧ K (.raw v)) := rfl
theorem aint_add (k : IntKind) (a b : Int) : aint .add k a b = some (True, .int k (k.wrap (a + b))) := rfl
theorem aint_sub (k : IntKind) (a b : Int) : aint .sub k a b = some (True, .int k (k.wrap (a - b))) := rfl
theorem aint_mul (k : IntKind) (a b : Int) : aint .mul k a b = some (True, .int k (k.wrap (a * b))) := rfl
theorem aint_quo (k : IntKind) (a b : Int) : aint .quo k a b = some (b ≠ 0, .int k (k.wrap (a.tdiv b))) := rfl
theorem aint_rem (k : IntKind) (a b : Int) : aint .rem k a b = some (b ≠ 0, .int k (a.tmod b)) := rfl
theorem aint_eql (k : IntKind) (a b : Int) : aint .eql k a b = some (True, .bool (a == b)) := rfl
theorem aint_neq (k : IntKind) (a b : Int) : aint .neq k a b = some (True, .bool (a != b)) := rfl
theorem aint_lss (k : IntKind) (a b : Int) : aint .lss k a b = some (True, .bool (decide (a < b))) := rfl
theorem aint_leq (k : IntKind) (a b : Int) : aint .leq k a b = some (True, .bool (decide (a ≤ b))) := rfl
theorem aint_gtr (k : IntKind) (a b : Int) : aint .gtr k a b = some (True, .bool (decide (a > b))) := rfl
theorem aint_geq (k : IntKind) (a b : Int) : aint .geq k a b = some (True, .bool (decide (a ≥ b))) := rfl
theorem aint_and (k : IntKind) (a b : Int) : aint .and k a b = some (True, .int k (bits .and k a b)) := rfl
theorem aint_or (k : IntKind) (a b : Int) : aint .or k a b = some (True, .int k (bits .or k a b)) := rfl
theorem aint_xor (k : IntKind) (a b : Int) : aint .xor k a b = some (True, .int k (bits .xor k a b)) := rfl
theorem aint_shr (k : IntKind) (a b : Int) : aint .shr k a b = some (0 ≤ b, .int k (a.fdiv (2 ^ min b.toNat k.bits))) := rfl
theorem aint_shl (k : IntKind) (a b : Int) : aint .shl k a b = some (0 ≤ b, .int k (k.wrap (a * 2 ^ min b.toNat k.bits))) := rfl
theorem astr_eql (a b : ByteArray) : astr .eql a b = some (True, .bool (a.toList == b.toList)) := rfl
theorem astr_neq (a b : ByteArray) : astr .neq a b = some (True, .bool (!(a.toList == b.toList))) := rfl
theorem notK_b (b : Bool) : notK (.raw (.bool b)) K = K (.raw (.bool (!b))) := rfl
theorem negK_i (k : IntKind) (n : Int) : negK (.raw (.int k n)) K = K (.raw (.int k (k.wrap (0 - n)))) := rfl
theorem fldK_1 (off n : Nat) (c : Nat → V) : fldK (some (off, .one)) (.agg n c) K = (off < n ∧ K (c off)) := rfl
theorem fldK_n (off q n : Nat) (c : Nat → V) : fldK (some (off, .many q)) (.agg n c) K = (off + q ≤ n ∧ K (.agg q (sh off c))) := rfl
theorem exK_t (n i : Nat) (c : Nat → V) : exK (.tup n c) i K = (i < n ∧ K (c i)) := rfl
theorem slK_s (q : Nat) (x : V) (lo hi : Option Operand) : slK st (some q) x lo hi K = andK (sliceV st q x lo hi) K := rfl
theorem alK_s (z : List Value) (t : TypeId) (d : Option Tmp) : alK (some z) t st d KS = (st.fits d ∧ KS ((st.new (.box t z.length (rawCells z))).put d (.ptr st.nx 0 0))) := rfl
theorem boxK_s (n : Nat) (c : Nat → V) (t : TypeId) (d : Option Tmp) : boxK (some (n, c)) t st d KS = (st.fits d ∧ KS ((st.new (.box t n c)).put d (.ptr st.nx 0 0))) := rfl
theorem stoK_s (o i j q q' : Nat) (v : V) : stoK st none (.ptr o i j) (some q) (some q') v KS = (q = q' ∧ stO (st.σ o) st o i j q v KS) := rfl
theorem stO_b (t : TypeId) (n : Nat) (c : Nat → V) (o j q : Nat) (v : V) : stO (.box t n c) st o 0 j q v KS = (j + q ≤ n ∧ KS (st.setOb o (.box t n (ovr j q v c)))) := by simp [stO]
theorem stO_v (t : TypeId) (sz n fz : Nat) (f : Nat → Nat → V) (o i j q : Nat) (v : V) : stO (.vec t sz n fz f) st o i j q v KS = (i < n ∧ fz ≤ i ∧ j + q ≤ sz ∧ isImm v = true ∧ KS (st.setOb o (.vec t sz n fz (fun i' => if i' = i then ovr j q v (f i) else f i')))) := rfl
theorem vsize_int (k : IntKind) (n : Int) : vsize (.raw (.int k n)) = some 1 := rfl
theorem vsize_bool (b : Bool) : vsize (.raw (.bool b)) = some 1 := rfl
theorem vsize_str (b : ByteArray) : vsize (.raw (.string b)) = some 1 := rfl
theorem vsize_nil : vsize (.raw (.slice none 0 0)) = some 1 := rfl
theorem vsize_e0 : vsize (.e0) = some 1 := rfl
theorem vsize_sl (sz n : Nat) (f : Nat → Nat → V) : vsize (.sl sz n f) = some 1 := rfl
theorem vsize_cp (n : Nat) (c : Nat → V) : vsize (.cp n c) = some 1 := rfl
theorem vsize_ptr (o i j : Nat) : vsize (.ptr o i j) = some 1 := rfl
theorem vsize_vec (o : Nat) : vsize (.vec o) = some 1 := rfl
theorem vsize_agg (n : Nat) (c : Nat → V) : vsize (.agg n c) = some n := rfl
theorem isImm1_raw (v : Value) : isImm1 (.raw v) = true := rfl
theorem isImm_raw (v : Value) : isImm (.raw v) = true := rfl
theorem isImm1_e0 : isImm1 (.e0) = true := rfl
theorem isImm_e0 : isImm (.e0) = true := rfl
theorem isImm1_sl (sz n : Nat) (f : Nat → Nat → V) : isImm1 (.sl sz n f) = true := rfl
theorem isImm_sl (sz n : Nat) (f : Nat → Nat → V) : isImm (.sl sz n f) = true := rfl
theorem isImm1_cp (n : Nat) (c : Nat → V) : isImm1 (.cp n c) = true := rfl
theorem isImm_cp (n : Nat) (c : Nat → V) : isImm (.cp n c) = true := rfl
theorem isImm_agg (n : Nat) (c : Nat → V) : isImm (.agg n c) = allV isImm1 n c := (allV_range isImm1 n c).symm
theorem isRaw_raw (v : Value) : isRaw (.raw v) = true := rfl
theorem isFlat1_raw (v : Value) : isFlat1 (.raw v) = true := rfl
theorem isFlat_raw (v : Value) : isFlat (.raw v) = true := rfl
theorem isFlat1_agg (n : Nat) (c : Nat → V) : isFlat1 (.agg n c) = allV isRaw n c := (allV_range isRaw n c).symm
theorem isFlat_agg (n : Nat) (c : Nat → V) : isFlat (.agg n c) = allV isRaw n c := (allV_range isRaw n c).symm
theorem isFlat_tup (n : Nat) (c : Nat → V) : isFlat (.tup n c) = allV isFlat1 n c := (allV_range isFlat1 n c).symm
theorem allV_0 (p : V → Bool) (c : Nat → V) : allV p 0 c = true := rfl
theorem allV_s (p : V → Bool) (n : Nat) (c : Nat → V) : allV p (n + 1) c = (allV p n c && p (c n)) := rfl
theorem KB_apply (g : List (Option Tmp)) (r : List Oper) : KB dr P g r KS st = vcA dr P g r st KS := rfl
theorem bsK_s (len sz b : Nat) (e : TypeId) (z : List Value) (ps : List (Nat × V)) : bsK len (some (e, sz, b, z)) ps K = (len * sz ≤ 16777216 ∧ bs2 sz len (fillE sz len ps (fun _ => rawCells z)) K) := rfl
theorem bs2_s (sz len : Nat) (f : Nat → Nat → V) : bs2 sz len (some f) K = K (.sl sz len f) := rfl
theorem bdK_s (z : List Value) (pl : List (Nat × Nat)) (ps : List (Nat × V)) : bdK (some (z, pl)) ps K = bd2 z.length (fillV pl z.length ps (rawCells z)) K := rfl
theorem bd2_s (n : Nat) (c : Nat → V) : bd2 n (some c) K = K (.agg n c) := rfl
theorem vcells_agg (n : Nat) (c : Nat → V) : vcells (.agg n c) = some (n, c) := rfl
theorem vcells_int (k : IntKind) (n : Int) : vcells (.raw (.int k n)) = some (1, fun _ => .raw (.int k n)) := rfl
theorem vcells_bool (b : Bool) : vcells (.raw (.bool b)) = some (1, fun _ => .raw (.bool b)) := rfl
theorem vcells_e0 : vcells .e0 = some (1, fun _ => .e0) := rfl
theorem vcells_sl (sz n : Nat) (f : Nat → Nat → V) : vcells (.sl sz n f) = some (1, fun _ => .sl sz n f) := rfl
theorem vcells_nil : vcells (.raw (.slice none 0 0)) = some (1, fun _ => .raw (.slice none 0 0)) := rfl
theorem vcells_ptr (o i j : Nat) : vcells (.ptr o i j) = some (1, fun _ => .ptr o i j) := rfl
theorem vcells_vec (o : Nat) : vcells (.vec o) = some (1, fun _ => .vec o) := rfl
theorem vcells_cp (n : Nat) (c : Nat → V) : vcells (.cp n c) = some (1, fun _ => .cp n c) := rfl
end

section
variable (N nx : Nat) (T : Nat → V) (σ : Nat → Ob) (G : Nat → V)
theorem put_s (d : Nat) (v : V) : St.put ⟨N, T, nx, σ, G⟩ (some d) v = ⟨N, upd T d v, nx, σ, G⟩ := rfl
theorem put_n (v : V) : St.put ⟨N, T, nx, σ, G⟩ none v = ⟨N, T, nx, σ, G⟩ := rfl
theorem new_s (ob : Ob) : St.new ⟨N, T, nx, σ, G⟩ ob = ⟨N, T, nx + 1, upd σ nx ob, G⟩ := rfl
theorem setOb_s (o : Nat) (ob : Ob) : St.setOb ⟨N, T, nx, σ, G⟩ o ob = ⟨N, T, nx, upd σ o ob, G⟩ := rfl
theorem enter_s (as : List V) : St.enter N G as = ⟨N, aT as, 0, dσ, G⟩ := rfl
theorem mk_s (ts : List (Nat × V)) (os : List Ob) : St.mk' N G ts os = ⟨N, lk ts, os.length, gσ os, G⟩ := rfl
theorem aT_s (as : List V) (t : Nat) : aT as t = (as[t]?).getD .any := rfl
theorem dσ_s (o : Nat) : dσ o = .dead := rfl
theorem gσ_s (os : List Ob) (o : Nat) : gσ os o = (os[o]?).getD .dead := rfl
theorem fitsS (d : Nat) : St.fits ⟨N, T, nx, σ, G⟩ (some d) = (d < N) := rfl
theorem frozen_s (o sz n : Nat) (f : Nat → Nat → V) : St.frozenAt ⟨N, T, nx, σ, G⟩ o sz n f = ⟨N, frzT o sz n f T, nx, frzS o sz n f σ, G⟩ := rfl
theorem frozen_mk (ts : List (Nat × V)) (os : List Ob) (o sz n : Nat) (f : Nat → Nat → V) : St.frozenAt (St.mk' N G ts os) o sz n f = ⟨N, frzT o sz n f (lk ts), os.length, frzS o sz n f (gσ os), G⟩ := rfl
theorem frzT_s (o sz n : Nat) (f : Nat → Nat → V) (t : Nat) : frzT o sz n f T t = frz o sz n f (T t) := rfl
theorem frzS_s (o sz n : Nat) (f : Nat → Nat → V) (p : Nat) : frzS o sz n f σ p = if p = o then .dead else frzOb o sz n f (σ p) := rfl
theorem frz_vec (o sz n : Nat) (f : Nat → Nat → V) (p : Nat) : frz o sz n f (.vec p) = if p = o then .sl sz n f else .vec p := rfl
theorem frz_ptr (o sz n : Nat) (f : Nat → Nat → V) (p i j : Nat) : frz o sz n f (.ptr p i j) = if p = o then .any else .ptr p i j := rfl
theorem frz_agg (o sz n : Nat) (f : Nat → Nat → V) (m : Nat) (c : Nat → V) : frz o sz n f (.agg m c) = .agg m (frzT o sz n f c) := rfl
theorem frz_tup (o sz n : Nat) (f : Nat → Nat → V) (m : Nat) (c : Nat → V) : frz o sz n f (.tup m c) = .tup m (frzT o sz n f c) := rfl
theorem frz_any (o sz n : Nat) (f : Nat → Nat → V) : frz o sz n f (.any) = .any := rfl
theorem frz_raw (o sz n : Nat) (f : Nat → Nat → V) (v : Value) : frz o sz n f (.raw v) = .raw v := rfl
theorem frz_e0 (o sz n : Nat) (f : Nat → Nat → V) : frz o sz n f (.e0) = .e0 := rfl
theorem frz_sl (o sz n : Nat) (f : Nat → Nat → V) (a b : Nat) (g : Nat → Nat → V) : frz o sz n f (.sl a b g) = .sl a b g := rfl
theorem frz_cp (o sz n : Nat) (f : Nat → Nat → V) (a : Nat) (g : Nat → V) : frz o sz n f (.cp a g) = .cp a g := rfl
theorem frzOb_box (o sz n : Nat) (f : Nat → Nat → V) (t : TypeId) (m : Nat) (c : Nat → V) : frzOb o sz n f (.box t m c) = .box t m (frzT o sz n f c) := rfl
theorem frzOb_dead (o sz n : Nat) (f : Nat → Nat → V) : frzOb o sz n f (.dead) = .dead := rfl
theorem frzOb_vec (o sz n : Nat) (f : Nat → Nat → V) (t : TypeId) (a b c : Nat) (g : Nat → Nat → V) : frzOb o sz n f (.vec t a b c g) = .vec t a b c g := rfl
theorem mask_s (o : Nat) : St.mask ⟨N, T, nx, σ, G⟩ o = ⟨N, T, nx, mskS σ o, G⟩ := rfl
theorem mask_mk (ts : List (Nat × V)) (os : List Ob) (o : Nat) : St.mask (St.mk' N G ts os) o = ⟨N, lk ts, os.length, mskS (gσ os) o, G⟩ := rfl
theorem mskS_s (o p : Nat) : mskS σ o p = if p = o then .dead else σ p := rfl
theorem nopO (g : List (Option Tmp)) (dr : Bool) (P : Program) (d : Option Tmp) (ty : TypeId) (pos : String) (af : Array Edge) (r : List Oper) (st : St) (K : St → Prop) : vcA dr P g (⟨d, nop, ty, pos, af, none⟩ :: r) st K = KV st d (KB dr P g r K) (.raw (.bool false)) := rfl
theorem fitsN : St.fits ⟨N, T, nx, σ, G⟩ none = True := rfl
theorem L_nil_append {α : Type} (l : List α) : [] ++ l = l := rfl
theorem L_cons_append {α : Type} (a : α) (l r : List α) : (a :: l) ++ r = a :: (l ++ r) := rfl
theorem L_get0 {α : Type} (a : α) (l : List α) : (a :: l)[0]? = some a := rfl
theorem L_getS {α : Type} (a : α) (l : List α) (i : Nat) : (a :: l)[i + 1]? = l[i]? := rfl
theorem L_getD0 {α : Type} (a d : α) (l : List α) : (a :: l).getD 0 d = a := rfl
theorem L_getDS {α : Type} (a d : α) (l : List α) (i : Nat) : (a :: l).getD (i + 1) d = l.getD i d := rfl
theorem L_getN {α : Type} (i : Nat) : ([] : List α)[i]? = none := rfl
theorem O_some {α : Type} (a d : α) : (some a).getD d = a := rfl
theorem O_none {α : Type} (d : α) : (none : Option α).getD d = d := rfl
theorem O_bind {α β : Type} (a : α) (f : α → Option β) : (some a).bind f = f a := rfl
theorem L_lenS {α : Type} (a : α) (l : List α) : (a :: l).length = l.length + 1 := rfl
theorem L_lenN {α : Type} : ([] : List α).length = 0 := rfl
theorem L_mapS {α β : Type} (f : α → β) (a : α) (l : List α) : (a :: l).map f = f a :: l.map f := rfl
theorem L_mapN {α β : Type} (f : α → β) : ([] : List α).map f = [] := rfl
theorem L_allS {α : Type} (f : α → Bool) (a : α) (l : List α) : (a :: l).all f = (f a && l.all f) := rfl
theorem L_allN {α : Type} (f : α → Bool) : ([] : List α).all f = true := rfl
end

/-- The rules, under one name. -/
def pqs := PLift.up (And.intro @a_nil <| And.intro @a_guard <| And.intro @a_move <| And.intro @a_assign <| And.intro @a_pick <| And.intro @a_fieldAddr <| And.intro @a_nilCheck <| And.intro @a_load <| And.intro @a_indexAddr <| And.intro @a_binOp <| And.intro @a_not <| And.intro @a_neg <| And.intro @a_build <| And.intro @a_field <| And.intro @a_extract <| And.intro @a_slice <| And.intro @a_alloc <| And.intro @a_box <| And.intro @a_store <| And.intro @a_buildSlice <| And.intro @a_buildSliceD <| And.intro @a_convert <| And.intro @a_callf <| And.intro @a_len <| And.intro @a_min <| And.intro @a_max <| And.intro @a_append <| And.intro @eqOB_tt <| And.intro @eqOB_tf <| And.intro @eqOB_ft <| And.intro @eqOB_ff <| And.intro @skOB_tt <| And.intro @skOB_tf <| And.intro @skOB_ft <| And.intro @skOB_ff <| And.intro @eqOB_u <| And.intro @skOB_u <| And.intro @guardA_of <| And.intro @gd_some <| And.intro @gb_of <| And.intro @gb_un <| And.intro @pickK_t <| And.intro @pickK_f <| And.intro @faK_p <| And.intro @faK_c <| And.intro @sh_zero <| And.intro @sh_of <| And.intro @ncK_p <| And.intro @ncK_c <| And.intro @andK_s <| And.intro @loadV_p1 <| And.intro @loadV_pn <| And.intro @loadV_c1 <| And.intro @loadV_cn <| And.intro @ld1_b <| And.intro @ld1_v <| And.intro @ldn_b <| And.intro @ldn_v <| And.intro @lenV_sl <| And.intro @lenV_vec <| And.intro @lnO_v <| And.intro @lenV_e0 <| And.intro @lenV_nil <| And.intro @lenK_s <| And.intro @lenK_str <| And.intro @lnK_s <| And.intro @ixK_a <| And.intro @arK_s <| And.intro @arrIx_p <| And.intro @arrIx_c <| And.intro @ixK_s <| And.intro @indexV_sl <| And.intro @indexV_vec <| And.intro @ixO_v <| And.intro @biK_int <| And.intro @biK_str <| And.intro @biK_bool <| And.intro @biK_agg <| And.intro @agK_s <| And.intro @eqC_0 <| And.intro @eqC_s <| And.intro @eqS_s <| And.intro @intOf_i <| And.intro @aggOp_eql <| And.intro @aggOp_neq <| And.intro @biK_ptr <| And.intro @isNone_n <| And.intro @aptr_eql <| And.intro @aptr_neq <| And.intro @abool_eql <| And.intro @abool_neq <| And.intro @paK_s <| And.intro @aint_add <| And.intro @aint_sub <| And.intro @aint_mul <| And.intro @aint_quo <| And.intro @aint_rem <| And.intro @aint_eql <| And.intro @aint_neq <| And.intro @aint_lss <| And.intro @aint_leq <| And.intro @aint_gtr <| And.intro @aint_geq <| And.intro @aint_and <| And.intro @aint_or <| And.intro @aint_xor <| And.intro @aint_shr <| And.intro @aint_shl <| And.intro @astr_eql <| And.intro @astr_neq <| And.intro @notK_b <| And.intro @negK_i <| And.intro @fldK_1 <| And.intro @fldK_n <| And.intro @exK_t <| And.intro @slK_s <| And.intro @alK_s <| And.intro @boxK_s <| And.intro @stoK_s <| And.intro @stO_b <| And.intro @stO_v <| And.intro @vsize_int <| And.intro @vsize_bool <| And.intro @vsize_str <| And.intro @vsize_nil <| And.intro @vsize_e0 <| And.intro @vsize_sl <| And.intro @vsize_cp <| And.intro @vsize_ptr <| And.intro @vsize_vec <| And.intro @vsize_agg <| And.intro @isImm1_raw <| And.intro @isImm_raw <| And.intro @isImm1_e0 <| And.intro @isImm_e0 <| And.intro @isImm1_sl <| And.intro @isImm_sl <| And.intro @isImm1_cp <| And.intro @isImm_cp <| And.intro @isImm_agg <| And.intro @isRaw_raw <| And.intro @isFlat1_raw <| And.intro @isFlat_raw <| And.intro @isFlat1_agg <| And.intro @isFlat_agg <| And.intro @isFlat_tup <| And.intro @allV_0 <| And.intro @allV_s <| And.intro @KB_apply <| And.intro @bsK_s <| And.intro @bs2_s <| And.intro @bdK_s <| And.intro @bd2_s <| And.intro @vcells_agg <| And.intro @vcells_int <| And.intro @vcells_bool <| And.intro @vcells_e0 <| And.intro @vcells_sl <| And.intro @vcells_nil <| And.intro @vcells_ptr <| And.intro @vcells_vec <| And.intro @vcells_cp <| And.intro @put_s <| And.intro @put_n <| And.intro @new_s <| And.intro @setOb_s <| And.intro @enter_s <| And.intro @mk_s <| And.intro @aT_s <| And.intro @dσ_s <| And.intro @gσ_s <| And.intro @fitsS <| And.intro @frozen_s <| And.intro @frozen_mk <| And.intro @frzT_s <| And.intro @frzS_s <| And.intro @frz_vec <| And.intro @frz_ptr <| And.intro @frz_agg <| And.intro @frz_tup <| And.intro @frz_any <| And.intro @frz_raw <| And.intro @frz_e0 <| And.intro @frz_sl <| And.intro @frz_cp <| And.intro @frzOb_box <| And.intro @frzOb_dead <| And.intro @frzOb_vec <| And.intro @mask_s <| And.intro @mask_mk <| And.intro @mskS_s <| And.intro @nopO <| And.intro @fitsN <| And.intro @L_nil_append <| And.intro @L_cons_append <| And.intro @L_get0 <| And.intro @L_getS <| And.intro @L_getD0 <| And.intro @L_getDS <| And.intro @L_getN <| And.intro @O_some <| And.intro @O_none <| And.intro @O_bind <| And.intro @L_lenS <| And.intro @L_lenN <| And.intro @L_mapS <| And.intro @L_mapN <| And.intro @L_allS <| And.intro @L_allN <| And.intro @Bool.not_true <| And.intro @Bool.not_false <| And.intro @Bool.false_eq_true <| And.intro @Nat.zero_add <| And.intro @Nat.add_zero <| And.intro @Nat.sub_zero <| And.intro @true_and <| And.intro @and_true <| And.intro @and_self <| And.intro @Int.toNat_natCast <| And.intro @Bool.and_true <| And.intro @Bool.true_and <| And.intro @KV_apply <| And.intro @ev_tmp <| And.intro @ev_const <| And.intro @ev_global <| And.intro @ev_func <| And.intro @lk_cons <| And.intro @lk_nil <| And.intro @cl_zero <| And.intro @cl_succ <| And.intro @vcS.eq_def <| And.intro @vcBuiltin.eq_def <| And.intro @sliceV.eq_def <| And.intro @optInt.eq_def <| And.intro @ovr.eq_def <| And.intro @ovrE.eq_def <| And.intro @fillV.eq_def <| And.intro @fillE.eq_def <| And.intro @srcV.eq_def <| And.intro @appendV.eq_def <| And.intro @rawCells.eq_def <| And.intro @snap.eq_def <| And.intro @snap1.eq_def <| And.intro @ResOK.eq_def <| And.intro @resV.eq_def <| And.intro @resL.eq_def <| And.intro @Ret.eq_def <| And.intro @tsOK.eq_def <| And.intro @renOK.eq_def <| And.intro @osOK.eq_def <| And.intro @obOK.eq_def <| And.intro @distinctB.eq_def <| @upd.eq_def)

end Go.Proofs.YtfnfbdccmggfoaaGreatDoor.Pg
