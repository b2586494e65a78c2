/-
  A region that draws its order: its operations but the last ones are quiet, in whatever order they come; the last ones wait for all ahead of them.
-/
import Derived.Test.YtfnfbdccmggfoaaGreatDoorPg10
set_option linter.unusedSimpArgs false
set_option linter.unusedVariables false
namespace Go.Proofs.YtfnfbdccmggfoaaGreatDoor.Pg
open Go.RowKit

def hasEdge (ops : Array Oper) (j i : Nat) : Bool :=
  match ops[j]? with
  | some o => o.after.any fun e => Region.binds .any e && e.on == i
  | none => false

def dstOf (ops : Array Oper) (i : Nat) : Option Tmp := (ops[i]?).bind (·.dst)

def otherDst (x y : Option Tmp) : Bool :=
  match x, y with
  | some a, some b => a != b
  | _, _ => true

/-- m: how many operations are quiet. -/
def drawOKs (s : Nat) (ops : Array Oper) (m : Nat) : Bool :=
  decide (m ≤ ops.size) && (List.range ops.size).all fun j =>
    match ops[j]? with
    | some oj =>
      (oj.after.all fun e => !Region.binds .any e || decide (e.on < j)) &&
      (if j < m then (j == s || !stateful true oj.op) && (List.range j).all fun i =>
          match ops[i]? with
          | some oi => (hasEdge ops j i || oi.apart ops oj) && otherDst oi.dst oj.dst
          | none => true
        else (List.range j).all fun i => hasEdge ops j i || (List.range j).any fun k => decide (i < k) && hasEdge ops k i)
    | none => true

def drawOK (ops : Array Oper) (m : Nat) : Bool := drawOKs ops.size ops m

/-! ### Counting -/
def cnt : Nat → (Nat → Bool) → Nat
  | 0, _ => 0
  | n + 1, p => cnt n p + if p n then 1 else 0

theorem cnt_congr {p q : Nat → Bool} : ∀ n, (∀ j, j < n → p j = q j) → cnt n p = cnt n q
  | 0, _ => rfl
  | n + 1, h => by rw [cnt, cnt, cnt_congr n (fun j hj => h j (by omega)), h n (by omega)]

theorem cnt_set {p q : Nat → Bool} {i : Nat} (hi : p i = false) (hq : q i = true) (hne : ∀ j, j ≠ i → q j = p j) : ∀ n, i < n → cnt n q = cnt n p + 1
  | 0, h => by omega
  | n + 1, h => by
    rw [cnt, cnt]
    by_cases e : i = n
    · subst e
      rw [hi, hq, cnt_congr i (fun j hj => hne j (by omega))]
      simp
    · rw [cnt_set hi hq hne n (by omega), hne n (fun h' => e h'.symm)]
      omega

theorem cnt_le (p : Nat → Bool) : ∀ n, cnt n p ≤ n
  | 0 => Nat.le_refl _
  | n + 1 => by rw [cnt]; have := cnt_le p n; split <;> omega

theorem cnt_lt {p : Nat → Bool} {i : Nat} (hi : p i = false) : ∀ n, i < n → cnt n p < n
  | 0, h => by omega
  | n + 1, h => by
    rw [cnt]
    have := cnt_le p n
    by_cases e : i = n
    · subst e; rw [hi]; simp; omega
    · have := cnt_lt hi n (by omega); split <;> omega

theorem cnt_all {p : Nat → Bool} : ∀ n, (∀ j, j < n → p j = true) → cnt n p = n
  | 0, _ => rfl
  | n + 1, h => by rw [cnt, cnt_all n (fun j hj => h j (by omega)), h n (by omega)]; rfl

section
variable {P : Program} {ops : Array Oper} {m s : Nat}

theorem drawOK_le (h : drawOKs s ops m = true) : m ≤ ops.size := by
  simp only [drawOKs, Bool.and_eq_true, decide_eq_true_eq] at h; exact h.1

theorem drawOK_at (h : drawOKs s ops m = true) {j : Nat} {oj : Oper} (hj : ops[j]? = some oj) :
    (∀ e ∈ oj.after, Region.binds .any e = true → e.on < j) ∧
    (j < m → (j = s ∨ stateful true oj.op = false) ∧ ∀ i oi, i < j → ops[i]? = some oi → (hasEdge ops j i = true ∨ oi.apart ops oj = true) ∧ otherDst oi.dst oj.dst = true) ∧
    (m ≤ j → ∀ i, i < j → hasEdge ops j i = true ∨ ∃ k, k < j ∧ i < k ∧ hasEdge ops k i = true) := by
  have hlt : j < ops.size := (Array.getElem?_eq_some_iff.1 hj).1
  simp only [drawOKs, Bool.and_eq_true, List.all_eq_true, List.mem_range] at h
  have h1 := h.2 j hlt
  simp only [hj, Bool.and_eq_true] at h1
  obtain ⟨h1, h2⟩ := h1
  refine ⟨fun e he hb => ?_, fun hm => ?_, fun hm => ?_⟩
  · have := Array.all_eq_true_iff_forall_mem.1 h1 e he
    simpa [hb] using this
  · rw [if_pos hm] at h2
    simp only [Bool.and_eq_true, Bool.or_eq_true, beq_iff_eq, Bool.not_eq_true', List.all_eq_true, List.mem_range] at h2
    refine ⟨h2.1, fun i oi hi ho => ?_⟩
    have := h2.2 i hi
    simp only [ho, Bool.and_eq_true, Bool.or_eq_true] at this
    exact this
  · rw [if_neg (by omega)] at h2
    simp only [List.all_eq_true, List.mem_range, Bool.or_eq_true, List.any_eq_true, Bool.and_eq_true, decide_eq_true_eq] at h2
    intro i hi
    rcases h2 i hi with h3 | ⟨k, h3, h4, h5⟩
    · exact .inl h3
    · exact .inr ⟨k, h3, h4, h5⟩

theorem hasEdge_spec {j i : Nat} (h : hasEdge ops j i = true) : ∃ oj, ops[j]? = some oj ∧ ∃ e ∈ oj.after, Region.binds .any e = true ∧ e.on = i := by
  unfold hasEdge at h
  split at h
  · rename_i o ho
    obtain ⟨e, he, hb⟩ := Array.any_eq_true'.1 h
    simp only [Bool.and_eq_true, beq_iff_eq] at hb
    exact ⟨o, ho, e, he, hb.1, hb.2⟩
  · cases h

/-! ### The state behind the first k operations, in the order of the text -/
def stAt (ops : Array Oper) (st : St) (vs : Nat → V) : Nat → St
  | 0 => st
  | k + 1 => (stAt ops st vs k).put (dstOf ops k) (vs k)

theorem stAt_congr {st : St} {vs vs' : Nat → V} : ∀ k, (∀ i, i < k → vs i = vs' i) → stAt ops st vs k = stAt ops st vs' k
  | 0, _ => rfl
  | k + 1, h => by rw [stAt, stAt, stAt_congr k (fun i hi => h i (by omega)), h k (by omega)]

theorem stAt_σ (st : St) (vs : Nat → V) : ∀ k, (stAt ops st vs k).σ = st.σ ∧ (stAt ops st vs k).nx = st.nx ∧ (stAt ops st vs k).G = st.G ∧ (stAt ops st vs k).N = st.N
  | 0 => ⟨rfl, rfl, rfl, rfl⟩
  | k + 1 => by
    obtain ⟨h1, h2, h3, h4⟩ := stAt_σ st vs k
    exact ⟨(put_σ _ _ _).trans h1, (put_nx _ _ _).trans h2, (put_G _ _ _).trans h3, (put_N _ _ _).trans h4⟩

theorem put_T (st : St) (d : Option Tmp) (v : V) (t : Nat) : (st.put d v).T t = if d = some t then v else st.T t := by
  cases d with
  | none => rfl
  | some d =>
    show (if t = d then v else st.T t) = _
    by_cases e : t = d
    · rw [if_pos e, if_pos (by rw [e])]
    · rw [if_neg e, if_neg (fun h => e (by cases h; rfl))]

theorem stAt_old {st : St} {vs : Nat → V} {t : Nat} : ∀ k, (∀ j, j < k → dstOf ops j ≠ some t) → (stAt ops st vs k).T t = st.T t
  | 0, _ => rfl
  | k + 1, h => by rw [stAt, put_T, if_neg (h k (by omega)), stAt_old k (fun j hj => h j (by omega))]

def dstsOther (ops : Array Oper) (m : Nat) : Prop := ∀ i j t, i < m → j < m → dstOf ops i = some t → dstOf ops j = some t → i = j

theorem drawOK_dsts (h : drawOKs s ops m = true) : dstsOther ops m := by
  have main : ∀ i j t, i < j → j < m → dstOf ops i = some t → dstOf ops j = some t → False := by
    intro i j t hij hj h1 h2
    unfold dstOf at h1 h2
    cases ho : ops[j]? with
    | none => rw [ho] at h2; cases h2
    | some oj =>
      cases hoi : ops[i]? with
      | none => rw [hoi] at h1; cases h1
      | some oi =>
        rw [ho] at h2; rw [hoi] at h1
        have := (((drawOK_at h ho).2.1 hj).2 i oi hij hoi).2
        simp only [Option.bind_some] at h1 h2
        simp [otherDst, h1, h2] at this
  intro i j t hi hj h1 h2
  rcases Nat.lt_trichotomy i j with hlt | rfl | hgt
  · exact (main i j t hlt hj h1 h2).elim
  · rfl
  · exact (main j i t hgt hi h2 h1).elim

theorem stAt_new {st : St} {vs : Nat → V} {t j : Nat} (hd : dstsOther ops m) : ∀ k, k ≤ m → j < k → dstOf ops j = some t → (stAt ops st vs k).T t = vs j
  | 0, _, h, _ => by omega
  | k + 1, hk, h, ht => by
    rw [stAt, put_T]
    by_cases e : j = k
    · subst e; rw [if_pos ht]
    · rw [if_neg (fun h' => e (hd j k t (by omega) (by omega) ht h')), stAt_new hd k (by omega) (by omega) ht]

/-- What the walk in the order of the text tells of operation k. -/
def StepOK (P : Program) (ops : Array Oper) (st : St) (vs : Nat → V) (k : Nat) : Prop :=
  ∃ o, ops[k]? = some o ∧ (stAt ops st vs k).fits o.dst ∧
    (((match o.guard with | none => True | some (j, want) => guardV ops (stAt ops st vs k) j = some (some want)) ∧ OpOK P (stAt ops st vs k) o (vs k)) ∨
     ((∃ j want b, o.guard = some (j, want) ∧ guardV ops (stAt ops st vs k) j = some b ∧ b ≠ some want) ∧ vs k = .raw undef))

theorem StepOK.congr {st : St} {vs vs' : Nat → V} {k : Nat} (h : StepOK P ops st vs k) (he : ∀ i, i ≤ k → vs i = vs' i) : StepOK P ops st vs' k := by
  unfold StepOK at *
  rw [stAt_congr k (fun i hi => (he i (by omega)).symm), ← he k (Nat.le_refl _)]
  exact h

theorem head_run {st : St} {K : St → Prop} (hq : ∀ k o, k < m → ops[k]? = some o → stateful true o.op = false) (hm : m ≤ ops.size) (h : vcOps true P ops ops.toList st K) :
    ∀ k, k ≤ m → ∃ vs, (∀ i, i < k → StepOK P ops st vs i) ∧ vcOps true P ops (ops.toList.drop k) (stAt ops st vs k) K
  | 0, _ => ⟨fun _ => .any, fun i hi => by omega, by rw [List.drop_zero]; exact h⟩
  | k + 1, hk => by
    obtain ⟨vs, h1, h2⟩ := head_run hq hm h k (by omega)
    have hlt : k < ops.size := by omega
    have ho : ops[k]? = some ops[k] := Array.getElem?_eq_getElem hlt
    have hdrop : ops.toList.drop k = ops[k] :: ops.toList.drop (k + 1) := by
      rw [List.drop_eq_getElem_cons (by simpa using hlt)]; simp
    rw [hdrop] at h2
    have hns := hq k _ (by omega) ho
    have hdst : dstOf ops k = ops[k].dst := by unfold dstOf; rw [ho]; rfl
    have finish : ∀ v, (stAt ops st vs k).fits ops[k].dst →
        (((match ops[k].guard with | none => True | some (j, want) => guardV ops (stAt ops st vs k) j = some (some want)) ∧ OpOK P (stAt ops st vs k) ops[k] v) ∨
         ((∃ j want b, ops[k].guard = some (j, want) ∧ guardV ops (stAt ops st vs k) j = some b ∧ b ≠ some want) ∧ v = .raw undef)) →
        vcOps true P ops (ops.toList.drop (k + 1)) ((stAt ops st vs k).put ops[k].dst v) K →
        ∃ vs, (∀ i, i < k + 1 → StepOK P ops st vs i) ∧ vcOps true P ops (ops.toList.drop (k + 1)) (stAt ops st vs (k + 1)) K := by
      intro v hfit hor hrest
      have he : ∀ i, i < k → vs i = upd vs k v i := fun i hi => (upd_ne vs v (by omega)).symm
      have hst : stAt ops st (upd vs k v) k = stAt ops st vs k := (stAt_congr k he).symm
      refine ⟨upd vs k v, fun i hi => ?_, ?_⟩
      · by_cases e : i = k
        · subst e
          refine ⟨ops[i], ho, by rw [hst]; exact hfit, ?_⟩
          rw [hst, upd_same]
          exact hor
        · exact (h1 i (by omega)).congr (fun q hq' => he q (by omega))
      · show vcOps true P ops _ ((stAt ops st (upd vs k v) k).put (dstOf ops k) (upd vs k v k)) K
        rw [hst, upd_same, hdst]
        exact hrest
    unfold vcOps at h2
    cases hg : ops[k].guard with
    | none =>
      simp only [hg] at h2
      unfold vcOp at h2
      rw [if_neg (by simp [hns])] at h2
      obtain ⟨r, ⟨hd, hK⟩, hr⟩ := vcD_sound h2
      exact finish r hd (.inl ⟨by rw [hg]; trivial, hr⟩) hK
    | some jw =>
      obtain ⟨j, want⟩ := jw
      simp only [hg] at h2
      cases hgv : guardV ops (stAt ops st vs k) j with
      | none => rw [hgv] at h2; exact h2.elim
      | some b =>
        rw [hgv] at h2
        dsimp only at h2
        by_cases hb : b = some want
        · rw [if_pos hb] at h2
          unfold vcOp at h2
          rw [if_neg (by simp [hns])] at h2
          obtain ⟨r, ⟨hd, hK⟩, hr⟩ := vcD_sound h2
          exact finish r hd (.inl ⟨by rw [hg]; subst hb; exact hgv, hr⟩) hK
        · rw [if_neg hb] at h2
          exact finish (.raw undef) h2.1 (.inr ⟨⟨j, want, b, hg, hgv, hb⟩, rfl⟩) h2.2

/-! ### Any order -/

def lis (listed : Array Bool) : Nat → Bool := fun i => listed.getD i false

def Shut (ops : Array Oper) (listed : Array Bool) : Prop := ∀ j oj, ops[j]? = some oj → lis listed j = true → ∀ e ∈ oj.after, Region.binds .any e = true → lis listed e.on = true

theorem ready_spec {listed : Array Bool} (hsz : listed.size = ops.size) {i : Nat} (h : i ∈ Region.ready .any ops listed) : i < ops.size ∧ lis listed i = false ∧ ∃ o, ops[i]? = some o ∧ ∀ e ∈ o.after, Region.binds .any e = true → lis listed e.on = true := by
  obtain ⟨h1, o, ho, hall⟩ := mem_ready.1 h
  have hlt : i < ops.size := (Array.getElem?_eq_some_iff.1 ho).1
  refine ⟨hlt, ?_, o, ho, hall⟩
  unfold lis
  rw [Array.getD_eq_getD_getElem?] at h1 ⊢
  rw [Array.getElem?_eq_getElem (by omega)] at h1 ⊢
  exact h1

theorem ready_of {listed : Array Bool} (hsz : listed.size = ops.size) {i : Nat} {o : Oper} (ho : ops[i]? = some o) (hi : lis listed i = false) (h : ∀ e ∈ o.after, Region.binds .any e = true → lis listed e.on = true) : i ∈ Region.ready .any ops listed := by
  have hlt : i < ops.size := (Array.getElem?_eq_some_iff.1 ho).1
  refine mem_ready.2 ⟨?_, o, ho, h⟩
  unfold lis at hi
  rw [Array.getD_eq_getD_getElem?] at hi ⊢
  rw [Array.getElem?_eq_getElem (by omega)] at hi ⊢
  exact hi

theorem lis_set {listed : Array Bool} {i : Nat} (hi : i < listed.size) : lis (listed.setIfInBounds i true) i = true := by
  unfold lis; simp [Array.getD_eq_getD_getElem?, hi]
theorem lis_set_ne {listed : Array Bool} {i j : Nat} (h : j ≠ i) : lis (listed.setIfInBounds i true) j = lis listed j := by
  unfold lis; exact getD_set_ne false (Ne.symm h)

/-- An operation that waits for all ahead of it. -/
theorem tail_waits_all (hd : drawOKs s ops m = true) {listed : Array Bool} (hs : Shut ops listed) {j : Nat} {oj : Oper} (hj : ops[j]? = some oj) (hm : m ≤ j) (hall : ∀ e ∈ oj.after, Region.binds .any e = true → lis listed e.on = true) : ∀ i, i < j → lis listed i = true := by
  have key : ∀ q i, j - i = q → i < j → lis listed i = true := by
    intro q
    induction q using Nat.strongRecOn with
    | _ q ih =>
      intro i hq hi
      rcases (drawOK_at hd hj).2.2 hm i hi with he | ⟨k, hk, hik, he⟩
      · obtain ⟨oj', h1, e, h2, h3, h4⟩ := hasEdge_spec he
        rw [hj] at h1
        cases h1
        exact h4 ▸ hall e h2 h3
      · obtain ⟨ok, h1, e, h2, h3, h4⟩ := hasEdge_spec he
        exact h4 ▸ hs k ok h1 (ih (j - k) (by omega) k rfl hk) e h2 h3
  exact fun i hi => key (j - i) i rfl hi

theorem shut_set {listed : Array Bool} (hs : Shut ops listed) {i : Nat} {o : Oper} (ho : ops[i]? = some o) (hall : ∀ e ∈ o.after, Region.binds .any e = true → lis listed e.on = true) : Shut ops (listed.setIfInBounds i true) := by
  have up : ∀ k, lis listed k = true → lis (listed.setIfInBounds i true) k = true := fun k hk => getD_set_true hk
  intro j oj hj hl e he hb
  by_cases e' : j = i
  · subst e'
    rw [ho] at hj
    cases hj
    exact up _ (hall e he hb)
  · rw [lis_set_ne e'] at hl
    exact up _ (hs j oj hj hl e he hb)

/-- The last ones, one by one. -/
theorem tail_any (hd : drawOKs s ops m = true) {Q : Exit → Act → World → Prop} : ∀ (q k : Nat) (listed : Array Bool) (a : Act) (w : World), q = ops.size - k → m ≤ k → k ≤ ops.size → listed.size = ops.size → (∀ i, i < ops.size → (lis listed i = true ↔ i < k)) →
    wpList P ops Q (ops.toList.drop k) a w → wpAny P .any ops Q q listed a w
  | 0, k, listed, a, w, hq, hm, hk, hsz, hl, h => by
    have e : k = ops.size := by omega
    subst e
    rw [List.drop_eq_nil_of_le (by simp)] at h
    refine ⟨?_, h⟩
    cases hr : Region.ready .any ops listed with
    | nil => rfl
    | cons i rs =>
      obtain ⟨h1, h2, _⟩ := ready_spec hsz (by rw [hr]; exact List.mem_cons_self : i ∈ Region.ready .any ops listed)
      have := (hl i h1).2 h1
      rw [h2] at this; cases this
  | q + 1, k, listed, a, w, hq, hm, hk, hsz, hl, h => by
    have hlt : k < ops.size := by omega
    have ho : ops[k]? = some ops[k] := Array.getElem?_eq_getElem hlt
    have hdrop : ops.toList.drop k = ops[k] :: ops.toList.drop (k + 1) := by
      rw [List.drop_eq_getElem_cons (by simpa using hlt)]; simp
    have hlk : lis listed k = false := by
      cases hx : lis listed k with
      | false => rfl
      | true => exact absurd ((hl k hlt).1 hx) (Nat.lt_irrefl k)
    have hready : k ∈ Region.ready .any ops listed := ready_of hsz ho hlk (fun e he hb => by
      have := (drawOK_at hd ho).1 e he hb
      exact (hl e.on (by omega)).2 this)
    have hshut : Shut ops listed := by
      intro j oj hj hlj e he hb
      have hjs : j < ops.size := (Array.getElem?_eq_some_iff.1 hj).1
      have h1 := (hl j hjs).1 hlj
      have h2 := (drawOK_at hd hj).1 e he hb
      exact (hl e.on (by omega)).2 (by omega)
    have honly : ∀ i, i ∈ Region.ready .any ops listed → i = k := by
      intro i hi
      obtain ⟨h1, h2, o, h3, h4⟩ := ready_spec hsz hi
      have hge : k ≤ i := by
        rcases Nat.lt_or_ge i k with h5 | h5
        · rw [(hl i h1).2 h5] at h2; cases h2
        · exact h5
      rcases Nat.lt_or_ge k i with h5 | h5
      · have := tail_waits_all hd hshut h3 (by omega) h4 k h5
        rw [hlk] at this; cases this
      · omega
    refine ⟨fun hr => (by rw [hr] at hready; cases hready), fun i hi => ?_⟩
    obtain rfl := honly i hi
    rw [hdrop] at h
    have h' : wpOp P ops Q i (wpList P ops Q (ops.toList.drop (i + 1))) a w := by
      unfold wpOp
      simp only [ho]
      exact h
    refine wpOp_mono (fun a' w' hh => ?_) h'
    refine tail_any hd q (i + 1) _ a' w' (by omega) (by omega) (by omega) (by simpa using hsz) (fun j hj => ?_) hh
    by_cases e : j = i
    · subst e
      rw [lis_set (by omega)]
      simp
    · rw [lis_set_ne e, hl j hj]
      omega

/-- What is known of a frame when just those that are listed have been carried out. -/
structure Inv (ops : Array Oper) (m : Nat) (st : St) (vs : Nat → V) (X : Ctx) (M : Imm) (β : Env) (listed : Array Bool) (a : Act) (w : World) : Prop where
  nodef : a.defers = []
  size : a.tmps.size = st.N
  new : ∀ t j, j < m → lis listed j = true → dstOf ops j = some t → R M (vs j) β (a.tmps.getD t undef)
  old : ∀ t, (∀ j, j < m → lis listed j = true → dstOf ops j ≠ some t) → R M (st.T t) β (a.tmps.getD t undef)
  mem : Mem X M β st w

/-- What an operation looks at holds what it holds in the order of the text. -/
theorem Inv.looks (hd : drawOKs s ops m = true) {st : St} {vs : Nat → V} {X : Ctx} {M : Imm} {β : Env} {listed : Array Bool} {a : Act} {w : World} (h : Inv ops m st vs X M β listed a w) (hs : Shut ops listed) {i : Nat} {o : Oper} (hi : i < m) (ho : ops[i]? = some o)
    (hli : lis listed i = false) (hall : ∀ e ∈ o.after, Region.binds .any e = true → lis listed e.on = true) {t : Tmp} (ht : t ∈ o.looksAt ops) : R M ((stAt ops st vs i).T t) β (a.tmps.getD t undef) := by
  by_cases hex : ∃ j, j < i ∧ dstOf ops j = some t
  · obtain ⟨j, hji, hjt⟩ := hex
    rw [stAt_new (drawOK_dsts hd) i (by omega) hji hjt]
    refine h.new t j (by omega) ?_ hjt
    cases hoj : ops[j]? with
    | none => unfold dstOf at hjt; rw [hoj] at hjt; cases hjt
    | some oj =>
      rcases (((drawOK_at hd ho).2.1 hi).2 j oj hji hoj).1 with he | hap
      · obtain ⟨o', h1, e, h2, h3, h4⟩ := hasEdge_spec he
        rw [ho] at h1
        cases h1
        exact h4 ▸ hall e h2 h3
      · have : oj.dst = some t := by unfold dstOf at hjt; rw [hoj] at hjt; exact hjt
        exact absurd ht ((Oper.apart_spec hap).1 t this)
  · have hno : ∀ j, j < i → dstOf ops j ≠ some t := fun j hj e => hex ⟨j, hj, e⟩
    rw [stAt_old i hno]
    refine h.old t fun j hj hlj hjt => ?_
    rcases Nat.lt_trichotomy j i with hlt | rfl | hgt
    · exact hno j hlt hjt
    · rw [hli] at hlj; cases hlj
    · cases hoj : ops[j]? with
      | none => unfold dstOf at hjt; rw [hoj] at hjt; cases hjt
      | some oj =>
        rcases (((drawOK_at hd hoj).2.1 hj).2 i o hgt ho).1 with he | hap
        · obtain ⟨oj', h1, e, h2, h3, h4⟩ := hasEdge_spec he
          have := hs j oj' h1 hlj e h2 h3
          rw [h4, hli] at this; cases this
        · have : oj.dst = some t := by unfold dstOf at hjt; rw [hoj] at hjt; exact hjt
          exact absurd ht ((Oper.apart_spec hap).2.2 t this)

theorem Inv.step {st : St} {vs : Nat → V} {X : Ctx} {M M' : Imm} {β : Env} {listed : Array Bool} {a : Act} {w w' : World} (hdst : dstsOther ops m) (h : Inv ops m st vs X M β listed a w) (hsz : listed.size = ops.size) (hms : m ≤ ops.size) {i : Nat} (hi : i < m) (hle : Imm.Le M M') (hm : Mem X M' β st w')
    (hfit : st.fits (dstOf ops i)) {v : Value} (hr : R M' (vs i) β v) : Inv ops m st vs X M' β (listed.setIfInBounds i true) (a.put (dstOf ops i) v) w' := by
  refine ⟨by rw [Act.defers_put]; exact h.nodef, by rw [Act.size_put]; exact h.size, fun t j hj hlj hjt => ?_, fun t ht => ?_, hm⟩
  · by_cases e : j = i
    · subst e
      rw [hjt] at hfit ⊢
      rw [Act.getD_put a t v (by rw [h.size]; exact hfit), if_pos rfl]
      exact hr
    · rw [lis_set_ne e] at hlj
      have hne : dstOf ops i ≠ some t := fun h' => e (hdst j i t hj hi hjt h')
      cases hdi : dstOf ops i with
      | none => exact R.up hle (h.new t j hj hlj hjt)
      | some d =>
        rw [hdi] at hfit hne
        rw [Act.getD_put a d v (by rw [h.size]; exact hfit), if_neg (fun h' => hne (by rw [h']))]
        exact R.up hle (h.new t j hj hlj hjt)
  · have hne : dstOf ops i ≠ some t := ht i hi (lis_set (by omega))
    have hold : ∀ j, j < m → lis listed j = true → dstOf ops j ≠ some t := fun j hj hlj => ht j hj (getD_set_true hlj)
    cases hdi : dstOf ops i with
    | none => exact R.up hle (h.old t hold)
    | some d =>
      rw [hdi] at hfit hne
      rw [Act.getD_put a d v (by rw [h.size]; exact hfit), if_neg (fun h' => hne (by rw [h']))]
      exact R.up hle (h.old t hold)

/-- WHATEVER THE ORDER. -/
theorem any_order (hd : drawOKs s ops m = true) {st : St} {vs : Nat → V} {X : Ctx} {β : Env} {Q : Exit → Act → World → Prop} (hstep : ∀ i, i < m → StepOK P ops st vs i)
    (htail : ∀ a w, Sat X (stAt ops st vs m) a w → wpList P ops Q (ops.toList.drop m) a w) :
    ∀ (q : Nat) (M : Imm) (listed : Array Bool) (a : Act) (w : World), q + cnt ops.size (lis listed) = ops.size → listed.size = ops.size → Shut ops listed → (∀ i, m ≤ i → i < ops.size → lis listed i = false) → Inv ops m st vs X M β listed a w →
      wpAny P .any ops Q q listed a w := by
  have hms := drawOK_le hd
  intro q
  have full : ∀ (M : Imm) (listed : Array Bool) (a : Act) (w : World), listed.size = ops.size → (∀ i, m ≤ i → i < ops.size → lis listed i = false) → Inv ops m st vs X M β listed a w → (∀ i, i < m → lis listed i = true) → ∀ q, q + cnt ops.size (lis listed) = ops.size → wpAny P .any ops Q q listed a w := by
    intro M listed a w hsz hno hinv hall q hq
    have hsat : Sat X (stAt ops st vs m) a w := by
      refine ⟨M, β, hinv.nodef, by rw [(stAt_σ st vs m).2.2.2]; exact hinv.size, fun t => ?_, hinv.mem.of_same (stAt_σ st vs m).1 (stAt_σ st vs m).2.1 (stAt_σ st vs m).2.2.1⟩
      by_cases hex : ∃ j, j < m ∧ dstOf ops j = some t
      · obtain ⟨j, hj, hjt⟩ := hex
        rw [stAt_new (drawOK_dsts hd) m (Nat.le_refl _) hj hjt]
        exact hinv.new t j hj (hall j hj) hjt
      · rw [stAt_old m (fun j hj e => hex ⟨j, hj, e⟩)]
        exact hinv.old t fun j hj _ e => hex ⟨j, hj, e⟩
    have hcnt : ∀ n, m ≤ n → n ≤ ops.size → cnt n (lis listed) = m := by
      intro n
      induction n with
      | zero => intro h1 _; obtain rfl : m = 0 := by omega
                rfl
      | succ n ih =>
        intro h1 h2
        rcases Nat.lt_or_ge n m with h3 | h3
        · obtain rfl : m = n + 1 := by omega
          exact cnt_all _ hall
        · rw [cnt, ih h3 (by omega), hno n h3 (by omega)]; simp
    exact tail_any hd q m listed a w (by have := hcnt ops.size hms (Nat.le_refl _); omega) (Nat.le_refl _) hms hsz (fun i hi => by
      by_cases h : i < m
      · simp [h, hall i h]
      · simp [h, hno i (by omega) hi]) (htail a w hsat)
  induction q with
  | zero =>
    intro M listed a w hq hsz hs hno hinv
    by_cases hall : ∀ i, i < m → lis listed i = true
    · exact full M listed a w hsz hno hinv hall 0 hq
    · exfalso
      obtain ⟨i, hi⟩ := Classical.not_forall.1 hall
      obtain ⟨hi, hl⟩ := Classical.not_imp.1 hi
      have := cnt_lt (p := lis listed) (i := i) (by simpa using hl) ops.size (by omega)
      omega
  | succ q ih =>
    intro M listed a w hq hsz hs hno hinv
    by_cases hall : ∀ i, i < m → lis listed i = true
    · exact full M listed a w hsz hno hinv hall (q + 1) hq
    · refine ⟨fun hr => ?_, fun i hi => ?_⟩
      · -- one that is not listed and has none ahead of it that is not can come up
        exfalso
        have : ∀ i, i < m → lis listed i = true := by
          intro i
          induction i using Nat.strongRecOn with
          | _ i ihi =>
            intro hi
            cases hl : lis listed i with
            | true => rfl
            | false =>
              have ho : ops[i]? = some ops[i] := Array.getElem?_eq_getElem (by omega)
              have : i ∈ Region.ready .any ops listed := ready_of hsz ho hl (fun e he hb => by
                have h1 := (drawOK_at hd ho).1 e he hb
                exact ihi e.on h1 (by omega))
              rw [hr] at this; cases this
        exact hall this
      · obtain ⟨h1, h2, o, ho, h4⟩ := ready_spec hsz hi
        have him : i < m := by
          rcases Nat.lt_or_ge i m with h | h
          · exact h
          · exact (hall (fun j hj => tail_waits_all hd hs ho h h4 j (by omega))).elim
        obtain ⟨o', ho', hfit, hor⟩ := hstep i him
        rw [ho] at ho'
        cases ho'
        have hlook := fun t ht => hinv.looks hd hs him ho h2 h4 (t := t) ht
        have hdst : dstOf ops i = o.dst := by unfold dstOf; rw [ho]; rfl
        have hfit' : st.fits (dstOf ops i) := by
          rw [hdst]
          unfold St.fits at hfit ⊢
          rw [(stAt_σ st vs i).2.2.2] at hfit
          exact hfit
        have hguard : ∀ j want, o.guard = some (j, want) → ∀ b, guardV ops (stAt ops st vs i) j = some b → yielded ops a.tmps j = b := by
          intro j want hg b hb
          refine guardV_sound hb (M := M) (β := β) fun d hd' => hlook d ?_
          unfold Oper.looksAt
          rw [hg]
          simp [hd']
        have hops : ∀ x ∈ o.op.operands, R M (ev (stAt ops st vs i) x) β (a.eval x) := by
          intro x hx
          cases x with
          | tmp t => exact hlook t (by
              unfold Oper.looksAt
              refine List.mem_append_left _ ?_
              exact List.mem_filterMap.2 ⟨.tmp t, by simpa using hx, rfl⟩)
          | const v => rfl
          | global g => exact R.imm (EnvLe.of0 β) (by show R M ((stAt ops st vs i).G g) _ _; rw [(stAt_σ st vs i).2.2.1]; exact hinv.mem.glob g)
          | func f => rfl
        have hmem : Mem X M β (stAt ops st vs i) w := hinv.mem.of_same (stAt_σ st vs i).1 (stAt_σ st vs i).2.1 (stAt_σ st vs i).2.2.1
        have next : ∀ (M' : Imm) (v : Value) (w' : World), Imm.Le M M' → Mem X M' β st w' → R M' (vs i) β v → wpAny P .any ops Q q (listed.setIfInBounds i true) (a.put o.dst v) w' := by
          intro M' v w' hle hm hr
          rw [← hdst]
          refine ih M' _ _ _ ?_ (by simpa using hsz) (shut_set hs ho h4) (fun j hj hj' => ?_) (hinv.step (drawOK_dsts hd) hsz hms him hle hm hfit' hr)
          · rw [cnt_set (p := lis listed) h2 (lis_set (by omega)) (fun j hj => lis_set_ne hj) ops.size h1]; omega
          · rw [lis_set_ne (by omega)]; exact hno j hj hj'
        unfold wpOp
        simp only [ho]
        rcases hor with ⟨hg, hop⟩ | ⟨⟨j, want, b, hg, hb, hne⟩, hany⟩
        · have hwant : Region.wanted o (yielded ops a.tmps) = true := by
            cases hgo : o.guard with
            | none => simp [Region.wanted, hgo]
            | some jw =>
              obtain ⟨j, want⟩ := jw
              rw [hgo] at hg
              simp [Region.wanted, hgo, hguard j want hgo (some want) hg]
          rw [if_pos hwant]
          refine .inl ((hop X M β a w hmem hops).wp fun v w' ⟨M', hle, _, hm, hr⟩ => next M' v w' hle ?_ hr)
          exact hm.of_same (stAt_σ st vs i).1.symm (stAt_σ st vs i).2.1.symm (stAt_σ st vs i).2.2.1.symm
        · have hwant : ¬ Region.wanted o (yielded ops a.tmps) = true := by
            simp [Region.wanted, hg, hguard j want hg b hb, hne]
          rw [if_neg hwant]
          exact next M undef w (Imm.Le.refl M) hinv.mem (by rw [hany]; rfl)

/-! ### One store among them, to what no other looks at -/
/-- .. what it asks of the list: all may come in any order. -/
def lateOK (ops : Array Oper) (s : Nat) : Bool :=
  drawOKs s ops ops.size && decide (s < ops.size) &&
  match ops[s]? with
  | some os => os.dst.isNone && os.guard.isNone && (List.range ops.size).all fun j => decide (j ≤ s) || (os.looksAt ops).all fun t => dstOf ops j != some t
  | none => false
/-- The object hidden. -/
def St.mask (st : St) (o : Nat) : St := { st with σ := fun p => if p = o then .dead else st.σ p }
theorem Mem.mask {X : Ctx} {M : Imm} {β : Env} {st : St} {w : World} (o : Nat) (h : Mem X M β st w) : Mem X M β (st.mask o) w := by
  have alive : ∀ p, (st.mask o).σ p ≠ .dead → st.σ p ≠ .dead ∧ (st.mask o).σ p = st.σ p := by
    intro p hp
    have e : (st.mask o).σ p = if p = o then .dead else st.σ p := rfl
    rw [e] at hp ⊢
    by_cases hpo : p = o
    · rw [if_pos hpo] at hp; exact absurd rfl hp
    · rw [if_neg hpo] at hp ⊢; exact ⟨hp, rfl⟩
  refine ⟨h.below, h.cons, h.ext, h.old, fun p t n c hp => ?_, fun p e sz n fz f hp => ?_, fun p q g hpq h1 h2 => h.sep p q g hpq (alive p h1).1 (alive q h2).1, fun p hp => ⟨?_, (h.nx p hp).2⟩, h.glob⟩
  · exact h.box p t n c ((alive p (by rw [hp]; simp)).2.symm.trans hp)
  · exact h.vec p e sz n fz f ((alive p (by rw [hp]; simp)).2.symm.trans hp)
  · show (if p = o then Ob.dead else st.σ p) = .dead
    split
    · rfl
    · exact (h.nx p hp).1

def nop : Op := .move (.const (.bool false))
/-- The list without that store. -/
def nopAt (ops : Array Oper) (s : Nat) : Array Oper := match ops[s]? with
  | some os => ops.setIfInBounds s { os with op := nop }
  | none => ops
theorem nopAt_ne {s j : Nat} (h : j ≠ s) : (nopAt ops s)[j]? = ops[j]? := by
  unfold nopAt
  split
  · rw [Array.getElem?_setIfInBounds_ne (fun e => h e.symm)]
  · rfl
theorem nopAt_dst (s j : Nat) : dstOf (nopAt ops s) j = dstOf ops j := by
  by_cases e : j = s
  · subst e
    unfold dstOf nopAt
    cases ho : ops[j]? with
    | none => simp only [ho]
    | some os =>
      have hlt := (Array.getElem?_eq_some_iff.1 ho).1
      simp [hlt]
  · unfold dstOf; rw [nopAt_ne e]
theorem nopAt_size (s : Nat) : (nopAt ops s).size = ops.size := by
  unfold nopAt; split <;> simp
theorem stAt_nop {s : Nat} {st : St} {vs : Nat → V} : ∀ k, stAt (nopAt ops s) st vs k = stAt ops st vs k
  | 0 => rfl
  | k + 1 => by rw [stAt, stAt, stAt_nop k, nopAt_dst]
theorem guardV_nop {s : Nat} {st : St} {j : Nat} : guardV (nopAt ops s) st j = guardV ops st j := by
  have h := nopAt_dst (ops := ops) s j
  unfold dstOf at h
  unfold guardV
  rw [h]

/-- Two states that differ in what the heap holds alone. -/
structure SameT (a b : St) : Prop where
  N : a.N = b.N
  T : a.T = b.T
  nx : a.nx = b.nx
  G : a.G = b.G
theorem stAt_same {a b : St} (h : SameT a b) (vs : Nat → V) : ∀ k, SameT (stAt ops a vs k) (stAt ops b vs k)
  | 0 => h
  | k + 1 => by
    have ih := stAt_same h vs k
    refine ⟨by rw [stAt, stAt, put_N, put_N]; exact ih.N, ?_, by rw [stAt, stAt, put_nx, put_nx]; exact ih.nx, by rw [stAt, stAt, put_G, put_G]; exact ih.G⟩
    funext t
    rw [stAt, stAt, put_T, put_T, ih.T]
theorem ev_same {a b : St} (h : SameT a b) (x : Operand) : ev a x = ev b x := by
  cases x <;> simp only [ev, h.T, h.G]
theorem guardV_same {a b : St} (h : SameT a b) (j : Nat) : guardV ops a j = guardV ops b j := by
  unfold guardV; rw [h.T]

/-- WHATEVER THE ORDER, with one store. -/
theorem any_orderL (hd : lateOK ops s = true) {st stM st1 : St} {vs : Nat → V} {X : Ctx} {β : Env} {Q : Exit → Act → World → Prop} (hsM : SameT stM st) (hs1 : SameT st1 st)
    (hmask : ∀ M w, Mem X M β st w → Mem X M β stM w) (hmask1 : ∀ M w, Mem X M β st1 w → Mem X M β stM w)
    (hstep : ∀ i, i < ops.size → i ≠ s → StepOK P ops stM vs i)
    (hstore : ∀ os, ops[s]? = some os → ∀ (M : Imm) (a : Act) (w : World), Mem X M β st w → (∀ x ∈ os.op.operands, R M (ev (stAt ops stM vs s) x) β (a.eval x)) → ∃ w', (execOp a.eval os).run P w = .ok .skip w' ∧ Mem X M β st1 w')
    (htail : ∀ a w, Sat X (stAt ops st1 vs ops.size) a w → Q .normal a w) :
    ∀ (q : Nat) (M : Imm) (listed : Array Bool) (a : Act) (w : World), q + cnt ops.size (lis listed) = ops.size → listed.size = ops.size → Shut ops listed → Inv ops ops.size stM vs X M β listed a w →
      Mem X M β (if lis listed s = true then st1 else st) w → wpAny P .any ops Q q listed a w := by
  have hd0 : drawOKs s ops ops.size = true := by unfold lateOK at hd; simp only [Bool.and_eq_true] at hd; exact hd.1.1
  have hslt : s < ops.size := by unfold lateOK at hd; simp only [Bool.and_eq_true, decide_eq_true_eq] at hd; exact hd.1.2
  have hos : ops[s]? = some ops[s] := Array.getElem?_eq_getElem hslt
  have hs2 : ops[s].dst = none ∧ ops[s].guard = none := by
    unfold lateOK at hd
    simp only [hos, Bool.and_eq_true] at hd
    obtain ⟨_, ⟨h1, h2⟩, _⟩ := hd
    exact ⟨by simpa using h1, by simpa using h2⟩
  intro q
  have done : ∀ (M : Imm) (listed : Array Bool) (a : Act) (w : World), Inv ops ops.size stM vs X M β listed a w → Mem X M β (if lis listed s = true then st1 else st) w → (∀ i, i < ops.size → lis listed i = true) → Q .normal a w := by
    intro M listed a w hinv hmem hall
    rw [if_pos (hall s hslt)] at hmem
    refine htail a w ⟨M, β, hinv.nodef, ?_, fun t => ?_, hmem.of_same (stAt_σ st1 vs _).1 (stAt_σ st1 vs _).2.1 (stAt_σ st1 vs _).2.2.1⟩
    · rw [(stAt_σ st1 vs _).2.2.2, hs1.N, ← hsM.N]; exact hinv.size
    · have hT := (stAt_same (ops := ops) ⟨hs1.N.trans hsM.N.symm, hs1.T.trans hsM.T.symm, hs1.nx.trans hsM.nx.symm, hs1.G.trans hsM.G.symm⟩ vs ops.size).T
      rw [hT]
      by_cases hex : ∃ j, j < ops.size ∧ dstOf ops j = some t
      · obtain ⟨j, hj, hjt⟩ := hex
        rw [stAt_new (drawOK_dsts hd0) _ (Nat.le_refl _) hj hjt]
        exact hinv.new t j hj (hall j hj) hjt
      · rw [stAt_old _ (fun j hj e => hex ⟨j, hj, e⟩)]
        exact hinv.old t fun j hj _ e => hex ⟨j, hj, e⟩
  induction q with
  | zero =>
    intro M listed a w hq hsz hs hinv hmem
    have hall : ∀ i, i < ops.size → lis listed i = true := fun i hi => by
      cases hl : lis listed i with
      | true => rfl
      | false =>
        have := cnt_lt (p := lis listed) (i := i) hl ops.size hi
        omega
    refine ⟨?_, done M listed a w hinv hmem hall⟩
    cases hr : Region.ready .any ops listed with
    | nil => rfl
    | cons i rs =>
      obtain ⟨h1, h2, _⟩ := ready_spec hsz (by rw [hr]; exact List.mem_cons_self : i ∈ Region.ready .any ops listed)
      rw [hall i h1] at h2; cases h2
  | succ q ih =>
    intro M listed a w hq hsz hs hinv hmem
    refine ⟨fun hr => ?_, fun i hi => ?_⟩
    · -- one that is not listed and has none ahead of it that is not can come up
      have hall : ∀ i, i < ops.size → lis listed i = true := by
        intro i
        induction i using Nat.strongRecOn with
        | _ i ihi =>
          intro hi
          cases hl : lis listed i with
          | true => rfl
          | false =>
            have ho : ops[i]? = some ops[i] := Array.getElem?_eq_getElem hi
            have : i ∈ Region.ready .any ops listed := ready_of hsz ho hl (fun e he hb => by
              have h1 := (drawOK_at hd0 ho).1 e he hb
              exact ihi e.on h1 (by omega))
            rw [hr] at this; cases this
      exact done M listed a w hinv hmem hall
    · obtain ⟨h1, h2, o, ho, h4⟩ := ready_spec hsz hi
      have hlook := fun t ht => hinv.looks hd0 hs h1 ho h2 h4 (t := t) ht
      have hdst : dstOf ops i = o.dst := by unfold dstOf; rw [ho]; rfl
      have hops : ∀ x ∈ o.op.operands, R M (ev (stAt ops stM vs i) x) β (a.eval x) := by
        intro x hx
        cases x with
        | tmp t => exact hlook t (by
            unfold Oper.looksAt
            refine List.mem_append_left _ ?_
            exact List.mem_filterMap.2 ⟨.tmp t, by simpa using hx, rfl⟩)
        | const v => rfl
        | global g => exact R.imm (EnvLe.of0 β) (by show R M ((stAt ops stM vs i).G g) _ _; rw [(stAt_σ stM vs i).2.2.1]; exact hinv.mem.glob g)
        | func f => rfl
      have hcnt : q + cnt ops.size (lis (listed.setIfInBounds i true)) = ops.size := by
        rw [cnt_set (p := lis listed) h2 (lis_set (by omega)) (fun j hj => lis_set_ne hj) ops.size h1]; omega
      unfold wpOp
      simp only [ho]
      by_cases his : i = s
      · subst his
        rw [hos] at ho
        cases ho
        have hwant : Region.wanted ops[i] (yielded ops a.tmps) = true := by simp [Region.wanted, hs2.2]
        rw [if_pos hwant]
        rw [if_neg (by rw [h2]; simp)] at hmem
        obtain ⟨w', hrun, hm1⟩ := hstore _ hos M a w hmem hops
        refine .inl (wp_skip_ hrun hs2.1 ?_)
        refine ih M _ a w' hcnt (by simpa using hsz) (shut_set hs hos h4) ⟨hinv.nodef, hinv.size, fun t j hj hlj hjt => ?_, fun t ht => ?_, hmask1 _ _ hm1⟩ (by rw [if_pos (lis_set (by omega))]; exact hm1)
        · by_cases e : j = i
          · subst e
            unfold dstOf at hjt
            rw [hos] at hjt
            simp [hs2.1] at hjt
          · rw [lis_set_ne e] at hlj
            exact hinv.new t j hj hlj hjt
        · exact hinv.old t fun j hj hlj => ht j hj (getD_set_true hlj)
      · obtain ⟨o', ho', hfit, hor⟩ := hstep i h1 his
        rw [ho] at ho'
        cases ho'
        have hfit' : stM.fits (dstOf ops i) := by
          rw [hdst]
          unfold St.fits at hfit ⊢
          rw [(stAt_σ stM vs i).2.2.2] at hfit
          exact hfit
        have hguard : ∀ j want, o.guard = some (j, want) → ∀ b, guardV ops (stAt ops stM vs i) j = some b → yielded ops a.tmps j = b := by
          intro j want hg b hb
          refine guardV_sound hb (M := M) (β := β) fun d hd' => hlook d ?_
          unfold Oper.looksAt
          rw [hg]
          simp [hd']
        have hmemM : Mem X M β (stAt ops stM vs i) w := hinv.mem.of_same (stAt_σ stM vs i).1 (stAt_σ stM vs i).2.1 (stAt_σ stM vs i).2.2.1
        have next : ∀ (M' : Imm) (v : Value) (w' : World), Imm.Le M M' → Grown w w' M M' → R M' (vs i) β v → wpAny P .any ops Q q (listed.setIfInBounds i true) (a.put o.dst v) w' := by
          intro M' v w' hle hgr hr
          obtain ⟨gb, gc, go⟩ := hgr
          rw [← hdst]
          refine ih M' _ _ _ hcnt (by simpa using hsz) (shut_set hs ho h4) (hinv.step (drawOK_dsts hd0) hsz (Nat.le_refl _) h1 hle (hinv.mem.grow gb hle gc go) hfit' hr) ?_
          rw [lis_set_ne (fun e => his e.symm)]
          exact hmem.grow gb hle gc go
        rcases hor with ⟨hg, hop⟩ | ⟨⟨j, want, b, hg, hb, hne⟩, hany⟩
        · have hwant : Region.wanted o (yielded ops a.tmps) = true := by
            cases hgo : o.guard with
            | none => simp [Region.wanted, hgo]
            | some jw =>
              obtain ⟨j, want⟩ := jw
              rw [hgo] at hg
              simp [Region.wanted, hgo, hguard j want hgo (some want) hg]
          rw [if_pos hwant]
          refine .inl ((hop X M β a w hmemM hops).wp fun v w' ⟨M', hle, hgr, _, hr⟩ => next M' v w' hle hgr hr)
        · have hwant : ¬ Region.wanted o (yielded ops a.tmps) = true := by
            simp [Region.wanted, hg, hguard j want hg b hb, hne]
          rw [if_neg hwant]
          exact next M undef w (Imm.Le.refl M) ⟨Below.refl _ _, hinv.mem.cons, fun _ _ => rfl⟩ (by rw [hany]; rfl)

end
end Go.Proofs.YtfnfbdccmggfoaaGreatDoor.Pg
