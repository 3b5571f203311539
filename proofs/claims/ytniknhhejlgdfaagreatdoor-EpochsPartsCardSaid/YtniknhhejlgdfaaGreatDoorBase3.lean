/- Lemmas that laws of this seat rest on, part 3; each says its own conditions: Rely, RelyMore, Ext, Frm, NumK, RefK, RefRows, RefLoops, RefF, RefG8, RefG10. -/
import Derived.WalkKit
import Derived.Orders
import Derived.Deep.MidRow
import Derived.Still
import Derived.Test.YtniknhhejlgdfaaGreatDoorRows
import Derived.OwnWalk
import Derived.Test.YtniknhhejlgdfaaGreatDoorBase2
/- A region that draws its order, by what each operation may rely on. -/
namespace Go.Proofs.YtniknhhejlgdfaaGreatDoor
open Go.RowKit

abbrev Ext (w w' : World) : Prop := Below w.heap.size w w'
theorem Ext.refl (w : World) : Ext w w := Below.refl _ w
theorem Ext.trans {a b c : World} (h : Ext a b) (k : Ext b c) : Ext a c := Below.trans h (Below.mono k h.size)

/-- What one operation gives. -/
def Gives (P : Program) (o : Oper) (ρ : Operand → Value) (w : World) (R : Value → World → Prop) : Prop :=
  match (execOp ρ o).run P w with
  | .ok (.value v) w' => R v w'
  | .ok .skip w' => R undef w'
  | .ok (.enter f args) w' => Calls P f args w' fun e w'' => ∃ v, e = .returned v ∧ R v w''
  | _ => False

def Deps (R : Nat → World → Value → Prop) (vs : Nat → Value) (w : World) : List Edge → Prop
  | [] => True
  | e :: es => match Region.binds .any e with
    | true => R e.on w (vs e.on) ∧ Deps R vs w es
    | false => Deps R vs w es

theorem Deps.of {R : Nat → World → Value → Prop} {vs : Nat → Value} {w : World} : ∀ {l : List Edge}, (∀ e ∈ l, Region.binds .any e = true → R e.on w (vs e.on)) → Deps R vs w l
  | [], _ => trivial
  | e :: es, h => by
    have ih : Deps R vs w es := Deps.of fun e' he hb => h e' (by simp [he]) hb
    unfold Deps
    cases hb : Region.binds .any e with
    | true => exact ⟨h e (by simp) hb, ih⟩
    | false => exact ih

section
variable (P : Program) (ops : Array Oper) (E : World → World → Prop) (R : Nat → World → Value → Prop) (w0 : World) (Q : Exit → Act → World → Prop)

def StepOk (f : (Nat → Value) → Act) (i : Nat) (o : Oper) : Prop :=
  ∀ vs w, E w0 w → Deps R vs w o.after.toList →
    if Region.wanted o (yielded ops (f vs).tmps) then Gives P o (f vs).eval w (fun v w' => E w w' ∧ ∀ w'', E w' w'' → R i w'' v)
    else ∀ w'', E w w'' → R i w'' undef

def Rely (tl : List Oper) : Nat → ((Nat → Value) → Act) → List Oper → Prop
  | i, f, [] => ∀ vs w, E w0 w → (∀ j, j < i → R j w (vs j)) → wpList P ops Q tl (f vs) w
  | i, f, o :: rest => StepOk P ops E R w0 f i o ∧ Rely tl (i + 1) (fun vs => (f vs).put o.dst (vs i)) rest
end

/-- The frame when the marked operations have been carried out. -/
def mix (L : Nat → Bool) (vs : Nat → Value) : Nat → List Oper → Act → Act
  | _, [], a => a
  | i, o :: rest, a => mix L vs (i + 1) rest (if L i then a.put o.dst (vs i) else a)

def lastW (L : Nat → Bool) (vs : Nat → Value) (t : Nat) : Nat → List Oper → Option Value
  | _, [] => none
  | i, o :: rest => (lastW L vs t (i + 1) rest).or (if L i && o.dst == some t then some (vs i) else none)

theorem put_get (a : Act) (d : Option Tmp) (v : Value) (t : Nat) : (a.put d v).tmps[t]? = if d = some t then (if t < a.tmps.size then some v else none) else a.tmps[t]? := by
  cases d with
  | none => simp [Act.put]
  | some d =>
    simp only [Act.put, Array.getElem?_setIfInBounds, Option.some.injEq]
    by_cases h : d = t
    · subst h; rfl
    · simp [h]

theorem put_size (a : Act) (d : Option Tmp) (v : Value) : (a.put d v).tmps.size = a.tmps.size := by cases d <;> simp [Act.put]
theorem put_defers (a : Act) (d : Option Tmp) (v : Value) : (a.put d v).defers = a.defers := by cases d <;> rfl

theorem mix_size (L : Nat → Bool) (vs : Nat → Value) : ∀ (l : List Oper) (i : Nat) (a : Act), (mix L vs i l a).tmps.size = a.tmps.size
  | [], _, _ => rfl
  | o :: rest, i, a => by
    simp only [mix]
    rw [mix_size L vs rest]
    split
    · exact put_size _ _ _
    · rfl
theorem mix_defers (L : Nat → Bool) (vs : Nat → Value) : ∀ (l : List Oper) (i : Nat) (a : Act), (mix L vs i l a).defers = a.defers
  | [], _, _ => rfl
  | o :: rest, i, a => by
    simp only [mix]
    rw [mix_defers L vs rest]
    split
    · exact put_defers _ _ _
    · rfl

theorem mix_get (L : Nat → Bool) (vs : Nat → Value) (t : Nat) : ∀ (l : List Oper) (i : Nat) (a : Act),
    (mix L vs i l a).tmps[t]? = match lastW L vs t i l with | some v => (if t < a.tmps.size then some v else none) | none => a.tmps[t]?
  | [], _, _ => rfl
  | o :: rest, i, a => by
    simp only [mix, lastW]
    rw [mix_get L vs t rest]
    cases hr : lastW L vs t (i + 1) rest with
    | some v =>
      have hs : (if L i = true then a.put o.dst (vs i) else a).tmps.size = a.tmps.size := by split <;> simp [put_size]
      simp [hs]
    | none =>
      cases hL : L i with
      | false => simp
      | true =>
        simp only [Option.none_or, if_true, Bool.true_and, put_get]
        by_cases hd : o.dst = some t
        · simp [hd]
        · simp [hd]

theorem lastW_congr (L L' : Nat → Bool) (vs vs' : Nat → Value) (t : Nat) : ∀ (l : List Oper) (i : Nat),
    (∀ j o, l[j]? = some o → o.dst = some t → L (i + j) = L' (i + j) ∧ (L (i + j) = true → vs (i + j) = vs' (i + j))) → lastW L vs t i l = lastW L' vs' t i l
  | [], _, _ => rfl
  | o :: rest, i, h => by
    simp only [lastW]
    rw [lastW_congr L L' vs vs' t rest (i + 1) (fun j o' hj hd => by
      have := h (j + 1) o' (by simpa using hj) hd
      rwa [show i + (j + 1) = i + 1 + j by omega] at this)]
    by_cases hd : o.dst = some t
    · have := h 0 o rfl hd
      simp only [Nat.add_zero] at this
      rw [← this.1]
      cases hL : L i with
      | false => simp
      | true => rw [this.2 hL]
    · simp [hd]

theorem lastW_none (L : Nat → Bool) (vs : Nat → Value) (t : Nat) : ∀ (l : List Oper) (i : Nat), (∀ j o, l[j]? = some o → o.dst = some t → L (i + j) = false) → lastW L vs t i l = none
  | [], _, _ => rfl
  | o :: rest, i, h => by
    simp only [lastW]
    rw [lastW_none L vs t rest (i + 1) (fun j o' hj hd => by
      have := h (j + 1) o' (by simpa using hj) hd
      rwa [show i + (j + 1) = i + 1 + j by omega] at this)]
    by_cases hd : o.dst = some t
    · have := h 0 o rfl hd
      simp only [Nat.add_zero] at this
      simp [this]
    · simp [hd]

theorem lastW_at (L : Nat → Bool) (vs : Nat → Value) (t : Nat) : ∀ (l : List Oper) (i k : Nat) (o : Oper), l[k]? = some o → o.dst = some t → L (i + k) = true →
    (∀ j o', l[j]? = some o' → o'.dst = some t → j = k) → lastW L vs t i l = some (vs (i + k))
  | [], _, _, _, h, _, _, _ => by simp at h
  | p :: rest, i, k, o, h, hd, hL, hu => by
    simp only [lastW]
    cases k with
    | zero =>
      obtain rfl : p = o := by simpa using h
      rw [lastW_none L vs t rest (i + 1) (fun j o' hj hd' => by have := hu (j + 1) o' (by simpa using hj) hd'; omega)]
      simp only [Nat.add_zero] at hL
      simp [hd, hL]
    | succ k =>
      rw [lastW_at L vs t rest (i + 1) k o (by simpa using h) hd (by rwa [show i + 1 + k = i + (k + 1) by omega])
        (fun j o' hj hd' => by have := hu (j + 1) o' (by simpa using hj) hd'; omega)]
      rw [show i + 1 + k = i + (k + 1) by omega]
      simp

/-- Where each reads what it hangs on, and no two write one slot. -/
def sane (ops : Array Oper) : Bool :=
  let l := ops.toList
  let n := l.length
  let dst (j : Nat) : Option Nat := (l[j]?).bind (·.dst)
  let on (i j : Nat) : Bool := ((l[i]?).map fun o => o.after.toList.any fun e => Region.binds .any e && e.on == j).getD false
  (List.range n).all fun i =>
    match l[i]? with
    | none => true
    | some o =>
      (o.after.toList.all fun e => !Region.binds .any e || decide (e.on < i)) &&
      (match o.op with | .select .. => false | _ => true) &&
      (List.range n).all fun j =>
        (match dst j with
         | some d => (!(o.looksAt ops).contains d || (if j < i then on i j else if i < j then on j i else true)) && (i == j || o.dst != some d)
         | none => true)

theorem sane_spec {ops : Array Oper} (h : sane ops = true) {i : Nat} {o : Oper} (ho : ops[i]? = some o) :
    (∀ e ∈ o.after.toList, Region.binds .any e = true → e.on < i) ∧ (∀ cs b, o.op ≠ .select cs b) ∧
    (∀ j p d, ops[j]? = some p → p.dst = some d → d ∈ o.looksAt ops → (j < i → ∃ e ∈ o.after.toList, Region.binds .any e = true ∧ e.on = j) ∧ (i < j → ∃ e ∈ p.after.toList, Region.binds .any e = true ∧ e.on = i)) ∧
    (∀ j p d, ops[j]? = some p → p.dst = some d → o.dst = some d → i = j) := by
  have hi : i < ops.toList.length := by
    have := (Array.getElem?_eq_some_iff.1 ho).1
    simpa using this
  have hl : ∀ {j : Nat} {p : Oper}, ops[j]? = some p → ops.toList[j]? = some p := fun h => by simpa using h
  simp only [sane, List.all_eq_true, List.mem_range] at h
  have h1 := h i hi
  rw [hl ho] at h1
  simp only [Bool.and_eq_true, List.all_eq_true, Bool.or_eq_true, decide_eq_true_eq, List.mem_range] at h1
  obtain ⟨⟨h2, h3⟩, h4⟩ := h1
  refine ⟨fun e he hb => by
    rcases h2 e he with h | h
    · rw [hb] at h; cases h
    · exact h, ?_, ?_, ?_⟩
  · intro cs b hs
    rw [hs] at h3
    simp at h3
  · intro j p d hp hd hlook
    have hj : j < ops.toList.length := by
      have := (Array.getElem?_eq_some_iff.1 hp).1
      simpa using this
    have h5 := h4 j hj
    simp only [hl hp, Option.bind_some, hd] at h5
    rw [Bool.and_eq_true] at h5
    have h6 := h5.1
    rw [Bool.or_eq_true, Bool.not_eq_true'] at h6
    rcases h6 with h6 | h6
    · have : (o.looksAt ops).contains d = true := by simpa using hlook
      rw [this] at h6; cases h6
    · constructor
      · intro hlt
        rw [if_pos hlt] at h6
        simp only [Option.map_some, Option.getD_some, List.any_eq_true, Bool.and_eq_true, beq_iff_eq] at h6
        exact h6
      · intro hlt
        rw [if_neg (by omega), if_pos hlt] at h6
        simp only [Option.map_some, Option.getD_some, List.any_eq_true, Bool.and_eq_true, beq_iff_eq] at h6
        exact h6
  · intro j p d hp hd hod
    have hj : j < ops.toList.length := by
      have := (Array.getElem?_eq_some_iff.1 hp).1
      simpa using this
    have h5 := h4 j hj
    simp only [hl hp, Option.bind_some, hd] at h5
    simp only [Bool.and_eq_true, Bool.or_eq_true, beq_iff_eq] at h5
    rcases h5.2 with h6 | h6
    · exact h6
    · simp [hod] at h6

/-- How many are not marked. -/
def unl (L : Nat → Bool) : Nat → Nat
  | 0 => 0
  | k + 1 => unl L k + if L k then 0 else 1
theorem unl_congr {L L' : Nat → Bool} : ∀ k, (∀ j, j < k → L j = L' j) → unl L k = unl L' k
  | 0, _ => rfl
  | k + 1, h => by simp only [unl]; rw [unl_congr k (fun j hj => h j (by omega)), h k (by omega)]
theorem unl_mark {L L' : Nat → Bool} {i : Nat} (hi : L i = false) (hi' : L' i = true) (ho : ∀ j, j ≠ i → L' j = L j) : ∀ k, i < k → unl L k = unl L' k + 1
  | 0, h => by omega
  | k + 1, h => by
    simp only [unl]
    by_cases e : i = k
    · subst e
      rw [unl_congr i (fun j hj => (ho j (by omega)).symm), hi, hi']
      rfl
    · rw [unl_mark hi hi' ho k (by omega), ho k (fun h => e h.symm)]
      omega
theorem unl_zero {L : Nat → Bool} : ∀ k, unl L k = 0 → ∀ j, j < k → L j = true
  | 0, _, j, hj => by omega
  | k + 1, h, j, hj => by
    simp only [unl] at h
    by_cases e : j = k
    · subst e
      cases hL : L j with
      | true => rfl
      | false => simp [hL] at h
    · exact unl_zero k (by omega) j (by omega)

theorem eval_of_get {a a' : Act} {t : Nat} (h : a.tmps[t]? = a'.tmps[t]?) : a.tmps.getD t undef = a'.tmps.getD t undef := by
  simp [h]

section
variable {P : Program} {ops : Array Oper} {E : World → World → Prop} {R : Nat → World → Value → Prop} {w0 : World} {Q : Exit → Act → World → Prop} {a0 : Act}

theorem rely_get {tl : List Oper} : ∀ (l : List Oper) (i : Nat) (f : (Nat → Value) → Act), Rely P ops E R w0 Q tl i f l →
    (∀ j o, l[j]? = some o → StepOk P ops E R w0 (fun vs => mix (fun k => decide (k < i + j)) vs i l (f vs)) (i + j) o) ∧
    (∀ vs w, E w0 w → (∀ j, j < i + l.length → R j w (vs j)) → wpList P ops Q tl (mix (fun _ => true) vs i l (f vs)) w)
  | [], i, f, h => ⟨fun j o hj => by simp at hj, fun vs w he hr => h vs w he (fun j hj => hr j (by simpa using hj))⟩
  | p :: rest, i, f, h => by
    obtain ⟨h1, h2⟩ := h
    obtain ⟨h3, h4⟩ := rely_get rest (i + 1) _ h2
    constructor
    · intro j o hj
      cases j with
      | zero =>
        obtain rfl : p = o := by simpa using hj
        have e : ∀ (vs : Nat → Value), mix (fun k => decide (k < i + 0)) vs i (p :: rest) (f vs) = f vs := by
          intro vs
          simp only [mix, Nat.add_zero, Nat.lt_irrefl, decide_false, Bool.false_eq_true, if_false]
          have hn : ∀ (l : List Oper) (m : Nat) (a : Act), i ≤ m → mix (fun k => decide (k < i)) vs m l a = a := by
            intro l
            induction l with
            | nil => intro m a _; rfl
            | cons q l ih =>
              intro m a hm
              simp only [mix]
              rw [ih (m + 1) _ (by omega)]
              have e : decide (m < i) = false := decide_eq_false (by omega)
              simp [e]
          exact hn rest (i + 1) _ (by omega)
        simp only [e]
        exact h1
      | succ j =>
        have := h3 j o (by simpa using hj)
        rw [show i + (j + 1) = i + 1 + j by omega]
        simp only [mix]
        have e : decide (i < i + 1 + j) = true := decide_eq_true (by omega)
        simp only [e, if_true]
        exact this
    · intro vs w he hr
      simp only [mix, if_true]
      exact h4 vs w he (fun j hj => hr j (by simp only [List.length_cons]; omega))

theorem act_ext {a a' : Act} (hs : a.tmps.size = a'.tmps.size) (hd : a.defers = a'.defers) (h : ∀ t : Nat, a.tmps[t]? = a'.tmps[t]?) : a = a' := by
  obtain ⟨t, d⟩ := a
  obtain ⟨t', d'⟩ := a'
  simp only at hs hd h
  subst hd
  have : t = t' := Array.ext_getElem? h
  rw [this]

/-- From m on each comes behind all that stand ahead of it. -/
def tailOk (ops : Array Oper) (m : Nat) : Bool :=
  decide (m ≤ ops.size) && (List.range ops.size).all fun i => decide (i < m) ||
    (List.range i).all fun j => ((ops.toList[i]?).map fun o => o.after.toList.any fun e => Region.binds .any e && e.on == j).getD false
theorem tailOk_spec {m : Nat} (h : tailOk ops m = true) : m ≤ ops.size ∧ ∀ i o, m ≤ i → ops[i]? = some o → ∀ j, j < i → ∃ e ∈ o.after.toList, Region.binds .any e = true ∧ e.on = j := by
  simp only [tailOk, Bool.and_eq_true, decide_eq_true_eq, List.all_eq_true, List.mem_range, Bool.or_eq_true] at h
  refine ⟨h.1, fun i o hm ho j hj => ?_⟩
  have hi : i < ops.size := (Array.getElem?_eq_some_iff.1 ho).1
  have ho' : ops.toList[i]? = some o := by simpa using ho
  rcases h.2 i hi with h2 | h2
  · omega
  · have h3 := h2 j hj
    rw [ho'] at h3
    simp only [Option.map_some, Option.getD_some, List.any_eq_true, Bool.and_eq_true, beq_iff_eq] at h3
    exact h3

theorem getD_tf {listed : Array Bool} {j : Nat} (h : j < listed.size) : listed.getD j true = listed.getD j false := by
  simp only [Array.getD_eq_getD_getElem?]
  rw [Array.getElem?_eq_getElem h]
  rfl

/-- Behind all that may come in any order the others come in theirs. -/
theorem seq_sound {m : Nat} (hs : sane ops = true) (ht : tailOk ops m = true) : ∀ (fuel i : Nat) (listed : Array Bool) (a : Act) (w : World), m ≤ i → listed.size = ops.size →
    (∀ j, j < ops.size → listed.getD j false = decide (j < i)) → ops.size ≤ fuel + i → i ≤ ops.size → wpList P ops Q (ops.toList.drop i) a w → wpAny P .any ops Q fuel listed a w := by
  obtain ⟨_, ht⟩ := tailOk_spec ht
  have hready : ∀ (i : Nat) (listed : Array Bool), m ≤ i → listed.size = ops.size → (∀ j, j < ops.size → listed.getD j false = decide (j < i)) → ∀ k, k ∈ Region.ready .any ops listed → k = i ∧ i < ops.size := by
    intro i listed hmi hsz hL k hk
    simp only [Region.ready, List.mem_filter, List.mem_range] at hk
    obtain ⟨hkn, hrd⟩ := hk
    have ho : ops[k]? = some ops[k] := by simp [hkn]
    generalize ops[k] = o at ho
    rw [ho] at hrd
    simp only [Bool.and_eq_true, Bool.not_eq_true', Option.map_some, Option.getD_some, Array.all_eq_true', Bool.or_eq_true] at hrd
    obtain ⟨h1, h2⟩ := hrd
    rw [getD_tf (by omega), hL k hkn] at h1
    have hik : i ≤ k := by simpa using h1
    rcases Nat.lt_or_ge i k with hlt | hge
    · obtain ⟨e, he, hb, hon⟩ := ht k o (by omega) ho i hlt
      rcases h2 e (by simpa using he) with h | h
      · rw [hb] at h; cases h
      · rw [hon, hL i (by omega)] at h
        simp at h
    · exact ⟨by omega, by omega⟩
  intro fuel
  induction fuel with
  | zero =>
    intro i listed a w hmi hsz hL hf hin hw
    have hi : i = ops.size := by omega
    subst hi
    have hnil : Region.ready .any ops listed = [] := by
      cases hr : Region.ready .any ops listed with
      | nil => rfl
      | cons x xs => have := hready _ listed hmi hsz hL x (by rw [hr]; simp); omega
    refine ⟨hnil, ?_⟩
    rw [List.drop_of_length_le (by simp)] at hw
    exact hw
  | succ fuel ih =>
    intro i listed a w hmi hsz hL hf hin hw
    refine ⟨fun hnil => ?_, fun k hk => ?_⟩
    · rcases Nat.lt_or_ge i ops.size with hlt | hge
      · exfalso
        have ho : ops[i]? = some ops[i] := by simp [hlt]
        have hmem : i ∈ Region.ready .any ops listed := by
          simp only [Region.ready, List.mem_filter, List.mem_range]
          refine ⟨hlt, ?_⟩
          rw [getD_tf (by omega), hL i hlt, ho]
          simp only [Nat.lt_irrefl, decide_false, Bool.not_false, Bool.true_and, Option.map_some, Option.getD_some, Array.all_eq_true', Bool.or_eq_true]
          intro e he
          cases hb : Region.binds .any e with
          | false => exact .inl rfl
          | true =>
            have := (sane_spec hs ho).1 e (by simpa using he) hb
            exact .inr (by rw [hL _ (by omega)]; simpa using this)
        rw [hnil] at hmem
        cases hmem
      · have hi : i = ops.size := by omega
        subst hi
        rw [List.drop_of_length_le (by simp)] at hw
        exact hw
    · obtain ⟨rfl, hlt⟩ := hready i listed hmi hsz hL k hk
      have ho : ops[k]? = some ops[k] := by simp [hlt]
      rw [List.drop_eq_getElem_cons (by simpa using hlt)] at hw
      simp only [Array.getElem_toList] at hw
      generalize ops[k] = o at ho hw
      simp only [wpOp, ho]
      refine (?_ : (if Region.wanted o (yielded ops a.tmps) then o.wp P a w _ Q ∨ (o.asks P a w ∧ LetsOut Q) else _))
      have hnext : ∀ a' w', wpList P ops Q (ops.toList.drop (k + 1)) a' w' → wpAny P .any ops Q fuel (listed.setIfInBounds k true) a' w' := fun a' w' h =>
        ih (k + 1) _ a' w' (by omega) (by simp [hsz]) (fun j hj => by
          simp only [Array.getD_eq_getD_getElem?, Array.getElem?_setIfInBounds]
          by_cases e : k = j
          · subst e; simp [hsz, hlt]
          · rw [if_neg e]
            have := hL j hj
            simp only [Array.getD_eq_getD_getElem?] at this
            rw [this]
            rw [Bool.eq_iff_iff]
            simp
            omega) (by omega) (by omega) h
      unfold wpList at hw
      split
      · rename_i hwt
        rw [if_pos hwt] at hw
        exact hw.imp (Oper.wp_mono hnext) id
      · rename_i hwt
        rw [if_neg hwt] at hw
        exact hnext _ _ hw

theorem rely_sound {m : Nat} (hE0 : ∀ w, E w w) (hE : ∀ {a b c}, E a b → E b c → E a c) (hs : sane ops = true) (ht : tailOk ops m = true)
    (hstep : ∀ j o, j < m → ops[j]? = some o → StepOk P ops E R w0 (fun vs => mix (fun k => decide (k < j)) vs 0 ops.toList a0) j o)
    (hend : ∀ vs w, E w0 w → (∀ j, j < m → R j w (vs j)) → wpList P ops Q (ops.toList.drop m) (mix (fun k => decide (k < m)) vs 0 ops.toList a0) w) :
    ∀ (fuel : Nat) (listed : Array Bool) (vs : Nat → Value) (w : World), listed.size = ops.size → unl (fun j => listed.getD j false) m + (ops.size - m) ≤ fuel → E w0 w →
      (∀ j, listed.getD j false = true → j < m) →
      (∀ j, listed.getD j false = true → ∀ w', E w w' → R j w' (vs j)) →
      (∀ j o, ops[j]? = some o → listed.getD j false = true → ∀ e ∈ o.after.toList, Region.binds .any e = true → listed.getD e.on false = true) →
      wpAny P .any ops Q fuel listed (mix (fun j => listed.getD j false) vs 0 ops.toList a0) w := by
  obtain ⟨hmn, htl⟩ := tailOk_spec ht
  have hall : ∀ (fuel : Nat) (listed : Array Bool) (vs : Nat → Value) (w : World), listed.size = ops.size → unl (fun j => listed.getD j false) m = 0 → ops.size ≤ fuel + m → E w0 w →
      (∀ j, listed.getD j false = true → j < m) →
      (∀ j, listed.getD j false = true → ∀ w', E w w' → R j w' (vs j)) → wpAny P .any ops Q fuel listed (mix (fun j => listed.getD j false) vs 0 ops.toList a0) w := by
    intro fuel listed vs w hsz hz hf he hlm hR
    have hmk := unl_zero m hz
    have hL : ∀ j, listed.getD j false = decide (j < m) := by
      intro j
      by_cases h : j < m
      · rw [hmk j h]; simp [h]
      · cases hb : listed.getD j false with
        | true => exact absurd (hlm j hb) h
        | false => simp [h]
    refine seq_sound hs ht fuel m listed _ w (Nat.le_refl _) hsz (fun j _ => hL j) hf hmn ?_
    have hm : mix (fun j => listed.getD j false) vs 0 ops.toList a0 = mix (fun k => decide (k < m)) vs 0 ops.toList a0 := by
      refine act_ext (by simp [mix_size]) (by simp [mix_defers]) (fun t => ?_)
      rw [mix_get, mix_get, lastW_congr _ (fun k => decide (k < m)) vs vs t ops.toList 0 (fun j o hj _ => ⟨by
        simp only [Nat.zero_add]
        exact hL j, fun _ => rfl⟩)]
    rw [hm]
    exact hend vs w he (fun j hj => hR j (hmk j hj) w (hE0 w))
  intro fuel
  induction fuel with
  | zero =>
    intro listed vs w hsz hu he hlm hR hcl
    exact hall 0 listed vs w hsz (by omega) (by omega) he hlm hR
  | succ fuel ih =>
    intro listed vs w hsz hu he hlm hR hcl
    by_cases hz : unl (fun j => listed.getD j false) m = 0
    · exact hall (fuel + 1) listed vs w hsz hz (by omega) he hlm hR
    have hnot : ¬ ∀ j, j < m → listed.getD j false = true := fun h => hz (by
      have : ∀ k, k ≤ m → unl (fun j => listed.getD j false) k = 0 := by
        intro k
        induction k with
        | zero => intro _; rfl
        | succ k ihk => intro hk; have e1 := ihk (by omega); have e2 := h k (by omega); simp only [unl, e1, e2, if_true]
      exact this m (Nat.le_refl _))
    have hrm : ∀ i ∈ Region.ready .any ops listed, i < m := by
      intro i hi
      simp only [Region.ready, List.mem_filter, List.mem_range] at hi
      obtain ⟨hin, hrd⟩ := hi
      have ho : ops[i]? = some ops[i] := by simp [hin]
      generalize ops[i] = o at ho
      rw [ho] at hrd
      simp only [Bool.and_eq_true, Bool.not_eq_true', Option.map_some, Option.getD_some, Array.all_eq_true', Bool.or_eq_true] at hrd
      rcases Nat.lt_or_ge i m with h | h
      · exact h
      · exfalso
        refine hnot fun j hj => ?_
        obtain ⟨e, hem, hb, hon⟩ := htl i o h ho j (by omega)
        rcases hrd.2 e (by simpa using hem) with h2 | h2
        · rw [hb] at h2; cases h2
        · rw [hon] at h2; exact h2
    refine ⟨fun hr => ?_, fun i hi => ?_⟩
    · exfalso
      refine hnot fun j => ?_
      induction j using Nat.strongRecOn with
      | ind j ihj =>
        intro hj
        cases hL : listed.getD j false with
        | true => rfl
        | false =>
          exfalso
          have ho : ops[j]? = some ops[j] := by simp [show j < ops.size by omega]
          have hmem : j ∈ Region.ready .any ops listed := by
            simp only [Region.ready, List.mem_filter, List.mem_range]
            refine ⟨by omega, ?_⟩
            rw [getD_tf (by omega), hL, ho]
            simp only [Bool.not_false, Bool.true_and, Option.map_some, Option.getD_some, Array.all_eq_true', Bool.or_eq_true]
            intro e hm
            obtain ⟨h1, _⟩ := sane_spec hs ho
            cases hb : Region.binds .any e with
            | false => exact .inl rfl
            | true =>
              have h2 := h1 e (by simpa using hm) hb
              exact .inr (ihj e.on h2 (by omega))
          rw [hr] at hmem
          cases hmem
    have him := hrm i hi
    simp only [Region.ready, List.mem_filter, List.mem_range] at hi
    obtain ⟨hin, hrd⟩ := hi
    have ho : ops[i]? = some ops[i] := by simp [hin]
    generalize ops[i] = o at ho
    rw [ho] at hrd
    simp only [Bool.and_eq_true, Bool.not_eq_true', Option.map_some, Option.getD_some, Array.all_eq_true', Bool.or_eq_true] at hrd
    obtain ⟨hLi, hdeps⟩ := hrd
    have hLi' : listed.getD i false = false := by
      simp only [Array.getD_eq_getD_getElem?] at hLi ⊢
      rw [Array.getElem?_eq_getElem (by omega)] at hLi ⊢
      simpa using hLi
    obtain ⟨s1, s2, s3, s4⟩ := sane_spec hs ho
    have hdone : ∀ e ∈ o.after.toList, Region.binds .any e = true → listed.getD e.on false = true := by
      intro e hm hb
      rcases hdeps e (by simpa using hm) with h | h
      · rw [hb] at h; cases h
      · exact h
    have hget : ∀ t, t ∈ o.looksAt ops → (mix (fun j => listed.getD j false) vs 0 ops.toList a0).tmps[t]? = (mix (fun k => decide (k < i)) vs 0 ops.toList a0).tmps[t]? := by
      intro t ht
      rw [mix_get, mix_get, lastW_congr _ (fun k => decide (k < i)) vs vs t ops.toList 0 (fun j p hj hd => ⟨?_, fun _ => rfl⟩)]
      simp only [Nat.zero_add]
      have hp : ops[j]? = some p := by simpa using hj
      obtain ⟨h1, h2⟩ := s3 j p t hp hd ht
      rcases Nat.lt_trichotomy j i with hlt | heq | hgt
      · obtain ⟨e, hm, hb, rfl⟩ := h1 hlt
        rw [hdone e hm hb]
        simp [hlt]
      · subst heq
        rw [hLi']
        simp
      · obtain ⟨e, hm, hb, hon⟩ := h2 hgt
        cases hL : listed.getD j false with
        | false => simp; omega
        | true =>
          have := hcl j p hp hL e hm hb
          rw [hon, hLi'] at this
          cases this
    have hev : ∀ x ∈ o.op.operands, (mix (fun j => listed.getD j false) vs 0 ops.toList a0).eval x = (mix (fun k => decide (k < i)) vs 0 ops.toList a0).eval x := by
      intro x hx
      cases x with
      | tmp t =>
        have ht : t ∈ o.looksAt ops := by
          simp only [Oper.looksAt, List.mem_append, List.mem_filterMap]
          exact .inl ⟨.tmp t, by simpa using hx, rfl⟩
        exact eval_of_get (hget t ht)
      | _ => rfl
    have hexec := execOp_congr o s2 hev
    have hw : Region.wanted o (yielded ops (mix (fun j => listed.getD j false) vs 0 ops.toList a0).tmps) = Region.wanted o (yielded ops (mix (fun k => decide (k < i)) vs 0 ops.toList a0).tmps) := by
      unfold Region.wanted
      cases hg : o.guard with
      | none => rfl
      | some g =>
        obtain ⟨j, want⟩ := g
        have : yielded ops (mix (fun j => listed.getD j false) vs 0 ops.toList a0).tmps j = yielded ops (mix (fun k => decide (k < i)) vs 0 ops.toList a0).tmps j := by
          unfold yielded
          cases hj : (ops[j]?).bind (·.dst) with
          | none => rfl
          | some t =>
            have ht : t ∈ o.looksAt ops := by
              simp only [Oper.looksAt, List.mem_append]
              exact .inr (by simp [hg, hj])
            simp only [Option.bind_some, hget t ht]
        simp only [this]
    have hD : Deps R vs w o.after.toList := Deps.of fun e hm hb => hR e.on (hdone e hm hb) w (hE0 w)
    have hst := hstep i o him ho vs w he hD
    -- what is left when op i has given v in w'
    have hnext : ∀ v w', E w w' → (∀ w'', E w' w'' → R i w'' v) →
        wpAny P .any ops Q fuel (listed.setIfInBounds i true) ((mix (fun j => listed.getD j false) vs 0 ops.toList a0).put o.dst v) w' := by
      intro v w' hew hr
      have hup : ∀ j, (listed.setIfInBounds i true).getD j false = if j = i then true else listed.getD j false := by
        intro j
        simp only [Array.getD_eq_getD_getElem?, Array.getElem?_setIfInBounds]
        by_cases e : i = j
        · subst e; simp [hsz, hin]
        · rw [if_neg e, if_neg (fun h => e h.symm)]
      have hmix : (mix (fun j => listed.getD j false) vs 0 ops.toList a0).put o.dst v =
          mix (fun j => (listed.setIfInBounds i true).getD j false) (fun j => if j = i then v else vs j) 0 ops.toList a0 := by
        refine act_ext (by simp [put_size, mix_size]) (by simp [put_defers, mix_defers]) (fun t => ?_)
        rw [put_get, mix_size]
        by_cases hd : o.dst = some t
        · rw [if_pos hd, mix_get, lastW_at _ _ t ops.toList 0 i o (by simpa using ho) hd (by rw [hup]; simp) (fun j p hj hd' => (s4 j p t (by simpa using hj) hd' hd).symm)]
          simp
        · rw [if_neg hd, mix_get, mix_get]
          rw [lastW_congr (fun j => listed.getD j false) (fun j => (listed.setIfInBounds i true).getD j false) vs (fun j => if j = i then v else vs j) t ops.toList 0 (fun j p hj hd' => ?_)]
          simp only [Nat.zero_add]
          have hne : j ≠ i := by
            intro e
            subst e
            have : p = o := by
              have h1 : ops[j]? = some p := by simpa using hj
              rw [ho] at h1
              exact (Option.some.inj h1).symm
            exact hd (this ▸ hd')
          simp [hup, hne]
      rw [hmix]
      refine ih _ _ _ (by simp [hsz]) ?_ (hE he hew) ?_ ?_ ?_
      · have := unl_mark (L := fun j => listed.getD j false) (L' := fun j => (listed.setIfInBounds i true).getD j false) hLi' (by simp [hup]) (fun j hj => by simp [hup, hj]) m him
        omega
      · intro j hj
        rw [hup] at hj
        by_cases e : j = i
        · omega
        · rw [if_neg e] at hj
          exact hlm j hj
      · intro j hj w2 hw2
        by_cases e : j = i
        · subst e
          simpa using hr w2 hw2
        · simp only [if_neg e]
          refine hR j ?_ w2 (hE hew hw2)
          rw [hup, if_neg e] at hj
          exact hj
      · intro j p hp hj e hm hb
        rw [hup] at hj ⊢
        by_cases ej : j = i
        · subst ej
          have : p = o := by rw [ho] at hp; exact (Option.some.inj hp).symm
          subst this
          split
          · rfl
          · exact hdone e hm hb
        · rw [if_neg ej] at hj
          split
          · rfl
          · exact hcl j p hp hj e hm hb
    simp only [wpOp, ho, hw]
    split
    · rename_i hwt
      rw [if_pos hwt] at hst
      refine .inl ?_
      unfold Oper.wp
      unfold Gives at hst
      rw [hexec]
      generalize (execOp (mix (fun k => decide (k < i)) vs 0 ops.toList a0).eval o).run P w = r at hst
      cases r with
      | halt x w' => simp at hst
      | ok x w' =>
        cases x with
        | value v => exact hnext v w' hst.1 hst.2
        | skip => exact hnext undef w' hst.1 hst.2
        | enter g args =>
          simp only [Oper.upon]
          refine Calls.mono hst ?_
          rintro e w'' ⟨v, rfl, h1, h2⟩
          exact hnext v w'' h1 h2
        | _ => simp at hst
    · rename_i hwt
      rw [if_neg hwt] at hst
      exact hnext undef w (hE0 w) hst

/-- THE LAW. -/
theorem wp_region_rely {id : Nat} {l : List Oper} {a : Act} {w : World} (hm : P.follows .mixedOrders = true) (m : Nat) (hs : sane l.toArray = true) (ht : tailOk l.toArray m = true)
    (E : World → World → Prop) (hE0 : ∀ w, E w w) (hE : ∀ {a b c}, E a b → E b c → E a c)
    (R : Nat → World → Value → Prop) (h : Rely P l.toArray E R w.drew Q (l.drop m) 0 (fun _ => a) (l.take m)) : (Code.region id l.toArray true).wp P Q a w := by
  obtain ⟨h1, h2⟩ := rely_get (l.take m) 0 _ h
  obtain ⟨hmn, _⟩ := tailOk_spec ht
  have hmn' : m ≤ l.length := by simpa using hmn
  refine wp_region_any hm ?_
  have h0 : ∀ j, (Array.replicate l.toArray.size false).getD j false = false := by
    intro j
    simp only [Array.getD_eq_getD_getElem?, Array.getElem?_replicate]
    split <;> rfl
  have hmix : ∀ vs : Nat → Value, mix (fun j => (Array.replicate l.toArray.size false).getD j false) vs 0 l.toArray.toList a = a := by
    intro vs
    refine act_ext (by simp [mix_size]) (by simp [mix_defers]) (fun t => ?_)
    rw [mix_get, lastW_none _ _ _ _ _ (fun j o _ _ => h0 _)]
  have hdrop : ∀ (L : Nat → Bool) (vs : Nat → Value) (t : Nat), (∀ j, L j = true → j < m) → lastW L vs t 0 l = lastW L vs t 0 (l.take m) := by
    intro L vs t hL
    have gen : ∀ (l1 l2 : List Oper) (i : Nat), (∀ j, L j = true → j < i + l1.length) → lastW L vs t i (l1 ++ l2) = lastW L vs t i l1 := by
      intro l1
      induction l1 with
      | nil =>
        intro l2 i hj
        rw [List.nil_append, lastW_none L vs t l2 i (fun j o _ _ => by
          cases hb : L (i + j) with
          | false => rfl
          | true => have h9 := hj _ hb; simp only [List.length_nil] at h9; omega)]
        rfl
      | cons o l1 ih =>
        intro l2 i hj
        simp only [List.cons_append, lastW]
        rw [ih l2 (i + 1) (fun j h => by have := hj j h; simp only [List.length_cons] at this; omega)]
    have := gen (l.take m) (l.drop m) 0 (fun j h => by have := hL j h; simp only [List.length_take]; omega)
    rwa [List.take_append_drop] at this
  have hmixd : ∀ (k : Nat) (vs : Nat → Value), k ≤ m → mix (fun j => decide (j < k)) vs 0 l a = mix (fun j => decide (j < k)) vs 0 (l.take m) a := by
    intro k vs hk
    refine act_ext (by simp [mix_size]) (by simp [mix_defers]) (fun t => ?_)
    rw [mix_get, mix_get, hdrop _ vs t (fun j hj => by simp at hj; omega)]
  have hmixt : ∀ (vs : Nat → Value), mix (fun _ => true) vs 0 (l.take m) a = mix (fun k => decide (k < m)) vs 0 (l.take m) a := by
    intro vs
    refine act_ext (by simp [mix_size]) (by simp [mix_defers]) (fun t => ?_)
    rw [mix_get, mix_get, lastW_congr (fun _ => true) (fun k => decide (k < m)) vs vs t (l.take m) 0 (fun j o hj _ => ⟨by
      have := (List.getElem?_eq_some_iff.1 hj).1
      simp only [List.length_take] at this
      simp
      omega, fun _ => rfl⟩)]
  have := rely_sound (Q := Q) (a0 := a) hE0 hE hs ht (fun j o hj ho => by
      have h3 := h1 j o (by rw [List.getElem?_take, if_pos hj]; simpa using ho)
      simp only [Nat.zero_add] at h3
      have he : (fun vs => mix (fun k => decide (k < j)) vs 0 l.toArray.toList a) = (fun vs => mix (fun k => decide (k < j)) vs 0 (l.take m) a) := funext fun vs => hmixd j vs (by omega)
      rw [he]
      exact h3)
    (fun vs w' he hr => by
      have h3 := h2 vs w' he (fun j hj => hr j (by simp only [List.length_take] at hj; omega))
      rw [hmixt vs, ← hmixd m vs (Nat.le_refl _)] at h3
      simpa using h3)
    l.toArray.size (Array.replicate l.toArray.size false) (fun _ => undef) w.drew (by simp) (by
      have : ∀ n, unl (fun j => (Array.replicate l.toArray.size false).getD j false) n ≤ n := by
        intro n
        induction n with
        | zero => exact Nat.le_refl _
        | succ n ih => simp only [unl, h0, Bool.false_eq_true, if_false] at ih ⊢; omega
      have := this m
      omega) (hE0 _) (fun j hj => by rw [h0] at hj; cases hj) (fun j hj => by rw [h0] at hj; cases hj) (fun j o _ hj => by rw [h0] at hj; cases hj)
  rw [hmix] at this
  exact this

section
variable {f : (Nat → Value) → Act} {i : Nat} {o : Oper}

theorem step_plain (hg : o.guard = none) (h : ∀ vs w, E w0 w → Deps R vs w o.after.toList → Gives P o (f vs).eval w (fun v w' => E w w' ∧ ∀ w'', E w' w'' → R i w'' v)) :
    StepOk P ops E R w0 f i o := fun vs w hE hd => by
  have hw : Region.wanted o (yielded ops (f vs).tmps) = true := by simp [Region.wanted, hg]
  rw [if_pos hw]
  exact h vs w hE hd

end

theorem gives_val {o : Oper} {ρ : Operand → Value} {w w' : World} {S : Value → World → Prop} (v : Value) (hr : (execOp ρ o).run P w = .ok (.value v) w') (h : S v w') : Gives P o ρ w S := by
  unfold Gives
  rw [hr]
  exact h

theorem gives_call {o : Oper} {ρ : Operand → Value} {w : World} {S : Value → World → Prop} (g : Nat) (hen : ∀ args w, (callFunc g args).run P w = .ok (.enter g args) w)
    (args : List Operand) (ts : Array TypeId) (ho : o.op = .call { callee := .value (.func g), args := args.toArray, argTypes := ts })
    (hv : ρ (.func g) = .func (.func g) #[] #[]) (vals : List Value) (ha : args.map ρ = vals)
    (h : Calls P g vals.toArray w fun e w'' => ∃ v, e = .returned v ∧ S v w'') : Gives P o ρ w S := by
  refine (?_ : match (execOp ρ o).run P w with
    | .ok (.value v) w' => S v w'
    | .ok .skip w' => S undef w'
    | .ok (.enter f args) w' => Calls P f args w' fun e w'' => ∃ v, e = .returned v ∧ S v w''
    | _ => False)
  have hr : (execOp ρ o).run P w = .ok (.enter g vals.toArray) w := by
    unfold execOp
    simp only [ho, resolve, hv, List.map_toArray, ha, Sem.run_bind]
    simp only [Deferred.ofValue, Sem.run_pure, Result.andThen_ok, invoke, Array.append_empty, Array.empty_append, hen]
  rw [hr]
  exact h

theorem gives_load_row {o : Oper} {ρ : Operand → Value} {w : World} {S : Value → World → Prop} (ty : TypeId) (x : Operand) (ho : o.op = .load ty x) (b off : Nat) (hx : ρ x = .pointer (some ⟨b, off, none⟩))
    (cs : List Value) (d : TypeDesc) (hc : w.rangeAt b off cs) (hu : P.underlying ty = some d) (hd : d.isRow = true) (hi : (P.info? ty).map (·.size) = some cs.length)
    (h : S (.agg cs.toArray) w) : Gives P o ρ w S := by
  refine gives_val (.agg cs.toArray) (w' := w) ?_ h
  unfold execOp
  simp only [ho, hx, Sem.run_bind, run_loadAt_mid w b off ty cs d hc hu hd hi, Result.andThen_ok, Sem.run_pure]

theorem gives_move {o : Oper} {ρ : Operand → Value} {w : World} {S : Value → World → Prop} (x : Operand) (v : Value) (ho : o.op = .move x ∨ o.op = .assign x) (hx : ρ x = v) (h : S v w) : Gives P o ρ w S := by
  refine gives_val v (w' := w) ?_ h
  unfold execOp
  rcases ho with ho | ho <;> simp only [ho, hx, Sem.run_pure]

end
end Go.Proofs.YtniknhhejlgdfaaGreatDoor
/- Single operations of a region that draws its order. -/
namespace Go.Proofs.YtniknhhejlgdfaaGreatDoor
open Go.RowKit
variable {P : Program} {o : Oper} {ρ : Operand → Value} {w w' : World} {S : Value → World → Prop}

theorem gives_indexAt (t : TypeId) (x y : Operand) (ho : o.op = .indexAddr t x y) (a b v : Value) (hx : ρ x = a) (hy : ρ y = b) (hr : (Instr.indexAt t a b).run P w = .ok v w') (h : S v w') : Gives P o ρ w S := by
  refine gives_val v (w' := w') ?_ h
  unfold execOp
  simp only [ho, hx, hy, Sem.run_bind, hr, Result.andThen_ok, Sem.run_pure]
theorem gives_loadAt (t : TypeId) (x : Operand) (ho : o.op = .load t x) (a v : Value) (hx : ρ x = a) (hr : (Instr.loadAt t a).run P w = .ok v w') (h : S v w') : Gives P o ρ w S := by
  refine gives_val v (w' := w') ?_ h
  unfold execOp
  simp only [ho, hx, Sem.run_bind, hr, Result.andThen_ok, Sem.run_pure]
theorem gives_slice (t : TypeId) (x : Operand) (lo hi mx : Option Operand) (ho : o.op = .slice t x lo hi mx) (a v : Value) (l h' m : Option Value) (hx : ρ x = a) (hl : lo.map ρ = l) (hh : hi.map ρ = h') (hm : mx.map ρ = m) (hr : (Instr.sliceAt t a l h' m).run P w = .ok v w') (h : S v w') : Gives P o ρ w S := by
  refine gives_val v (w' := w') ?_ h
  unfold execOp
  simp only [ho, hx, hl, hh, hm, Sem.run_bind, hr, Result.andThen_ok, Sem.run_pure]
end Go.Proofs.YtniknhhejlgdfaaGreatDoor
/- Worlds that go on. -/
namespace Go.Proofs.YtniknhhejlgdfaaGreatDoor
open Go.RowKit
theorem cell_on {w w' : World} {p : Addr} {v : Value} (h : Ext w w') (hc : w.cell? p = some v) : w'.cell? p = some v := (h.cell (World.block_lt_of_cell? w p hc)).trans hc
theorem ext_of_drew {w w' : World} (h : Ext w.drew w') : Ext w w' := (Below.refl w.heap.size w).drew.trans (Below.mono h (Nat.le_refl _))
end Go.Proofs.YtniknhhejlgdfaaGreatDoor
/- Frames told slot by slot: single operations in a frame that is a function. -/
namespace Go.Proofs.YtniknhhejlgdfaaGreatDoor
open Go.RowKit

/-- The frame of N slots that hold f. -/
def frm (N : Nat) (f : Nat → Value) : Act := ⟨(Array.range N).map f, []⟩
def upd (f : Nat → Value) (d : Nat) (v : Value) : Nat → Value := fun t => if t = d then v else f t
def updO (f : Nat → Value) : Option Nat → Value → Nat → Value
  | some d, v => upd f d v
  | none, _ => f

theorem frm_put (N : Nat) (f : Nat → Value) (d : Option Nat) (v : Value) : (frm N f).put d v = frm N (updO f d v) := by
  cases d with
  | none => rfl
  | some d =>
    show (⟨((Array.range N).map f).setIfInBounds d v, []⟩ : Act) = ⟨(Array.range N).map (upd f d v), []⟩
    congr 1
    apply Array.ext_getElem?
    intro i
    rw [Array.getElem?_setIfInBounds]
    by_cases h : d = i
    · subst h
      by_cases hd : d < N
      · simp [hd, upd]
      · simp [hd]
    · rw [if_neg h]
      by_cases hi : i < N
      · simp [hi, upd, show ¬ i = d from fun e => h e.symm]
      · simp [hi]
theorem frm_tmp {N t : Nat} {f : Nat → Value} {v : Value} (h : t < N) (e : f t = v) : (frm N f).eval (.tmp t) = v := by
  simp [Act.eval, frm, h, e]
/-- But for the slots in S the frames are the same. -/
def Same (S : Nat → Bool) (f g : Nat → Value) : Prop := ∀ t, S t = false → g t = f t
theorem Same.refl (S : Nat → Bool) (f : Nat → Value) : Same S f f := fun _ _ => rfl
theorem Same.trans {S : Nat → Bool} {f g h : Nat → Value} (a : Same S f g) (b : Same S g h) : Same S f h := fun t ht => (b t ht).trans (a t ht)
theorem Same.mono {S T : Nat → Bool} {f g : Nat → Value} (a : Same S f g) (h : ∀ t, T t = false → S t = false) : Same T f g := fun t ht => a t (h t ht)
theorem Same.some {S : Nat → Bool} {f g : Nat → Value} {d : Nat} (hd : S d = true) (v : Value) (a : Same S f g) : Same S f (updO g (some d) v) := fun t ht => by
  have : t ≠ d := fun e => by rw [e, hd] at ht; cases ht
  show (if t = d then v else g t) = f t
  rw [if_neg this]
  exact a t ht
theorem Same.none {S : Nat → Bool} {f g : Nat → Value} (v : Value) (a : Same S f g) : Same S f (updO g none v) := a
/-- Every frame is of that form. -/
theorem frm_of (a : Act) (h : a.defers = []) : a = frm a.tmps.size fun t => a.tmps.getD t undef := by
  obtain ⟨ts, ds⟩ := a
  obtain rfl : ds = [] := h
  unfold frm
  congr 1
  apply Array.ext
  · simp
  · intro i h1 h2
    have : i < ts.size := by simpa using h1
    simp [this]

section
variable {P : Program} {ops : Array Oper} {Q : Exit → Act → World → Prop} {o : Oper} {rest : List Oper} {N : Nat} {f : Nat → Value} {w : World}

/-- The operation gives this value, and reads alone. -/
def Val (P : Program) (o : Oper) (ρ : Operand → Value) (w : World) (V : Value) : Prop := (execOp ρ o).run P w = .ok (.value V) w
def Put1 (P : Program) (o : Oper) (ρ : Operand → Value) (w w' : World) : Prop := (execOp ρ o).run P w = .ok .skip w'
def Cal (P : Program) (o : Oper) (ρ : Operand → Value) (w : World) (V : Value) (w' : World) : Prop := ∃ g args, (execOp ρ o).run P w = .ok (.enter g args) w ∧ Calls P g args w fun e w'' => e = .returned V ∧ w'' = w'
theorem plv {V : Value} (hgd : o.guard = none) (hG : Val P o (frm N f).eval w V) (h : wpList P ops Q rest (frm N (updO f o.dst V)) w) : wpList P ops Q (o :: rest) (frm N f) w := by
  refine wpList_plain hgd fun K hK => ?_
  unfold Oper.wp
  rw [hG]
  refine hK _ _ ?_
  rw [frm_put]
  exact h
theorem plw {w' : World} (hgd : o.guard = none) (hG : Put1 P o (frm N f).eval w w') (h : wpList P ops Q rest (frm N (updO f o.dst undef)) w') : wpList P ops Q (o :: rest) (frm N f) w := by
  refine wpList_plain hgd fun K hK => ?_
  unfold Oper.wp
  rw [hG]
  refine hK _ _ ?_
  rw [frm_put]
  exact h
theorem stv {R : Act → Prop} {V : Value} (hgd : o.guard = none) (hG : Val P o (frm N f).eval w V) (h : wpStill P ops w R rest (frm N (updO f o.dst V))) : wpStill P ops w R (o :: rest) (frm N f) := by
  refine wpStill_step fun K hK => ?_
  have hw : Region.wanted o (yielded ops (frm N f).tmps) = true := by simp [Region.wanted, hgd]
  rw [if_pos hw]
  unfold Oper.still
  rw [hG]
  refine ⟨rfl, hK _ ?_⟩
  rw [frm_put]
  exact h
theorem stc {R : Act → Prop} {V : Value} (hgd : o.guard = none) (hG : Cal P o (frm N f).eval w V w) (h : wpStill P ops w R rest (frm N (updO f o.dst V))) : wpStill P ops w R (o :: rest) (frm N f) := by
  obtain ⟨g, args, hr, hc⟩ := hG
  refine wpStill_step fun K hK => ?_
  have hw : Region.wanted o (yielded ops (frm N f).tmps) = true := by simp [Region.wanted, hgd]
  rw [if_pos hw]
  unfold Oper.still
  rw [hr]
  refine ⟨rfl, V, hc, hK _ ?_⟩
  rw [frm_put]
  exact h
end

section
variable {P : Program} {o : Oper} {ρ : Operand → Value} {w : World}
theorem is_move {x : Operand} {v : Value} (ho : o.op = .move x ∨ o.op = .assign x) (hx : ρ x = v) : Val P o ρ w v := by
  unfold Val execOp
  rcases ho with ho | ho <;> simp only [ho, hx, Sem.run_pure]
theorem is_bin {op : BinOp} {t t2 : TypeId} {x y : Operand} {a b v : Value} (ho : o.op = .binOp op t x y t2) (hx : ρ x = a) (hy : ρ y = b) (hg : (eqGuard op t x y a b).run P w = .ok () w) (hr : (binOp op t a b).run P w = .ok v w) : Val P o ρ w v := by
  unfold Val execOp
  simp only [ho, hx, hy, Sem.run_bind, hg, hr, Result.andThen_ok, Sem.run_pure]
theorem is_add {k : IntKind} {t t2 : TypeId} {x y : Operand} {a b : Int} (ho : o.op = .binOp .add t x y t2) (hx : ρ x = .int k a) (hy : ρ y = .int k b) : Val P o ρ w (.int k (k.wrap (a + b))) :=
  is_bin ho hx hy rfl (by rw [binOp_add]; rfl)
theorem is_sub {k : IntKind} {t t2 : TypeId} {x y : Operand} {a b : Int} (ho : o.op = .binOp .sub t x y t2) (hx : ρ x = .int k a) (hy : ρ y = .int k b) : Val P o ρ w (.int k (k.wrap (a - b))) :=
  is_bin ho hx hy rfl (by rw [binOp_sub]; rfl)
theorem is_mul {k : IntKind} {t t2 : TypeId} {x y : Operand} {a b : Int} (ho : o.op = .binOp .mul t x y t2) (hx : ρ x = .int k a) (hy : ρ y = .int k b) : Val P o ρ w (.int k (k.wrap (a * b))) :=
  is_bin ho hx hy rfl (by rw [binOp_mul]; rfl)
theorem is_and {k : IntKind} {t t2 : TypeId} {x y : Operand} {a b : Int} (ho : o.op = .binOp .and t x y t2) (hx : ρ x = .int k a) (hy : ρ y = .int k b) : Val P o ρ w (.int k (bits .and k a b)) :=
  is_bin ho hx hy rfl (by rw [binOp_and]; rfl)
theorem is_xor {k : IntKind} {t t2 : TypeId} {x y : Operand} {a b : Int} (ho : o.op = .binOp .xor t x y t2) (hx : ρ x = .int k a) (hy : ρ y = .int k b) : Val P o ρ w (.int k (bits .xor k a b)) :=
  is_bin ho hx hy rfl (by rw [binOp_xor]; rfl)
theorem is_lss {k : IntKind} {t t2 : TypeId} {x y : Operand} {a b : Int} (ho : o.op = .binOp .lss t x y t2) (hx : ρ x = .int k a) (hy : ρ y = .int k b) : Val P o ρ w (.bool (decide (a < b))) :=
  is_bin ho hx hy rfl (by rw [binOp_lss]; rfl)
theorem is_gtr {k : IntKind} {t t2 : TypeId} {x y : Operand} {a b : Int} (ho : o.op = .binOp .gtr t x y t2) (hx : ρ x = .int k a) (hy : ρ y = .int k b) : Val P o ρ w (.bool (decide (a > b))) :=
  is_bin ho hx hy rfl (by rw [binOp_gtr]; rfl)
theorem is_shr3 {t t2 : TypeId} {x y : Operand} {a : Int} (ho : o.op = .binOp .shr t x y t2) (hx : ρ x = .int .u32 a) (hy : ρ y = .int .u64 3) : Val P o ρ w (.int .u32 (a / 8)) :=
  is_bin ho hx hy rfl (by go_simp)
theorem is_shr10 {t t2 : TypeId} {x y : Operand} {a : Int} (ho : o.op = .binOp .shr t x y t2) (hx : ρ x = .int .u32 a) (hy : ρ y = .int .u64 10) : Val P o ρ w (.int .u32 (a / 1024)) :=
  is_bin ho hx hy rfl (by go_simp)
theorem is_un {op : UnOp} {t : TypeId} {x : Operand} {a v : Value} (ho : o.op = .unOp op t x) (hx : ρ x = a) (hr : (Op.unary op a).run P w = .ok v w) : Val P o ρ w v := by
  unfold Val execOp
  simp only [ho, hx, Sem.run_bind, hr, Result.andThen_ok, Sem.run_pure]
theorem is_not {t : TypeId} {x : Operand} {a : Int} (ho : o.op = .unOp .xor t x) (hx : ρ x = .int .u32 a) : Val P o ρ w (.int .u32 (bits .xor .u32 (if IntKind.u32.signed = true then -1 else IntKind.u32.max) a)) :=
  is_un ho hx (by go_simp)
theorem is_conv {s d : TypeId} {x : Operand} {k : IntKind} {a : Int} (ho : o.op = .convert s d x) (hx : ρ x = .int k a) (hs : (P.underlying s).isSome = true) (hd : P.underlying d = some (.int (P.intKind d))) :
    Val P o ρ w (.int (P.intKind d) ((P.intKind d).wrap a)) := by
  unfold Val execOp
  simp only [ho, hx, Sem.run_bind, run_convert_int w s d k a hs hd, Result.andThen_ok, Sem.run_pure]
theorem is_idx {t : TypeId} {x y : Operand} {a b v : Value} (ho : o.op = .indexAddr t x y) (hx : ρ x = a) (hy : ρ y = b) (hr : (Instr.indexAt t a b).run P w = .ok v w) : Val P o ρ w v := by
  unfold Val execOp
  simp only [ho, hx, hy, Sem.run_bind, hr, Result.andThen_ok, Sem.run_pure]
theorem is_load {t : TypeId} {x : Operand} {a v : Value} (ho : o.op = .load t x) (hx : ρ x = a) (hr : (Instr.loadAt t a).run P w = .ok v w) : Val P o ρ w v := by
  unfold Val execOp
  simp only [ho, hx, Sem.run_bind, hr, Result.andThen_ok, Sem.run_pure]
theorem is_call {g : Nat} {args : List Operand} {ts : Array TypeId} {vals : List Value} {V : Value} {w' : World} (hen : ∀ args w, (callFunc g args).run P w = .ok (.enter g args) w) (ho : o.op = .call { callee := .value (.func g), args := args.toArray, argTypes := ts })
    (hv : ρ (.func g) = .func (.func g) #[] #[]) (ha : args.map ρ = vals) (h : Calls P g vals.toArray w fun e w'' => e = .returned V ∧ w'' = w') : Cal P o ρ w V w' := by
  refine ⟨g, vals.toArray, ?_, h⟩
  unfold execOp
  simp only [ho, resolve, hv, List.map_toArray, ha, Sem.run_bind]
  simp only [Deferred.ofValue, Sem.run_pure, Result.andThen_ok, invoke, Array.append_empty, Array.empty_append, hen]
end

section
variable {o : Oper} {ρ : Operand → Value} {w : World}
theorem is_load103 {x : Operand} {b n : Nat} {v : Int} (ho : o.op = .load 209 x) (hx : ρ x = .pointer (some ⟨b, n, none⟩)) (hc : w.cell? ⟨b, n, none⟩ = some (.int .u32 v)) : Val Tryz.prog o ρ w (.int .u32 v) :=
  is_load ho hx (by go_simp)
theorem is_load5 {x : Operand} {b n : Nat} {v : Int} (ho : o.op = .load 5 x) (hx : ρ x = .pointer (some ⟨b, n, none⟩)) (hc : w.cell? ⟨b, n, none⟩ = some (.int .u8 v)) : Val Tryz.prog o ρ w (.int .u8 v) :=
  is_load ho hx (by go_simp)
theorem is_store103 {x y : Operand} {b n : Nat} {z : Value} {u : Int} (ho : o.op = .store 209 x y) (hx : ρ x = .pointer (some ⟨b, n, none⟩)) (hy : ρ y = .int .u32 u) (hc : w.cell? ⟨b, n, none⟩ = some z) (hf : w.frozen? ⟨b, n, none⟩ = false) :
    Put1 Tryz.prog o ρ w (w.setCell ⟨b, n, none⟩ (.int .u32 u)) := by
  unfold Put1 execOp
  simp only [ho, hx, hy]
  go_simp
theorem is_store5 {x y : Operand} {b n : Nat} {z : Value} {u : Int} (ho : o.op = .store 5 x y) (hx : ρ x = .pointer (some ⟨b, n, none⟩)) (hy : ρ y = .int .u8 u) (hc : w.cell? ⟨b, n, none⟩ = some z) (hf : w.frozen? ⟨b, n, none⟩ = false) :
    Put1 Tryz.prog o ρ w (w.setCell ⟨b, n, none⟩ (.int .u8 u)) := by
  unfold Put1 execOp
  simp only [ho, hx, hy]
  go_simp
theorem is_idx104 {x y : Operand} {b : Nat} {i : Int} (j : Nat) (hj : i = (j : Int)) (h1 : j < 64) (ho : o.op = .indexAddr 210 x y) (hx : ρ x = .pointer (some ⟨b, 0, none⟩)) (hy : ρ y = .int .i64 i) : Val Tryz.prog o ρ w (.pointer (some ⟨b, j, none⟩)) := by
  subst hj
  have h2 : (j : Int) < 64 := by omega
  exact is_idx ho hx hy (by go_simp)
theorem is_idx105 {x y : Operand} {b : Nat} {i : Int} (j : Nat) (hj : i = (j : Int)) (h1 : j < 8) (ho : o.op = .indexAddr 211 x y) (hx : ρ x = .pointer (some ⟨b, 0, none⟩)) (hy : ρ y = .int .i64 i) : Val Tryz.prog o ρ w (.pointer (some ⟨b, j, none⟩)) := by
  subst hj
  have h2 : (j : Int) < 8 := by omega
  exact is_idx ho hx hy (by go_simp)
theorem is_idx25 {x y : Operand} {b : Nat} {i : Int} (j : Nat) (hj : i = (j : Int)) (h1 : j < 32) (ho : o.op = .indexAddr 171 x y) (hx : ρ x = .pointer (some ⟨b, 0, none⟩)) (hy : ρ y = .int .i64 i) : Val Tryz.prog o ρ w (.pointer (some ⟨b, j, none⟩)) := by
  subst hj
  have h2 : (j : Int) < 32 := by omega
  exact is_idx ho hx hy (by go_simp)
theorem is_idx22 {x y : Operand} {b off n c : Nat} {i : Int} (j : Nat) (hj : i = (j : Int)) (h1 : j < n) (ho : o.op = .indexAddr 137 x y) (hx : ρ x = .slice (some ⟨b, off, none⟩) n c) (hy : ρ y = .int .i64 i) : Val Tryz.prog o ρ w (.pointer (some ⟨b, off + j, none⟩)) := by
  subst hj
  have h2 : (j : Int) < n := by omega
  exact is_idx ho hx hy (by go_simp)
theorem is_len22 {x : Operand} {A : Option Addr} {n c : Nat} (ho : o.op = .call { callee := .builtin .len, args := #[x], argTypes := #[137] }) (hx : ρ x = .slice A n c) : Val Tryz.prog o ρ w (.int .i64 n) := by
  unfold Val execOp
  simp only [ho, resolve, invoke, builtin, Sem.run_bind, Sem.run_pure, Result.andThen_ok, List.map_toArray, List.map_cons, List.map_nil, hx]
  go_simp
end
end Go.Proofs.YtniknhhejlgdfaaGreatDoor
/- What quoratenum.Kept does. -/
namespace Go.Proofs.YtniknhhejlgdfaaGreatDoor
open Go.RowKit

theorem conv_bs {w : World} {v : Value} {bs : List Int} (h : Bs w v bs) : ∀ W, Ext w W → (convert 137 9 v).run Tryz.prog W = .ok (.string (strOfNums bs)) W := fun W hE => by
  have hW := h.below hE
  by_cases hne : bs = []
  · obtain ⟨A, c, rfl⟩ := h.form
    subst hne
    cases A with
    | none => exact run_convert_bytes_nil W 137 5 Tryz.underlying137 Tryz.underlying5 0 c 9 Tryz.underlying9
    | some a =>
      show (convert 137 9 (.slice (some a) 0 c)).run Tryz.prog W = _
      rw [run_convert_bytes_string W 137 9 5 (some a) 0 c Tryz.underlying137 Tryz.underlying5 Tryz.underlying9]
      simp [Conv.bytesToString, loadCells, strOfNums]
      rfl
  · obtain ⟨b, off, c, rfl, _, _, _, h4⟩ := hW.cells hne
    exact run_convert_bytes_arg W 137 5 Tryz.underlying137 Tryz.underlying5 b off bs.length c bs rfl h4 9 Tryz.underlying9

end Go.Proofs.YtniknhhejlgdfaaGreatDoor
/- The reference's table of constants. -/
namespace Go.Proofs.YtniknhhejlgdfaaGreatDoor
open Go.RowKit

set_option maxHeartbeats 4000000 in
set_option maxRecDepth 100000 in
theorem k_any (i : Nat) (hi : i < 64) (w : World) : Calls Tryz.prog 113 #[.int .i64 i] w fun e w' => e = .returned (.int .u32 (kk.getD i 0)) ∧ w' = w := by
  go_enter Tryz.func113, Tryz.ntmps113
  go_wp2_with (refine wpList_index_arr rfl 210 209 64 (.tmp 3) (.tmp 4) rfl (u32s kk).toArray .i64 (i : Int) (.int .u32 (kk.getD i 0)) rfl rfl Tryz.underlying210 _ Tryz.underlying209 rfl Tryz.size209 (by omega) (by omega) (by have hl : i < kk.length := hi; simp [u32s, List.getD_eq_getElem?_getD, hl]) ?_)
  go_ret
  exact ⟨rfl, rfl⟩
end Go.Proofs.YtniknhhejlgdfaaGreatDoor
/- What the reference's sum holds in memory. -/
namespace Go.Proofs.YtniknhhejlgdfaaGreatDoor
open Go.RowKit

/-- What the reference's sum holds: the row of bytes, the words in b6, the state in b7, the constants in b8. -/
structure RS (W0 : World) (B b6 b7 b8 : Nat) (v : Value) (rows : List Int) (w : World) (ws st tb : List Int) : Prop where
  own : OwnO w B 5 v (u8s rows)
  glt : ∀ k, v.ownBlock = some k → k < b6
  h6 : w.heap[b6]? = some (.cells (u32s ws).toArray 210 (0, 0))
  h7 : w.heap[b7]? = some (.cells (u32s st).toArray 211 (0, 0))
  h8 : w.heap[b8]? = some (.cells (u32s tb).toArray 210 (0, 0))
  bel : Below B W0 w
theorem RS.below {W0 w w' : World} {B b6 b7 b8 : Nat} {v : Value} {rows ws st tb : List Int} (h : RS W0 B b6 b7 b8 v rows w ws st tb) (hb : Below w.heap.size w w') (hB : B ≤ w.heap.size) : RS W0 B b6 b7 b8 v rows w' ws st tb :=
  ⟨h.own.below hb, h.glt, blk_below h.h6 hb, blk_below h.h7 hb, blk_below h.h8 hb, h.bel.trans (hb.mono hB)⟩
theorem RS.drew {W0 w : World} {B b6 b7 b8 : Nat} {v : Value} {rows ws st tb : List Int} (h : RS W0 B b6 b7 b8 v rows w ws st tb) : RS W0 B b6 b7 b8 v rows w.drew ws st tb :=
  ⟨h.own.below ⟨rfl, rfl, rfl, Nat.le_refl _, fun _ _ => rfl⟩, h.glt, h.h6, h.h7, h.h8, h.bel.trans ⟨rfl, rfl, rfl, Nat.le_refl _, fun _ _ => rfl⟩⟩
theorem grown_one (w : World) (b i : Nat) (x : Value) : w.grownBy (w.setCell ⟨b, i, none⟩ x) (some b) :=
  ⟨rfl, rfl, rfl, by simp, fun k _ hne => heap_setCell_other w ⟨b, i, none⟩ k x (fun e => hne (by rw [e]))⟩
theorem u32s_set (xs : List Int) (i : Nat) (x : Int) : (u32s xs).set i (.int .u32 x) = u32s (xs.set i x) := by rw [u32s, u32s, List.map_set]
theorem RS.set6 {W0 w : World} {B b6 b7 b8 : Nat} {v : Value} {rows ws st tb : List Int} (h : RS W0 B b6 b7 b8 v rows w ws st tb) (hB : B ≤ b6 ∧ b6 < b7 ∧ b7 < b8) (i : Nat) (x : Int) :
    RS W0 B b6 b7 b8 v rows (w.setCell ⟨b6, i, none⟩ (.int .u32 x)) (ws.set i x) st tb := by
  refine ⟨h.own.kept (grown_one w b6 i _) (fun k hk e => ?_), h.glt, by rw [← u32s_set]; exact blk_set h.h6 i _, ?_, ?_, h.bel.setCell (by simp; omega) _⟩
  · have := h.glt k hk; simp only [Option.some.injEq] at e; omega
  · rw [heap_setCell_other w ⟨b6, i, none⟩ _ _ (by simp; omega)]; exact h.h7
  · rw [heap_setCell_other w ⟨b6, i, none⟩ _ _ (by simp; omega)]; exact h.h8
theorem RS.set7 {W0 w : World} {B b6 b7 b8 : Nat} {v : Value} {rows ws st tb : List Int} (h : RS W0 B b6 b7 b8 v rows w ws st tb) (hB : B ≤ b6 ∧ b6 < b7 ∧ b7 < b8) (i : Nat) (x : Int) :
    RS W0 B b6 b7 b8 v rows (w.setCell ⟨b7, i, none⟩ (.int .u32 x)) ws (st.set i x) tb := by
  refine ⟨h.own.kept (grown_one w b7 i _) (fun k hk e => ?_), h.glt, ?_, by rw [← u32s_set]; exact blk_set h.h7 i _, ?_, h.bel.setCell (by simp; omega) _⟩
  · have := h.glt k hk; simp only [Option.some.injEq] at e; omega
  · rw [heap_setCell_other w ⟨b7, i, none⟩ _ _ (by simp; omega)]; exact h.h6
  · rw [heap_setCell_other w ⟨b7, i, none⟩ _ _ (by simp; omega)]; exact h.h8
theorem RS.set8 {W0 w : World} {B b6 b7 b8 : Nat} {v : Value} {rows ws st tb : List Int} (h : RS W0 B b6 b7 b8 v rows w ws st tb) (hB : B ≤ b6 ∧ b6 < b7 ∧ b7 < b8) (i : Nat) (x : Int) :
    RS W0 B b6 b7 b8 v rows (w.setCell ⟨b8, i, none⟩ (.int .u32 x)) ws st (tb.set i x) := by
  refine ⟨h.own.kept (grown_one w b8 i _) (fun k hk e => ?_), h.glt, ?_, ?_, by rw [← u32s_set]; exact blk_set h.h8 i _, h.bel.setCell (by simp; omega) _⟩
  · have := h.glt k hk; simp only [Option.some.injEq] at e; omega
  · rw [heap_setCell_other w ⟨b8, i, none⟩ _ _ (by simp; omega)]; exact h.h6
  · rw [heap_setCell_other w ⟨b8, i, none⟩ _ _ (by simp; omega)]; exact h.h7
theorem u32s_at (xs : List Int) (i : Nat) (h : i < xs.length) : (u32s xs)[i]? = some (.int .u32 (xs.getD i 0)) := by
  simp [u32s, List.getD_eq_getElem?_getD, h]
theorem RS.byte {W0 w : World} {B b6 b7 b8 g off n c : Nat} {rows ws st tb : List Int} (h : RS W0 B b6 b7 b8 (.slice (some ⟨g, off, none⟩) n c) rows w ws st tb) (j : Nat) (hj : j < rows.length) :
    w.cell? ⟨g, off + j, none⟩ = some (.int .u8 (rows.getD j 0)) := by
  obtain ⟨b, off', c', he, _, _, hc⟩ := h.own.row (by rw [u8s_len']; omega)
  simp only [Value.slice.injEq, Option.some.injEq, Addr.mk.injEq] at he
  obtain ⟨⟨rfl, rfl, _⟩, _, rfl⟩ := he
  exact hc j _ (by simp [u8s, List.getD_eq_getElem?_getD, hj])
theorem RS.cell6 {W0 w : World} {B b6 b7 b8 : Nat} {v : Value} {rows ws st tb : List Int} (h : RS W0 B b6 b7 b8 v rows w ws st tb) (j : Nat) (hj : j < ws.length) : w.cell? ⟨b6, j, none⟩ = some (.int .u32 (ws.getD j 0)) :=
  blk_cell h.h6 j _ (u32s_at ws j hj)
theorem RS.cell7 {W0 w : World} {B b6 b7 b8 : Nat} {v : Value} {rows ws st tb : List Int} (h : RS W0 B b6 b7 b8 v rows w ws st tb) (j : Nat) (hj : j < st.length) : w.cell? ⟨b7, j, none⟩ = some (.int .u32 (st.getD j 0)) :=
  blk_cell h.h7 j _ (u32s_at st j hj)
theorem RS.cell8 {W0 w : World} {B b6 b7 b8 : Nat} {v : Value} {rows ws st tb : List Int} (h : RS W0 B b6 b7 b8 v rows w ws st tb) (j : Nat) (hj : j < tb.length) : w.cell? ⟨b8, j, none⟩ = some (.int .u32 (tb.getD j 0)) :=
  blk_cell h.h8 j _ (u32s_at tb j hj)
theorem sched_pre (bs : List Int) (k d : Nat) : ∀ i, i < 16 + k → (sched bs (k + d)).getD i 0 = (sched bs k).getD i 0 := by
  induction d with
  | zero => intro i _; rfl
  | succ d ih =>
    intro i hi
    rw [← ih i hi, ← Nat.add_assoc, sched, List.getD_eq_getElem?_getD, List.getElem?_append_left (by rw [sched_len]; omega), ← List.getD_eq_getElem?_getD]
theorem sch_pre (bs : List Int) (k i : Nat) (hk : k ≤ 48) (hi : i < 16 + k) : (sch bs).getD i 0 = (sched bs k).getD i 0 := by
  have h := sched_pre bs k (48 - k) i hi
  rw [show k + (48 - k) = 48 by omega] at h
  exact h
theorem sch_len (bs : List Int) : (sch bs).length = 64 := sched_len bs 48
theorem sch_word (bs : List Int) (i : Nat) (hi : i < 16) : (sch bs).getD i 0 = wordAt bs i := by
  rw [sch_pre bs 0 i (by omega) (by omega)]
  simp [sched, words, List.getD_eq_getElem?_getD, hi]
theorem sch_next (bs : List Int) (k : Nat) (hk : k < 48) : (sch bs).getD (16 + k) 0 = ((sch bs).getD k 0 + sg0 ((sch bs).getD (k + 1) 0) + (sch bs).getD (k + 9) 0 + sg1 ((sch bs).getD (k + 14) 0)) % 4294967296 := by
  rw [sch_pre bs (k + 1) (16 + k) (by omega) (by omega), sched, List.getD_eq_getElem?_getD, List.getElem?_append_right (by rw [sched_len]; omega), sched_len, Nat.sub_self]
  rw [sch_pre bs k k (by omega) (by omega), sch_pre bs k (k + 1) (by omega) (by omega), sch_pre bs k (k + 9) (by omega) (by omega), sch_pre bs k (k + 14) (by omega) (by omega)]
  simp only [List.getElem?_cons_zero, Option.getD_some, nextW]
  rw [show 16 + k - 16 = k by omega, show 16 + k - 15 = k + 1 by omega, show 16 + k - 7 = k + 9 by omega, show 16 + k - 2 = k + 14 by omega]
theorem over_lo (xs ys : List Int) (j i n : Nat) (hy : ys.length = n) (hj : j ≤ n) (hi : i < j) : (over xs ys j).getD i 0 = ys.getD i 0 := by
  simp only [over, List.getD_eq_getElem?_getD]
  rw [List.getElem?_append_left (by rw [List.length_take]; omega), List.getElem?_take, if_pos hi]
theorem be8_at (n j : Nat) (hj : j < 8) : (n : Int) * 8 / 2 ^ (56 - 8 * j) % 256 = (be8 n).getD j 0 := by
  have : j = 0 ∨ j = 1 ∨ j = 2 ∨ j = 3 ∨ j = 4 ∨ j = 5 ∨ j = 6 ∨ j = 7 := by omega
  rcases this with rfl | rfl | rfl | rfl | rfl | rfl | rfl | rfl <;> simp [be8]
end Go.Proofs.YtniknhhejlgdfaaGreatDoor
/- The reference's sum: its inner loops as codes of their own. -/
namespace Go.Proofs.YtniknhhejlgdfaaGreatDoor

def loopOf (id : Nat) : Code → Option Code
  | .block i c => if i = id then some c else loopOf id c
  | .loop c => loopOf id c
  | .scope c => loopOf id c
  | .seq a b => match loopOf id a with
    | some c => some c
    | none => loopOf id b
  | .cond _ a b => match loopOf id a with
    | some c => some c
    | none => loopOf id b
  | _ => none
noncomputable def refLoop (id : Nat) : Code := (Tryz.f90.body.bind (loopOf id)).getD .skip
end Go.Proofs.YtniknhhejlgdfaaGreatDoor
/- The reference's sum: what its loops share. -/
namespace Go.Proofs.YtniknhhejlgdfaaGreatDoor
open Go.RowKit

theorem is_call2 {P : Program} {o : Oper} {ρ : Operand → Value} {w : World} {g : Nat} {x y : Operand} {ts : Array TypeId} {a b V : Value} {w' : World} (hen : ∀ args w, (callFunc g args).run P w = .ok (.enter g args) w)
    (ho : o.op = .call { callee := .value (.func g), args := #[x, y], argTypes := ts }) (hv : ρ (.func g) = .func (.func g) #[] #[]) (hx : ρ x = a) (hy : ρ y = b) (h : Calls P g #[a, b] w fun e w'' => e = .returned V ∧ w'' = w') : Cal P o ρ w V w' :=
  is_call (args := [x, y]) (vals := [a, b]) hen ho hv (by rw [List.map_cons, List.map_cons, List.map_nil, hx, hy]) h
theorem flip {P : Program} {g : Nat} {ar : Array Value} {w : World} {V : Value} (h : Calls P g ar w fun e w'' => e = .returned V ∧ w = w'') : Calls P g ar w fun e w'' => e = .returned V ∧ w'' = w := h.mono fun _ _ ⟨a, b⟩ => ⟨a, b.symm⟩
theorem mod_word (a b c d : Int) : IntKind.u32.wrap (IntKind.u32.wrap (IntKind.u32.wrap (a + b) + c) + d) = (a + b + c + d) % 4294967296 := by simp only [IntKind.wrap_u32]; omega
theorem i64_sub (a b : Int) (h0 : 0 ≤ a) (h1 : a ≤ 1000) (h2 : 0 ≤ b) (h3 : b ≤ 1000) : IntKind.i64.wrap (a - b) = a - b := IntWalk.i64_in _ (by omega)
theorem i64_add (a b : Int) (h0 : 0 ≤ a) (h1 : a ≤ 1099511627776) (h2 : 0 ≤ b) (h3 : b ≤ 1099511627776) : IntKind.i64.wrap (a + b) = a + b := IntWalk.i64_in _ (by omega)
theorem i64_mul (a b : Int) (h0 : 0 ≤ a) (h1 : a ≤ 1000) (h2 : 0 ≤ b) (h3 : b ≤ 1000) : IntKind.i64.wrap (a * b) = a * b := by
  have h : 0 ≤ a * b := Int.mul_nonneg h0 h2
  have h' : a * b ≤ 1000 * 1000 := Int.mul_le_mul h1 h3 h2 (by omega)
  exact IntWalk.i64_in _ (by omega)
section
variable {o : Oper} {ρ : Operand → Value} {w : World}
theorem is_conv103 {x : Operand} {a : Int} (ho : o.op = .convert 5 209 x) (hx : ρ x = .int .u8 a) : Val Tryz.prog o ρ w (.int .u32 (IntKind.u32.wrap a)) := by
  have e : Tryz.prog.intKind 209 = .u32 := by kernel_rfl
  have h := is_conv (P := Tryz.prog) (w := w) ho hx (by rw [Tryz.underlying5]; rfl) (by rw [e]; exact Tryz.underlying209)
  rwa [e] at h
end
theorem word_sum (a b c d : Int) (ha : B8 a) (hb : B8 b) (hc : B8 c) (hd : B8 d) :
    IntKind.u32.wrap (IntKind.u32.wrap (IntKind.u32.wrap (IntKind.u32.wrap (IntKind.u32.wrap a * 16777216) + IntKind.u32.wrap (IntKind.u32.wrap b * 65536)) + IntKind.u32.wrap (IntKind.u32.wrap c * 256)) + IntKind.u32.wrap d) = word a b c d := by
  unfold B8 at *
  unfold word
  simp only [IntKind.wrap_u32]
  omega
theorem four_i (i : Nat) (h : i < 16) : IntKind.i64.wrap (4 * (i : Int)) = ((4 * i : Nat) : Int) := (i64_mul 4 i (by omega) (by omega) (by omega) (by omega)).trans (by omega)
theorem four_id (i d : Nat) (h : i < 16) (hd : d < 4) : IntKind.i64.wrap (IntKind.i64.wrap (4 * (i : Int)) + (d : Int)) = ((4 * i + d : Nat) : Int) := by
  rw [four_i i h]
  exact (i64_add _ _ (by omega) (by omega) (by omega) (by omega)).trans (by omega)
structure RV (W0 : World) (B b6 b7 b8 b14 : Nat) (v : Value) (rows : List Int) (w : World) (ws st tb vs : List Int) : Prop where
  rs : RS W0 B b6 b7 b8 v rows w ws st tb
  h14 : w.heap[b14]? = some (.cells (u32s vs).toArray 211 (0, 0))
  lt : b8 < b14
theorem RV.drew {W0 w : World} {B b6 b7 b8 b14 : Nat} {v : Value} {rows ws st tb vs : List Int} (h : RV W0 B b6 b7 b8 b14 v rows w ws st tb vs) : RV W0 B b6 b7 b8 b14 v rows w.drew ws st tb vs := ⟨h.rs.drew, h.h14, h.lt⟩
theorem RS.put {W0 w w1 : World} {B b6 b7 b8 b t : Nat} {v : Value} {rows ws st tb : List Int} {cs : List Value} (h : RS W0 B b6 b7 b8 v rows w ws st tb) (hB : B ≤ b6 ∧ b6 < b7 ∧ b7 < b8) (hb : b8 < b) (hp : Put w b t cs w1) : RS W0 B b6 b7 b8 v rows w1 ws st tb :=
  ⟨h.own.kept (row := some b) ⟨hp.os, hp.tape, hp.output, Nat.le_of_eq hp.size.symm, fun k _ hne => hp.other k (fun e => hne (by rw [e]))⟩ (fun k hk e => by have := h.glt k hk; simp only [Option.some.injEq] at e; omega), h.glt,
    (hp.other _ (by omega)).trans h.h6, (hp.other _ (by omega)).trans h.h7, (hp.other _ (by omega)).trans h.h8, hp.below h.bel (by omega)⟩
theorem RV.put {W0 w w1 : World} {B b6 b7 b8 b14 : Nat} {v : Value} {rows ws st tb vs us : List Int} (h : RV W0 B b6 b7 b8 b14 v rows w ws st tb vs) (hB : B ≤ b6 ∧ b6 < b7 ∧ b7 < b8) (hp : Put w b14 211 (u32s us) w1) : RV W0 B b6 b7 b8 b14 v rows w1 ws st tb us :=
  ⟨h.rs.put hB h.lt hp, hp.blk, h.lt⟩
theorem RV.cell {W0 w : World} {B b6 b7 b8 b14 : Nat} {v : Value} {rows ws st tb vs : List Int} (h : RV W0 B b6 b7 b8 b14 v rows w ws st tb vs) (j : Nat) (x : Int) (hj : vs[j]? = some x) : w.cell? ⟨b14, j, none⟩ = some (.int .u32 x) :=
  blk_cell h.h14 j _ (by simp [u32s, hj])
theorem t1_sum (s : St) (k w : Int) : IntKind.u32.wrap (IntKind.u32.wrap (IntKind.u32.wrap (IntKind.u32.wrap (s.h + big1 s.e) + chs s.e s.f s.g) + k) + w) = s.t1 k w := by
  unfold St.t1
  simp only [IntKind.wrap_u32]
  omega
theorem t2_sum (s : St) : IntKind.u32.wrap (big0 s.a + maj s.a s.b s.c) = s.t2 := by
  unfold St.t2
  exact IntKind.wrap_u32 _
section
variable {o : Oper} {ρ : Operand → Value} {w : World}
theorem is_build105 {t : TypeId} {x0 x1 x2 x3 x4 x5 x6 x7 : Operand} {v0 v1 v2 v3 v4 v5 v6 v7 : Int} (ht : t = 211) (ho : o.op = .build t #[(0, x0), (1, x1), (2, x2), (3, x3), (4, x4), (5, x5), (6, x6), (7, x7)])
    (h0 : ρ x0 = .int .u32 v0) (h1 : ρ x1 = .int .u32 v1) (h2 : ρ x2 = .int .u32 v2) (h3 : ρ x3 = .int .u32 v3) (h4 : ρ x4 = .int .u32 v4) (h5 : ρ x5 = .int .u32 v5) (h6 : ρ x6 = .int .u32 v6) (h7 : ρ x7 = .int .u32 v7) :
    Val Tryz.prog o ρ w (.agg (u32s [v0, v1, v2, v3, v4, v5, v6, v7]).toArray) := by
  subst ht
  unfold Val execOp
  simp only [ho, List.map_toArray, List.map_cons, List.map_nil, h0, h1, h2, h3, h4, h5, h6, h7, Sem.run_bind]
  go_simp
  rfl
end
def regOf (id : Nat) : Code → Option Code
  | .region i ops b => if i = id then some (.region i ops b) else none
  | .block _ c => regOf id c
  | .loop c => regOf id c
  | .scope c => regOf id c
  | .seq a b => match regOf id a with
    | some c => some c
    | none => regOf id b
  | .cond _ a b => match regOf id a with
    | some c => some c
    | none => regOf id b
  | _ => none
noncomputable def refReg (id : Nat) : Code := (Tryz.f90.body.bind (regOf id)).getD .skip
def Wr (a b x t : Nat) : Bool := t == x || (a ≤ t && t ≤ b)
theorem Wr_false {a b x t : Nat} (h1 : t ≠ x) (h2 : t < a ∨ b < t) : Wr a b x t = false := by
  simp only [Wr, Bool.or_eq_false_iff, beq_eq_false_iff_ne, Bool.and_eq_false_iff, decide_eq_false_iff_not]
  exact ⟨h1, by omega⟩
def W12 (t : Nat) : Bool := (15 ≤ t && t ≤ 19) || (147 ≤ t && t ≤ 236)
def W8 (t : Nat) : Bool := t == 10 || (66 ≤ t && t ≤ 104)
def W10 (t : Nat) : Bool := (11 ≤ t && t ≤ 13) || (105 ≤ t && t ≤ 145)
end Go.Proofs.YtniknhhejlgdfaaGreatDoor
/- The reference's sum: the loop that reads the words. -/
namespace Go.Proofs.YtniknhhejlgdfaaGreatDoor
open Go.RowKit

set_option maxHeartbeats 4000000 in
set_option maxRecDepth 100000 in
theorem loop8 (W0 : World) (B b6 b7 b8 b off n c : Nat) (rows ws bs st : List Int) (hwl : ws.length = 64) (hbb : ∀ b ∈ bs, B8 b) (HO1 : B ≤ b6 ∧ b6 < b7 ∧ b7 < b8) (hn : rows.length = n) (hn64 : 64 ≤ n) (hat : ∀ i, i < 64 → rows.getD i 0 = bs.getD i 0)
    (f : Nat → Value) (h4 : f 4 = .slice (some ⟨b, off, none⟩) n c) (h6 : f 6 = .pointer (some ⟨b6, 0, none⟩)) (h10 : f 10 = .int .i64 0)
    (Q : Exit → Act → World → Prop) (w : World) (hrs : RS W0 B b6 b7 b8 (.slice (some ⟨b, off, none⟩) n c) rows w ws st kk)
    (hexit : ∀ g w', Same W8 f g → RS W0 B b6 b7 b8 (.slice (some ⟨b, off, none⟩) n c) rows w' (over ws (sch bs) 16) st kk → Q (.exit 8) (frm 270 g) w') : Code.wp Tryz.prog (refLoop 8) Q (frm 270 f) w := by
  refine wp_loop (fun a w' => ∃ (g : Nat → Value) (i : Nat), a = frm 270 g ∧ i ≤ 16 ∧ Same W8 f g ∧ g 10 = .int .i64 (i : Int) ∧ RS W0 B b6 b7 b8 (.slice (some ⟨b, off, none⟩) n c) rows w' (over ws (sch bs) i) st kk)
    (fun a _ => 64 - (intOf (a.eval (.tmp 10))).toNat) ⟨f, 0, rfl, by omega, Same.refl _ _, h10, by rw [over_zero]; exact hrs⟩ ?_
  rintro a wr ⟨g, i, rfl, hk, hs, e10, hrs⟩
  have e6 : g 6 = .pointer (some ⟨b6, 0, none⟩) := (hs 6 rfl).trans h6
  have e4 : g 4 = .slice (some ⟨b, off, none⟩) n c := (hs 4 rfl).trans h4
  refine wp_seq (wp_seq ?_)
  refine wp_region_lit ?_
  refine plv rfl (is_move (.inl rfl) (frm_tmp (by decide) e10)) ?_
  refine plv rfl (is_lss rfl (frm_tmp (by decide) rfl) rfl) ?_
  refine wpList_nil ?_
  change Code.wp _ _ _ _ _
  by_cases hlt : i < 16
  · refine wp_cond_true (frm_tmp (by decide) (congrArg Value.bool (decide_eq_true (by omega)))) (wp_skip ?_)
    change Code.wp _ _ _ _ _
    refine wp_seq (wp_block ?_)
    obtain ⟨x0, hx0⟩ : ∃ x, x = bs.getD (4 * i) 0 := ⟨_, rfl⟩
    obtain ⟨x1, hx1⟩ : ∃ x, x = bs.getD (4 * i + 1) 0 := ⟨_, rfl⟩
    obtain ⟨x2, hx2⟩ : ∃ x, x = bs.getD (4 * i + 2) 0 := ⟨_, rfl⟩
    obtain ⟨x3, hx3⟩ : ∃ x, x = bs.getD (4 * i + 3) 0 := ⟨_, rfl⟩
    have r0 : B8 x0 := hx0 ▸ byte_at hbb _
    have r1 : B8 x1 := hx1 ▸ byte_at hbb _
    have r2 : B8 x2 := hx2 ▸ byte_at hbb _
    have r3 : B8 x3 := hx3 ▸ byte_at hbb _
    have cc : ∀ d, d < 64 → wr.drew.cell? ⟨b, off + d, none⟩ = some (.int .u8 (bs.getD d 0)) := fun d hd => by rw [hrs.drew.byte d (by omega), hat d hd]
    have c0 : wr.drew.cell? ⟨b, off + 4 * i, none⟩ = some (.int .u8 x0) := (cc (4 * i) (by omega)).trans (by rw [hx0])
    have c1 : wr.drew.cell? ⟨b, off + (4 * i + 1), none⟩ = some (.int .u8 x1) := (cc (4 * i + 1) (by omega)).trans (by rw [hx1])
    have c2 : wr.drew.cell? ⟨b, off + (4 * i + 2), none⟩ = some (.int .u8 x2) := (cc (4 * i + 2) (by omega)).trans (by rw [hx2])
    have c3 : wr.drew.cell? ⟨b, off + (4 * i + 3), none⟩ = some (.int .u8 x3) := (cc (4 * i + 3) (by omega)).trans (by rw [hx3])
    have hol : (over ws (sch bs) i).length = 64 := over_len _ _ _ 64 hwl (sch_len bs) (by omega)
    obtain ⟨z0, q0⟩ : ∃ z, wr.drew.cell? ⟨b6, i, none⟩ = some z := ⟨_, hrs.drew.cell6 i (by omega)⟩
    have q1 : wr.drew.frozen? ⟨b6, i, none⟩ = false := blk_free hrs.drew.h6 i
    · refine wp_region_still_tail 34 (by kernel_rfl) (by kernel_rfl) ?_
      change wpStill _ _ wr.drew _ _ _
      simp only [List.take_succ_cons, List.take_zero, List.drop_succ_cons, List.drop_zero]
      refine stv rfl (is_move (.inl rfl) (frm_tmp (by decide) e10)) ?_
      refine stv rfl (is_move (.inl rfl) (frm_tmp (by decide) e4)) ?_
      refine stv rfl (is_move (.inl rfl) (frm_tmp (by decide) e10)) ?_
      refine stv rfl (is_mul rfl rfl (frm_tmp (by decide) rfl)) ?_
      refine stv rfl (is_idx22 (4 * i) (four_i i hlt) (by omega) rfl (frm_tmp (by decide) rfl) (frm_tmp (by decide) rfl)) ?_
      refine stv rfl (is_load5 rfl (frm_tmp (by decide) rfl) c0) ?_
      refine stv rfl (is_conv103 rfl (frm_tmp (by decide) rfl)) ?_
      refine stv rfl (is_mul rfl (frm_tmp (by decide) rfl) rfl) ?_
      refine stv rfl (is_move (.inl rfl) (frm_tmp (by decide) e4)) ?_
      refine stv rfl (is_move (.inl rfl) (frm_tmp (by decide) e10)) ?_
      refine stv rfl (is_mul rfl rfl (frm_tmp (by decide) rfl)) ?_
      refine stv rfl (is_add rfl (frm_tmp (by decide) rfl) rfl) ?_
      refine stv rfl (is_idx22 (4 * i + 1) (four_id i 1 hlt (by omega)) (by omega) rfl (frm_tmp (by decide) rfl) (frm_tmp (by decide) rfl)) ?_
      refine stv rfl (is_load5 rfl (frm_tmp (by decide) rfl) c1) ?_
      refine stv rfl (is_conv103 rfl (frm_tmp (by decide) rfl)) ?_
      refine stv rfl (is_mul rfl (frm_tmp (by decide) rfl) rfl) ?_
      refine stv rfl (is_add rfl (frm_tmp (by decide) rfl) (frm_tmp (by decide) rfl)) ?_
      refine stv rfl (is_move (.inl rfl) (frm_tmp (by decide) e4)) ?_
      refine stv rfl (is_move (.inl rfl) (frm_tmp (by decide) e10)) ?_
      refine stv rfl (is_mul rfl rfl (frm_tmp (by decide) rfl)) ?_
      refine stv rfl (is_add rfl (frm_tmp (by decide) rfl) rfl) ?_
      refine stv rfl (is_idx22 (4 * i + 2) (four_id i 2 hlt (by omega)) (by omega) rfl (frm_tmp (by decide) rfl) (frm_tmp (by decide) rfl)) ?_
      refine stv rfl (is_load5 rfl (frm_tmp (by decide) rfl) c2) ?_
      refine stv rfl (is_conv103 rfl (frm_tmp (by decide) rfl)) ?_
      refine stv rfl (is_mul rfl (frm_tmp (by decide) rfl) rfl) ?_
      refine stv rfl (is_add rfl (frm_tmp (by decide) rfl) (frm_tmp (by decide) rfl)) ?_
      refine stv rfl (is_move (.inl rfl) (frm_tmp (by decide) e4)) ?_
      refine stv rfl (is_move (.inl rfl) (frm_tmp (by decide) e10)) ?_
      refine stv rfl (is_mul rfl rfl (frm_tmp (by decide) rfl)) ?_
      refine stv rfl (is_add rfl (frm_tmp (by decide) rfl) rfl) ?_
      refine stv rfl (is_idx22 (4 * i + 3) (four_id i 3 hlt (by omega)) (by omega) rfl (frm_tmp (by decide) rfl) (frm_tmp (by decide) rfl)) ?_
      refine stv rfl (is_load5 rfl (frm_tmp (by decide) rfl) c3) ?_
      refine stv rfl (is_conv103 rfl (frm_tmp (by decide) rfl)) ?_
      refine stv rfl (is_add rfl (frm_tmp (by decide) rfl) (frm_tmp (by decide) rfl)) ?_
      refine wpStill_nil ?_
      refine plv rfl (is_idx104 i rfl (by omega) rfl (frm_tmp (by decide) e6) (frm_tmp (by decide) rfl)) ?_
      refine plw rfl (is_store103 rfl (frm_tmp (by decide) rfl) (frm_tmp (by decide) rfl) q0 q1) ?_
      refine wpList_nil ?_
      change Code.wp _ _ _ _ _
      generalize hl : updO _ none _ = l
      have sl : Same W8 f l := by rw [← hl]; refine Same.none _ ?_; repeat (first | exact hs | refine Same.some rfl _ ?_)
      have l10 : l 10 = .int .i64 (i : Int) := by rw [← hl]; exact e10
      clear hl
      refine wp_region_lit ?_
      refine plv rfl (is_move (.inl rfl) (frm_tmp (by decide) l10)) ?_
      refine plv rfl (is_add rfl (frm_tmp (by decide) rfl) rfl) ?_
      refine plv rfl (is_move (.inr rfl) (frm_tmp (by decide) rfl)) ?_
      refine wpList_nil ?_
      refine ⟨⟨_, i + 1, rfl, by omega, ?_, ?_, ?_⟩, ?_⟩
      · repeat (first | exact sl | refine Same.some rfl _ ?_)
      · exact congrArg (Value.int .i64) ((i64_add _ _ (by omega) (by omega) (by omega) (by omega)).trans (by omega))
      · have h := hrs.drew.set6 HO1 i ((sch bs).getD i 0)
        rw [over_set ws (sch bs) i 64 hwl (sch_len bs) (by omega), sch_word bs i hlt, wordAt, ← hx0, ← hx1, ← hx2, ← hx3, ← word_sum x0 x1 x2 x3 r0 r1 r2 r3] at h
        exact h
      · rw [frm_tmp (v := .int .i64 ((i : Int) + 1)) (by decide) (congrArg (Value.int .i64) (i64_add _ _ (by omega) (by omega) (by omega) (by omega))), frm_tmp (by decide) e10]
        simp [intOf]
        omega
  · obtain rfl : i = 16 := by omega
    refine wp_cond_false (frm_tmp (by decide) (congrArg Value.bool (decide_eq_false (by omega)))) (wp_exit ?_)
    refine hexit _ _ ?_ hrs
    repeat (first | exact hs | refine Same.some rfl _ ?_)
end Go.Proofs.YtniknhhejlgdfaaGreatDoor
/- The reference's sum: the loop that fills the words in. -/
namespace Go.Proofs.YtniknhhejlgdfaaGreatDoor
open Go.RowKit

set_option maxHeartbeats 4000000 in
set_option maxRecDepth 100000 in
theorem loop10 (W0 : World) (B b6 b7 b8 : Nat) (v : Value) (rows ws bs st : List Int) (hwl : ws.length = 64) (hbb : ∀ b ∈ bs, B8 b) (HO1 : B ≤ b6 ∧ b6 < b7 ∧ b7 < b8) (f : Nat → Value) (h6 : f 6 = .pointer (some ⟨b6, 0, none⟩)) (h11 : f 11 = .int .i64 16)
    (Q : Exit → Act → World → Prop) (w : World) (hrs : RS W0 B b6 b7 b8 v rows w (over ws (sch bs) 16) st kk)
    (hexit : ∀ g w', Same W10 f g → RS W0 B b6 b7 b8 v rows w' (sch bs) st kk → Q (.exit 10) (frm 270 g) w') : Code.wp Tryz.prog (refLoop 10) Q (frm 270 f) w := by
  refine wp_loop (fun a w' => ∃ (g : Nat → Value) (k : Nat), a = frm 270 g ∧ k ≤ 48 ∧ Same W10 f g ∧ g 11 = .int .i64 (16 + (k : Int)) ∧ RS W0 B b6 b7 b8 v rows w' (over ws (sch bs) (16 + k)) st kk)
    (fun a _ => 64 - (intOf (a.eval (.tmp 11))).toNat) ⟨f, 0, rfl, by omega, Same.refl _ _, h11, hrs⟩ ?_
  rintro a wr ⟨g, k, rfl, hk, hs, e11, hrs⟩
  have e6 : g 6 = .pointer (some ⟨b6, 0, none⟩) := (hs 6 rfl).trans h6
  refine wp_seq (wp_seq ?_)
  refine wp_region_lit ?_
  refine plv rfl (is_move (.inl rfl) (frm_tmp (by decide) e11)) ?_
  refine plv rfl (is_lss rfl (frm_tmp (by decide) rfl) rfl) ?_
  refine wpList_nil ?_
  change Code.wp _ _ _ _ _
  by_cases hlt : k < 48
  · refine wp_cond_true (frm_tmp (by decide) (congrArg Value.bool (decide_eq_true (by omega)))) (wp_skip ?_)
    change Code.wp _ _ _ _ _
    refine wp_seq (wp_block (wp_seq ?_))
    obtain ⟨xa, hxa⟩ : ∃ x, x = (sch bs).getD k 0 := ⟨_, rfl⟩
    obtain ⟨xb, hxb⟩ : ∃ x, x = (sch bs).getD (k + 1) 0 := ⟨_, rfl⟩
    obtain ⟨xc, hxc⟩ : ∃ x, x = (sch bs).getD (k + 9) 0 := ⟨_, rfl⟩
    obtain ⟨xd, hxd⟩ : ∃ x, x = (sch bs).getD (k + 14) 0 := ⟨_, rfl⟩
    have sr : ∀ x ∈ sch bs, U x := sched_range hbb 48
    have rb : U xb := hxb ▸ getD_range sr _
    have rd : U xd := hxd ▸ getD_range sr _
    have hol : (over ws (sch bs) (16 + k)).length = 64 := over_len _ _ _ 64 hwl (sch_len bs) (by omega)
    have at_ : ∀ j, j < 16 + k → wr.drew.cell? ⟨b6, j, none⟩ = some (.int .u32 ((sch bs).getD j 0)) := fun j hj => by
      rw [hrs.drew.cell6 j (by omega), over_lo ws (sch bs) (16 + k) j 64 (sch_len bs) (by omega) hj]
    have qa : wr.drew.drew.cell? ⟨b6, k, none⟩ = some (.int .u32 xa) := (at_ k (by omega)).trans (by rw [hxa])
    have ca : wr.drew.cell? ⟨b6, k + 1, none⟩ = some (.int .u32 xb) := (at_ (k + 1) (by omega)).trans (by rw [hxb])
    have qc : wr.drew.drew.cell? ⟨b6, k + 9, none⟩ = some (.int .u32 xc) := (at_ (k + 9) (by omega)).trans (by rw [hxc])
    have cd : wr.drew.cell? ⟨b6, k + 14, none⟩ = some (.int .u32 xd) := (at_ (k + 14) (by omega)).trans (by rw [hxd])
    obtain ⟨z0, q0⟩ : ∃ z, wr.drew.drew.cell? ⟨b6, 16 + k, none⟩ = some z := ⟨_, hrs.drew.drew.cell6 (16 + k) (by omega)⟩
    have q1 : wr.drew.drew.frozen? ⟨b6, 16 + k, none⟩ = false := blk_free hrs.drew.drew.h6 (16 + k)
    have hnx : (sch bs).getD (16 + k) 0 = (xa + sg0 xb + xc + sg1 xd) % 4294967296 := by rw [sch_next bs k hlt, hxa, hxb, hxc, hxd]
    · refine wp_region_still_lit (by kernel_rfl) (by kernel_rfl) ?_
      change wpStill _ _ wr.drew _ _ _
      refine stv rfl (is_move (.inl rfl) (frm_tmp (by decide) e11)) ?_
      refine stv rfl (is_sub rfl (frm_tmp (by decide) rfl) rfl) ?_
      refine stv rfl (is_idx104 (k + 1) (by rw [i64_sub _ _ (by omega) (by omega) (by omega) (by omega)]; omega) (by omega) rfl (frm_tmp (by decide) e6) (frm_tmp (by decide) rfl)) ?_
      refine stv rfl (is_load103 rfl (frm_tmp (by decide) rfl) ca) ?_
      refine stv rfl (is_move (.inl rfl) (frm_tmp (by decide) e11)) ?_
      refine stv rfl (is_sub rfl (frm_tmp (by decide) rfl) rfl) ?_
      refine stv rfl (is_idx104 (k + 14) (by rw [i64_sub _ _ (by omega) (by omega) (by omega) (by omega)]; omega) (by omega) rfl (frm_tmp (by decide) e6) (frm_tmp (by decide) rfl)) ?_
      refine stv rfl (is_load103 rfl (frm_tmp (by decide) rfl) cd) ?_
      refine stv rfl (is_move (.inr rfl) (frm_tmp (by decide) rfl)) ?_
      refine stv rfl (is_move (.inr rfl) (frm_tmp (by decide) rfl)) ?_
      refine wpStill_nil ?_
      change Code.wp _ _ _ _ wr.drew
      generalize hi : updO _ (some 13) _ = i
      have i12 : i 12 = .int .u32 xb := by rw [← hi]; rfl
      have i13 : i 13 = .int .u32 xd := by rw [← hi]; rfl
      have si : Same W10 f i := by rw [← hi]; repeat (first | exact hs | refine Same.some rfl _ ?_)
      have i11 : i 11 = .int .i64 (16 + (k : Int)) := by rw [← hi]; exact e11
      have i6 : i 6 = .pointer (some ⟨b6, 0, none⟩) := (si 6 rfl).trans h6
      clear hi
      refine wp_region_still_tail 28 (by kernel_rfl) (by kernel_rfl) ?_
      change wpStill _ _ wr.drew.drew _ _ _
      simp only [List.take_succ_cons, List.take_zero, List.drop_succ_cons, List.drop_zero]
      refine stv rfl (is_move (.inl rfl) (frm_tmp (by decide) i11)) ?_
      refine stv rfl (is_move (.inl rfl) (frm_tmp (by decide) i11)) ?_
      refine stv rfl (is_sub rfl (frm_tmp (by decide) rfl) rfl) ?_
      refine stv rfl (is_idx104 k (by rw [i64_sub _ _ (by omega) (by omega) (by omega) (by omega)]; omega) (by omega) rfl (frm_tmp (by decide) i6) (frm_tmp (by decide) rfl)) ?_
      refine stv rfl (is_load103 rfl (frm_tmp (by decide) rfl) qa) ?_
      refine stv rfl (is_move (.inl rfl) (frm_tmp (by decide) i12)) ?_
      refine stc rfl (is_call2 Tryz.call114 rfl rfl (frm_tmp (by decide) rfl) rfl (flip (right_7 _ rb.1 rb.2 _))) ?_
      refine stv rfl (is_move (.inl rfl) (frm_tmp (by decide) i12)) ?_
      refine stc rfl (is_call2 Tryz.call114 rfl rfl (frm_tmp (by decide) rfl) rfl (flip (right_18 _ rb.1 rb.2 _))) ?_
      refine stv rfl (is_xor rfl (frm_tmp (by decide) rfl) (frm_tmp (by decide) rfl)) ?_
      refine stv rfl (is_move (.inl rfl) (frm_tmp (by decide) i12)) ?_
      refine stv rfl (is_shr3 rfl (frm_tmp (by decide) rfl) rfl) ?_
      refine stv rfl (is_xor rfl (frm_tmp (by decide) rfl) (frm_tmp (by decide) rfl)) ?_
      refine stv rfl (is_add rfl (frm_tmp (by decide) rfl) (frm_tmp (by decide) rfl)) ?_
      refine stv rfl (is_move (.inl rfl) (frm_tmp (by decide) i11)) ?_
      refine stv rfl (is_sub rfl (frm_tmp (by decide) rfl) rfl) ?_
      refine stv rfl (is_idx104 (k + 9) (by rw [i64_sub _ _ (by omega) (by omega) (by omega) (by omega)]; omega) (by omega) rfl (frm_tmp (by decide) i6) (frm_tmp (by decide) rfl)) ?_
      refine stv rfl (is_load103 rfl (frm_tmp (by decide) rfl) qc) ?_
      refine stv rfl (is_add rfl (frm_tmp (by decide) rfl) (frm_tmp (by decide) rfl)) ?_
      refine stv rfl (is_move (.inl rfl) (frm_tmp (by decide) i13)) ?_
      refine stc rfl (is_call2 Tryz.call114 rfl rfl (frm_tmp (by decide) rfl) rfl (flip (right_17 _ rd.1 rd.2 _))) ?_
      refine stv rfl (is_move (.inl rfl) (frm_tmp (by decide) i13)) ?_
      refine stc rfl (is_call2 Tryz.call114 rfl rfl (frm_tmp (by decide) rfl) rfl (flip (right_19 _ rd.1 rd.2 _))) ?_
      refine stv rfl (is_xor rfl (frm_tmp (by decide) rfl) (frm_tmp (by decide) rfl)) ?_
      refine stv rfl (is_move (.inl rfl) (frm_tmp (by decide) i13)) ?_
      refine stv rfl (is_shr10 rfl (frm_tmp (by decide) rfl) rfl) ?_
      refine stv rfl (is_xor rfl (frm_tmp (by decide) rfl) (frm_tmp (by decide) rfl)) ?_
      refine stv rfl (is_add rfl (frm_tmp (by decide) rfl) (frm_tmp (by decide) rfl)) ?_
      refine wpStill_nil ?_
      refine plv rfl (is_idx104 (16 + k) (by omega) (by omega) rfl (frm_tmp (by decide) i6) (frm_tmp (by decide) rfl)) ?_
      refine plw rfl (is_store103 rfl (frm_tmp (by decide) rfl) (frm_tmp (by decide) rfl) q0 q1) ?_
      refine wpList_nil ?_
      change Code.wp _ _ _ _ _
      generalize hl : updO _ none _ = l
      have sl : Same W10 f l := by rw [← hl]; refine Same.none _ ?_; repeat (first | exact si | refine Same.some rfl _ ?_)
      have l11 : l 11 = .int .i64 (16 + (k : Int)) := by rw [← hl]; exact i11
      clear hl
      refine wp_region_lit ?_
      refine plv rfl (is_move (.inl rfl) (frm_tmp (by decide) l11)) ?_
      refine plv rfl (is_add rfl (frm_tmp (by decide) rfl) rfl) ?_
      refine plv rfl (is_move (.inr rfl) (frm_tmp (by decide) rfl)) ?_
      refine wpList_nil ?_
      refine ⟨⟨_, k + 1, rfl, by omega, ?_, ?_, ?_⟩, ?_⟩
      · repeat (first | exact sl | refine Same.some rfl _ ?_)
      · exact congrArg (Value.int .i64) ((i64_add _ _ (by omega) (by omega) (by omega) (by omega)).trans (by omega))
      · have h := hrs.drew.drew.set6 HO1 (16 + k) ((sch bs).getD (16 + k) 0)
        rw [over_set ws (sch bs) (16 + k) 64 hwl (sch_len bs) (by omega), hnx] at h
        have e := mod_word xa (sg0 xb) xc (sg1 xd)
        rw [← e] at h
        exact h
      · rw [frm_tmp (v := .int .i64 (16 + (k : Int) + 1)) (by decide) (congrArg (Value.int .i64) (i64_add _ _ (by omega) (by omega) (by omega) (by omega))), frm_tmp (by decide) e11]
        simp [intOf]
        omega
  · obtain rfl : k = 48 := by omega
    refine wp_cond_false (frm_tmp (by decide) (congrArg Value.bool (decide_eq_false (by omega)))) (wp_exit ?_)
    refine hexit _ _ ?_ ?_
    · repeat (first | exact hs | refine Same.some rfl _ ?_)
    · have h := hrs
      rw [over_all ws (sch bs) 64 hwl (sch_len bs)] at h
      exact h
end Go.Proofs.YtniknhhejlgdfaaGreatDoor
