/- Lemmas that laws of this seat rest on, part 7; each says its own conditions: Wide, Rely2In, Rely3, Rely5, PubIt, RecIt. -/
import Derived.RangeFuncNested
import Derived.RangeFuncBound
import Derived.RangeFuncCalls
import Derived.RangeFuncLeaves
import Derived.Shelf.Abstract
import Derived.Shelf.RegionOpen
import Derived.WalkKit
import Derived.OwnWalkIn
import Derived.TacticsInMore
import Derived.LoopNIn
import Derived.LoopIn
import Derived.OrdersIn
import Derived.Test.YtdedphhohiioiaaDoorBase1
import Derived.Test.YtdedphhohiioiaaDoorBase6
/- Plain steps within a fence that shuts nothing out, and within a round. -/
namespace Go.Proofs.YtdedphhohiioiaaDoor
open Go.RowKit

/-- A fence that shuts nothing out, in a round or in none. -/
def AtRound (ro : Option Nat) : Fence := { Fence.wide with round := ro }
theorem atRound_none : AtRound none = Fence.wide := rfl
theorem atRound_some (l : Nat) : AtRound (some l) = Fence.wide.inRound l := rfl
theorem wideF : ∃ ro, Fence.wide = AtRound ro := ⟨none, rfl⟩
theorem roundF (l : Nat) : ∃ ro, Fence.wide.inRound l = AtRound ro := ⟨some l, rfl⟩

section
variable {n : Nat} {P : Program} {ops : Array Oper} {Q : Exit → Act → World → Prop} {a : Act} {w : World} {rest : List Oper} {o : Oper}

theorem operIn_of (ro : Option Nat) {next : Act → World → Prop} (hnd : ∀ c, o.op ≠ .defer c) (h : o.wp P a w next Q) : o.wpIn (AtRound ro) n P a w next Q := by
  have hsem : o.semAt ro a.eval = execOp a.eval o := Oper.semAt_eq ro a.eval o hnd
  refine ⟨fun _ _ => trivial, ?_⟩
  show o.uponIn (AtRound ro) n P a next Q ((o.semAt ro a.eval).run P w)
  rw [hsem]
  unfold Oper.wp at h
  generalize (execOp a.eval o).run P w = r at h ⊢
  unfold Oper.upon at h
  split at h
  · exact h
  · exact h
  · exact h
  · exact ⟨fun hd => (by cases hd), callsIn_wide.2 h⟩
  · exact ⟨fun hd => (by cases hd), fun c cs _ => let ⟨v, w', r, s⟩ := h c cs; ⟨v, w', r, stepsIn_wide.2 s⟩⟩
  · exact h
  · exact h.elim

/-- One operation that is wanted, by a plain step. -/
theorem wpListIn_op (ro : Option Nat) (hw : Region.wanted o (yielded ops a.tmps) = true) (hnd : ∀ c, o.op ≠ .defer c)
    (h : ∀ K : Act → World → Prop, (∀ a w, wpListIn (AtRound ro) n P ops Q rest a w → K a w) → o.wp P a w K Q) : wpListIn (AtRound ro) n P ops Q (o :: rest) a w := by
  simp only [wpListIn, hw, if_true]
  exact operIn_of ro hnd (h _ (fun _ _ h => h))

/-- A list of operations, by plain steps. -/
theorem wpListIn_of (ro : Option Nat) (hQ : ¬ LetsOut Q) : ∀ (l : List Oper), (∀ o ∈ l, ∀ c, o.op ≠ .defer c) → ∀ (a : Act) (w : World), wpList P ops Q l a w → wpListIn (AtRound ro) n P ops Q l a w
  | [], _, a, w, h => h
  | o :: rest, hl, a, w, h => by
    have ih := wpListIn_of ro hQ rest (fun x hx => hl x (List.mem_cons_of_mem _ hx))
    simp only [wpList] at h
    simp only [wpListIn]
    split at h
    · rename_i hw
      rw [if_pos hw]
      rcases h with h | h
      · exact operIn_of ro (hl o (by simp)) (Oper.wp_mono ih h)
      · exact absurd h.2 hQ
    · rename_i hw
      rw [if_neg hw]
      exact ⟨fun _ _ => trivial, ih _ _ h⟩

theorem wpListIn_plainly {F : Fence} (hF : ∃ ro, F = AtRound ro) (hQ : ¬ LetsOut Q) (l : List Oper) (hl : ∀ o ∈ l, ∀ c, o.op ≠ .defer c) (a : Act) (w : World) (h : wpList P ops Q l a w) : wpListIn F n P ops Q l a w := by
  obtain ⟨ro, rfl⟩ := hF
  exact wpListIn_of ro hQ l hl a w h

theorem wpListIn_load_g {F : Fence} (hF : ∃ ro, F = AtRound ro) (hw : Region.wanted o (yielded ops a.tmps) = true) (ty : TypeId) (x : Operand) (ho : o.op = .load ty x)
    (b f : Nat) (hx : a.eval x = .pointer (some ⟨b, f, none⟩)) (cs : List Value) (d : TypeDesc) (hc : w.rangeAt b f cs)
    (hu : P.underlying ty = some d) (hd : d.isRow = true) (hi : (P.info? ty).map (·.size) = some cs.length)
    (h : wpListIn F n P ops Q rest (a.put o.dst (.agg cs.toArray)) w) : wpListIn F n P ops Q (o :: rest) a w := by
  obtain ⟨ro, rfl⟩ := hF
  exact wpListIn_op ro hw (fun c e => by rw [ho] at e; cases e) fun _ hK => wp_load_mid ty x ho b f hx cs d hc hu hd hi (hK _ _ h)

theorem wpListIn_store_row {F : Fence} (hF : ∃ ro, F = AtRound ro) (hw : Region.wanted o (yielded ops a.tmps) = true) (ty : TypeId) (x y : Operand) (ho : o.op = .store ty x y)
    (b : Nat) (hx : a.eval x = .pointer (some ⟨b, 0, none⟩)) (cs : List Value) (hy : a.eval y = .agg cs.toArray) (t : Nat) (hb : Has w b t cs.length)
    (hi : (P.info? ty).map (·.size) = some cs.length) (h1 : ∀ v ∈ cs, v.oneCell' = true)
    (h : ∀ w1, Put w b t cs w1 → wpListIn F n P ops Q rest (a.put o.dst undef) w1) : wpListIn F n P ops Q (o :: rest) a w := by
  obtain ⟨Z, hz, hZ⟩ := hb
  obtain ⟨ro, rfl⟩ := hF
  refine wpListIn_op ro hw (fun c e => by rw [ho] at e; cases e) fun K hK => ?_
  have hr := run_storeVar_row (P := P) w b t ty Z cs.toArray hZ (by simpa using hi) (by simpa using hz) (Array.all_eq_true_iff_forall_mem.2 (fun v hv => h1 v (by simpa using hv)))
  unfold Oper.wp execOp
  simp only [ho, hx, hy, Instr.storeAt, Instr.sureAddr, Sem.run_bind, Sem.run_pure, Result.andThen_ok, hr]
  refine hK _ _ (h _ ⟨setRow_heap w b Z _ t _ hZ, fun k hk => setRow_other w b k _ hk, by simp, rfl, rfl, rfl⟩)
end
end Go.Proofs.YtdedphhohiioiaaDoor
/- Regions that draw their order, within a fence that shuts nothing out or within a round. -/
namespace Go.Proofs.YtdedphhohiioiaaDoor
open Go.RowKit

section
variable {P : Program} {ops : Array Oper} {E : World → World → Prop} {R : Nat → World → Value → Prop} {w0 : World} {Q : Exit → Act → World → Prop} {a0 : Act}
/-- The law, at the orders. -/
theorem wpAny_rely2 {l : List Oper} {a : Act} {w : World} (m : Nat) (hs : sane l.toArray = true) (ht : tailOk2 l.toArray m = true)
    (E : World → World → Prop) (hE0 : ∀ w, E w w) (hE : ∀ {a b c}, E a b → E b c → E a c)
    (R : Nat → World → Value → Prop) (h : Rely P l.toArray E R w.drew Q (l.drop m) 0 (fun _ => a) (l.take m)) : wpAny P .any l.toArray Q l.toArray.size (Array.replicate l.toArray.size false) a w.drew := by
  obtain ⟨h1, h2⟩ := rely_get (l.take m) 0 _ h
  obtain ⟨hmn, _⟩ := tailOk2_spec ht
  have hmn' : m ≤ l.length := by simpa using hmn
  have h0 : ∀ j, (Array.replicate l.toArray.size false).getD j false = false := by
    intro j
    simp only [Array.getD_eq_getD_getElem?, Array.getElem?_replicate]
    split <;> rfl
  have hmix : ∀ vs : Nat → Value, mix (fun j => (Array.replicate l.toArray.size false).getD j false) vs 0 l.toArray.toList a = a := by
    intro vs
    refine act_ext (by simp [mix_size]) (by simp [mix_defers]) (fun t => ?_)
    rw [mix_get, lastW_none _ _ _ _ _ (fun j o _ _ => h0 _)]
  have hdrop : ∀ (L : Nat → Bool) (vs : Nat → Value) (t : Nat), (∀ j, L j = true → j < m) → lastW L vs t 0 l = lastW L vs t 0 (l.take m) := by
    intro L vs t hL
    have gen : ∀ (l1 l2 : List Oper) (i : Nat), (∀ j, L j = true → j < i + l1.length) → lastW L vs t i (l1 ++ l2) = lastW L vs t i l1 := by
      intro l1
      induction l1 with
      | nil =>
        intro l2 i hj
        rw [List.nil_append, lastW_none L vs t l2 i (fun j o _ _ => by
          cases hb : L (i + j) with
          | false => rfl
          | true => have h9 := hj _ hb; simp only [List.length_nil] at h9; omega)]
        rfl
      | cons o l1 ih =>
        intro l2 i hj
        simp only [List.cons_append, lastW]
        rw [ih l2 (i + 1) (fun j h => by have := hj j h; simp only [List.length_cons] at this; omega)]
    have := gen (l.take m) (l.drop m) 0 (fun j h => by have := hL j h; simp only [List.length_take]; omega)
    rwa [List.take_append_drop] at this
  have hmixd : ∀ (k : Nat) (vs : Nat → Value), k ≤ m → mix (fun j => decide (j < k)) vs 0 l a = mix (fun j => decide (j < k)) vs 0 (l.take m) a := by
    intro k vs hk
    refine act_ext (by simp [mix_size]) (by simp [mix_defers]) (fun t => ?_)
    rw [mix_get, mix_get, hdrop _ vs t (fun j hj => by simp at hj; omega)]
  have hmixt : ∀ (vs : Nat → Value), mix (fun _ => true) vs 0 (l.take m) a = mix (fun k => decide (k < m)) vs 0 (l.take m) a := by
    intro vs
    refine act_ext (by simp [mix_size]) (by simp [mix_defers]) (fun t => ?_)
    rw [mix_get, mix_get, lastW_congr (fun _ => true) (fun k => decide (k < m)) vs vs t (l.take m) 0 (fun j o hj _ => ⟨by
      have := (List.getElem?_eq_some_iff.1 hj).1
      simp only [List.length_take] at this
      simp
      omega, fun _ => rfl⟩)]
  have := rely_sound2 (Q := Q) (a0 := a) hE0 hE hs ht (fun j o hj ho => by
      have h3 := h1 j o (by rw [List.getElem?_take, if_pos hj]; simpa using ho)
      simp only [Nat.zero_add] at h3
      have he : (fun vs => mix (fun k => decide (k < j)) vs 0 l.toArray.toList a) = (fun vs => mix (fun k => decide (k < j)) vs 0 (l.take m) a) := funext fun vs => hmixd j vs (by omega)
      rw [he]
      exact h3)
    (fun vs w' he hr => by
      have h3 := h2 vs w' he (fun j hj => hr j (by simp only [List.length_take] at hj; omega))
      rw [hmixt vs, ← hmixd m vs (Nat.le_refl _)] at h3
      simpa using h3)
    l.toArray.size (Array.replicate l.toArray.size false) (fun _ => undef) w.drew (by simp) (by
      have : ∀ n, unl (fun j => (Array.replicate l.toArray.size false).getD j false) n ≤ n := by
        intro n
        induction n with
        | zero => exact Nat.le_refl _
        | succ n ih => simp only [unl, h0, Bool.false_eq_true, if_false] at ih ⊢; omega
      have := this m
      omega) (hE0 _) (fun j hj => by rw [h0] at hj; cases hj) (fun j hj => by rw [h0] at hj; cases hj) (fun j o _ hj => by rw [h0] at hj; cases hj)
  rw [hmix] at this
  exact this


theorem wpOp_in {n : Nat} (ro : Option Nat) (hQ : ¬ LetsOut Q) (hnd : ∀ (i : Nat) (o : Oper), ops[i]? = some o → ∀ c, o.op ≠ .defer c) {i : Nat} {K : Act → World → Prop} {a : Act} {w : World} (h : wpOp P ops Q i K a w) : wpOpIn (AtRound ro) n P ops Q i K a w := by
  unfold wpOp at h
  unfold wpOpIn
  split at h
  · rename_i ho; rw [ho]; exact h
  · rename_i o ho
    rw [ho]
    dsimp only
    split at h
    · rename_i hw
      rw [if_pos hw]
      rcases h with h | h
      · exact operIn_of ro (hnd i o ho) h
      · exact absurd h.2 hQ
    · rename_i hw
      rw [if_neg hw]
      exact ⟨fun _ _ => trivial, h⟩
theorem wpAny_in {n : Nat} (ro : Option Nat) (hQ : ¬ LetsOut Q) (hnd : ∀ (i : Nat) (o : Oper), ops[i]? = some o → ∀ c, o.op ≠ .defer c) : ∀ (fuel : Nat) (listed : Array Bool) (a : Act) (w : World), wpAny P .any ops Q fuel listed a w → wpAnyIn (AtRound ro) n P .any ops Q fuel listed a w
  | 0, _, _, _, h => h
  | fuel + 1, _, _, _, h => ⟨h.1, fun i hi => wpOpIn_mono (fun a w hh => wpAny_in ro hQ hnd fuel _ a w hh) (wpOp_in ro hQ hnd (h.2 i hi))⟩
/-- The law, in a round. -/
theorem wpIn_region_rely2 {n id : Nat} {l : List Oper} {a : Act} {w : World} {F : Fence} (hF : ∃ ro, F = AtRound ro) (hQ : ¬ LetsOut Q) (hnd : l.all (fun o => match o.op with | .defer _ => false | _ => true) = true) (hm : P.follows .mixedOrders = true) (m : Nat) (hs : sane l.toArray = true) (ht : tailOk2 l.toArray m = true)
    (E : World → World → Prop) (hE0 : ∀ w, E w w) (hE : ∀ {a b c}, E a b → E b c → E a c)
    (R : Nat → World → Value → Prop) (h : Rely P l.toArray E R w.drew Q (l.drop m) 0 (fun _ => a) (l.take m)) : (Code.region id l.toArray true).wpIn F n P Q a w := by
  obtain ⟨ro, rfl⟩ := hF
  refine wpIn_region_any hm (wpAny_in ro hQ (fun i o ho c e => ?_) _ _ _ _ (wpAny_rely2 m hs ht E hE0 hE R h))
  rw [List.all_eq_true] at hnd
  have := hnd o (List.mem_of_getElem? (by simpa using ho))
  rw [e] at this
  cases this
end
end Go.Proofs.YtdedphhohiioiaaDoor
/- The law on regions that draw their order, where the first of the last operations comes behind all others by some edges. -/
namespace Go.Proofs.YtdedphhohiioiaaDoor
open Go.RowKit
section
variable {P : Program} {ops : Array Oper} {E : World → World → Prop} {R : Nat → World → Value → Prop} {w0 : World} {Q : Exit → Act → World → Prop} {a0 : Act}

/-- An operation that comes behind another, by one edge or by some. -/
inductive OpReach (ops : Array Oper) : Nat → Nat → Prop
  | one {i : Nat} {o : Oper} {e : Edge} : ops[i]? = some o → e ∈ o.after.toList → Region.binds .any e = true → OpReach ops i e.on
  | step {i j : Nat} {k : Nat} {o : Oper} {e : Edge} : OpReach ops i k → ops[k]? = some o → e ∈ o.after.toList → Region.binds .any e = true → e.on = j → OpReach ops i j
theorem OpReach.listed {ops : Array Oper} {i j : Nat} {o : Oper} (h : OpReach ops i j) (listed : Array Bool) (hcl : ∀ j o, ops[j]? = some o → listed.getD j false = true → ∀ e ∈ o.after.toList, Region.binds .any e = true → listed.getD e.on false = true)
    (ho : ops[i]? = some o) (hd : ∀ e ∈ o.after.toList, Region.binds .any e = true → listed.getD e.on false = true) : listed.getD j false = true := by
  induction h with
  | one h1 h2 h3 =>
    rw [h1] at ho
    cases ho
    exact hd _ h2 h3
  | step _ h2 h3 h4 h5 ih => rw [← h5]; exact hcl _ _ h2 ih _ h3 h4
def targets (ops : Array Oper) (i : Nat) : List Nat := ((ops.toList[i]?).map fun o => (o.after.toList.filter fun e => Region.binds .any e).map (·.on)).getD []
theorem targets_spec {ops : Array Oper} {i j : Nat} (h : j ∈ targets ops i) : ∃ o, ops[i]? = some o ∧ ∃ e ∈ o.after.toList, Region.binds .any e = true ∧ e.on = j := by
  unfold targets at h
  cases ho : ops.toList[i]? with
  | none => rw [ho] at h; simp at h
  | some o =>
    rw [ho] at h
    simp only [Option.map_some, Option.getD_some, List.mem_map, List.mem_filter] at h
    obtain ⟨e, ⟨h1, h2⟩, h3⟩ := h
    exact ⟨o, by simpa using ho, e, h1, h2, h3⟩
def closeB (ops : Array Oper) : Nat → List Nat → List Nat
  | 0, S => S
  | i + 1, S => closeB ops i (if S.contains i then targets ops i ++ S else S)
theorem closeB_spec {ops : Array Oper} {m : Nat} : ∀ (i : Nat) (S : List Nat), (∀ j ∈ S, OpReach ops m j) → ∀ j ∈ closeB ops i S, OpReach ops m j
  | 0, _, h, j, hj => h j hj
  | i + 1, S, h, j, hj => by
    unfold closeB at hj
    refine closeB_spec i _ ?_ j hj
    split
    · rename_i hc
      intro k hk
      rcases List.mem_append.1 hk with hk | hk
      · obtain ⟨o, ho, e, he, hb, hon⟩ := targets_spec hk
        exact .step (h i (by simpa using hc)) ho he hb hon
      · exact h k hk
    · exact h
/-- From m on the operations come one behind the other; the first of them comes behind all before, by one edge or by some. -/
def tailOk3 (ops : Array Oper) (m : Nat) : Bool :=
  decide (m ≤ ops.size) && (let S := closeB ops m (targets ops m); decide (m = ops.size) || (List.range m).all fun j => S.contains j) && (List.range ops.size).all fun i => decide (i ≤ m) || edgeTo ops i (i - 1)
theorem tailOk3_spec {m : Nat} (h : tailOk3 ops m = true) : m ≤ ops.size ∧ ∀ i o, m ≤ i → ops[i]? = some o → (i = m → ∀ j, j < m → OpReach ops i j) ∧ (m < i → ∃ e ∈ o.after.toList, Region.binds .any e = true ∧ e.on = i - 1) := by
  simp only [tailOk3, Bool.and_eq_true, decide_eq_true_eq, List.all_eq_true, List.mem_range, Bool.or_eq_true] at h
  obtain ⟨⟨h1, h2⟩, h3⟩ := h
  refine ⟨h1, fun i o hm ho => ?_⟩
  have hi : i < ops.size := (Array.getElem?_eq_some_iff.1 ho).1
  constructor
  · rintro rfl j hj
    rcases h2 with h2 | h2
    · omega
    · refine closeB_spec i _ (fun k hk => ?_) j (by simpa using h2 j hj)
      obtain ⟨o', ho', e, he, hb, hon⟩ := targets_spec hk
      rw [← hon]
      exact .one ho' he hb
  · intro hlt
    rcases h3 i hi with h4 | h4
    · omega
    · exact edgeTo_spec h4 ho

theorem seq_sound3 {m : Nat} (hs : sane ops = true) (ht : tailOk3 ops m = true) : ∀ (fuel i : Nat) (listed : Array Bool) (a : Act) (w : World), m ≤ i → listed.size = ops.size →
    (∀ j, j < ops.size → listed.getD j false = decide (j < i)) → ops.size ≤ fuel + i → i ≤ ops.size → wpList P ops Q (ops.toList.drop i) a w → wpAny P .any ops Q fuel listed a w := by
  obtain ⟨_, ht⟩ := tailOk3_spec ht
  have hready : ∀ (i : Nat) (listed : Array Bool), m ≤ i → listed.size = ops.size → (∀ j, j < ops.size → listed.getD j false = decide (j < i)) → ∀ k, k ∈ Region.ready .any ops listed → k = i ∧ i < ops.size := by
    intro i listed hmi hsz hL k hk
    simp only [Region.ready, List.mem_filter, List.mem_range] at hk
    obtain ⟨hkn, hrd⟩ := hk
    have ho : ops[k]? = some ops[k] := by simp [hkn]
    generalize ops[k] = o at ho
    rw [ho] at hrd
    simp only [Bool.and_eq_true, Bool.not_eq_true', Option.map_some, Option.getD_some, Array.all_eq_true', Bool.or_eq_true] at hrd
    obtain ⟨h1, h2⟩ := hrd
    rw [getD_tf (by omega), hL k hkn] at h1
    have hik : i ≤ k := by simpa using h1
    rcases Nat.lt_or_ge i k with hlt | hge
    · obtain ⟨e, he, hb, hon⟩ := (ht k o (by omega) ho).2 (by omega)
      rcases h2 e (by simpa using he) with h | h
      · rw [hb] at h; cases h
      · rw [hon, hL (k - 1) (by omega)] at h
        simp at h
        omega
    · exact ⟨by omega, by omega⟩
  intro fuel
  induction fuel with
  | zero =>
    intro i listed a w hmi hsz hL hf hin hw
    have hi : i = ops.size := by omega
    subst hi
    have hnil : Region.ready .any ops listed = [] := by
      cases hr : Region.ready .any ops listed with
      | nil => rfl
      | cons x xs => have := hready _ listed hmi hsz hL x (by rw [hr]; simp); omega
    refine ⟨hnil, ?_⟩
    rw [List.drop_of_length_le (by simp)] at hw
    exact hw
  | succ fuel ih =>
    intro i listed a w hmi hsz hL hf hin hw
    refine ⟨fun hnil => ?_, fun k hk => ?_⟩
    · rcases Nat.lt_or_ge i ops.size with hlt | hge
      · exfalso
        have ho : ops[i]? = some ops[i] := by simp [hlt]
        have hmem : i ∈ Region.ready .any ops listed := by
          simp only [Region.ready, List.mem_filter, List.mem_range]
          refine ⟨hlt, ?_⟩
          rw [getD_tf (by omega), hL i hlt, ho]
          simp only [Nat.lt_irrefl, decide_false, Bool.not_false, Bool.true_and, Option.map_some, Option.getD_some, Array.all_eq_true', Bool.or_eq_true]
          intro e he
          cases hb : Region.binds .any e with
          | false => exact .inl rfl
          | true =>
            have := (sane_spec hs ho).1 e (by simpa using he) hb
            exact .inr (by rw [hL _ (by omega)]; simpa using this)
        rw [hnil] at hmem
        cases hmem
      · have hi : i = ops.size := by omega
        subst hi
        rw [List.drop_of_length_le (by simp)] at hw
        exact hw
    · obtain ⟨rfl, hlt⟩ := hready i listed hmi hsz hL k hk
      have ho : ops[k]? = some ops[k] := by simp [hlt]
      rw [List.drop_eq_getElem_cons (by simpa using hlt)] at hw
      simp only [Array.getElem_toList] at hw
      generalize ops[k] = o at ho hw
      simp only [wpOp, ho]
      refine (?_ : (if Region.wanted o (yielded ops a.tmps) then o.wp P a w _ Q ∨ (o.asks P a w ∧ LetsOut Q) else _))
      have hnext : ∀ a' w', wpList P ops Q (ops.toList.drop (k + 1)) a' w' → wpAny P .any ops Q fuel (listed.setIfInBounds k true) a' w' := fun a' w' h =>
        ih (k + 1) _ a' w' (by omega) (by simp [hsz]) (fun j hj => by
          simp only [Array.getD_eq_getD_getElem?, Array.getElem?_setIfInBounds]
          by_cases e : k = j
          · subst e; simp [hsz, hlt]
          · rw [if_neg e]
            have := hL j hj
            simp only [Array.getD_eq_getD_getElem?] at this
            rw [this]
            rw [Bool.eq_iff_iff]
            simp
            omega) (by omega) (by omega) h
      unfold wpList at hw
      split
      · rename_i hwt
        rw [if_pos hwt] at hw
        exact hw.imp (Oper.wp_mono hnext) id
      · rename_i hwt
        rw [if_neg hwt] at hw
        exact hnext _ _ hw

theorem rely_sound3 {m : Nat} (hE0 : ∀ w, E w w) (hE : ∀ {a b c}, E a b → E b c → E a c) (hs : sane ops = true) (ht : tailOk3 ops m = true)
    (hstep : ∀ j o, j < m → ops[j]? = some o → StepOk P ops E R w0 (fun vs => mix (fun k => decide (k < j)) vs 0 ops.toList a0) j o)
    (hend : ∀ vs w, E w0 w → (∀ j, j < m → R j w (vs j)) → wpList P ops Q (ops.toList.drop m) (mix (fun k => decide (k < m)) vs 0 ops.toList a0) w) :
    ∀ (fuel : Nat) (listed : Array Bool) (vs : Nat → Value) (w : World), listed.size = ops.size → unl (fun j => listed.getD j false) m + (ops.size - m) ≤ fuel → E w0 w →
      (∀ j, listed.getD j false = true → j < m) →
      (∀ j, listed.getD j false = true → ∀ w', E w w' → R j w' (vs j)) →
      (∀ j o, ops[j]? = some o → listed.getD j false = true → ∀ e ∈ o.after.toList, Region.binds .any e = true → listed.getD e.on false = true) →
      wpAny P .any ops Q fuel listed (mix (fun j => listed.getD j false) vs 0 ops.toList a0) w := by
  obtain ⟨hmn, htl⟩ := tailOk3_spec ht
  have hall : ∀ (fuel : Nat) (listed : Array Bool) (vs : Nat → Value) (w : World), listed.size = ops.size → unl (fun j => listed.getD j false) m = 0 → ops.size ≤ fuel + m → E w0 w →
      (∀ j, listed.getD j false = true → j < m) →
      (∀ j, listed.getD j false = true → ∀ w', E w w' → R j w' (vs j)) → wpAny P .any ops Q fuel listed (mix (fun j => listed.getD j false) vs 0 ops.toList a0) w := by
    intro fuel listed vs w hsz hz hf he hlm hR
    have hmk := unl_zero m hz
    have hL : ∀ j, listed.getD j false = decide (j < m) := by
      intro j
      by_cases h : j < m
      · rw [hmk j h]; simp [h]
      · cases hb : listed.getD j false with
        | true => exact absurd (hlm j hb) h
        | false => simp [h]
    refine seq_sound3 hs ht fuel m listed _ w (Nat.le_refl _) hsz (fun j _ => hL j) hf hmn ?_
    have hm : mix (fun j => listed.getD j false) vs 0 ops.toList a0 = mix (fun k => decide (k < m)) vs 0 ops.toList a0 := by
      refine act_ext (by simp [mix_size]) (by simp [mix_defers]) (fun t => ?_)
      rw [mix_get, mix_get, lastW_congr _ (fun k => decide (k < m)) vs vs t ops.toList 0 (fun j o hj _ => ⟨by
        simp only [Nat.zero_add]
        exact hL j, fun _ => rfl⟩)]
    rw [hm]
    exact hend vs w he (fun j hj => hR j (hmk j hj) w (hE0 w))
  intro fuel
  induction fuel with
  | zero =>
    intro listed vs w hsz hu he hlm hR hcl
    exact hall 0 listed vs w hsz (by omega) (by omega) he hlm hR
  | succ fuel ih =>
    intro listed vs w hsz hu he hlm hR hcl
    by_cases hz : unl (fun j => listed.getD j false) m = 0
    · exact hall (fuel + 1) listed vs w hsz hz (by omega) he hlm hR
    have hnot : ¬ ∀ j, j < m → listed.getD j false = true := fun h => hz (by
      have : ∀ k, k ≤ m → unl (fun j => listed.getD j false) k = 0 := by
        intro k
        induction k with
        | zero => intro _; rfl
        | succ k ihk => intro hk; have e1 := ihk (by omega); have e2 := h k (by omega); simp only [unl, e1, e2, if_true]
      exact this m (Nat.le_refl _))
    have hrm : ∀ i ∈ Region.ready .any ops listed, i < m := by
      intro i hi
      simp only [Region.ready, List.mem_filter, List.mem_range] at hi
      obtain ⟨hin, hrd⟩ := hi
      have ho : ops[i]? = some ops[i] := by simp [hin]
      generalize ops[i] = o at ho
      rw [ho] at hrd
      simp only [Bool.and_eq_true, Bool.not_eq_true', Option.map_some, Option.getD_some, Array.all_eq_true', Bool.or_eq_true] at hrd
      rcases Nat.lt_or_ge i m with h | h
      · exact h
      · exfalso
        by_cases him : i = m
        · refine hnot fun j hj => ?_
          refine ((htl i o h ho).1 him j hj).listed listed hcl ho fun e hem hb => ?_
          rcases hrd.2 e (by simpa using hem) with h2 | h2
          · rw [hb] at h2; cases h2
          · exact h2
        · obtain ⟨e, hem, hb, hon⟩ := (htl i o h ho).2 (by omega)
          rcases hrd.2 e (by simpa using hem) with h2 | h2
          · rw [hb] at h2; cases h2
          · rw [hon] at h2
            have := hlm (i - 1) h2
            omega
    refine ⟨fun hr => ?_, fun i hi => ?_⟩
    · exfalso
      refine hnot fun j => ?_
      induction j using Nat.strongRecOn with
      | ind j ihj =>
        intro hj
        cases hL : listed.getD j false with
        | true => rfl
        | false =>
          exfalso
          have ho : ops[j]? = some ops[j] := by simp [show j < ops.size by omega]
          have hmem : j ∈ Region.ready .any ops listed := by
            simp only [Region.ready, List.mem_filter, List.mem_range]
            refine ⟨by omega, ?_⟩
            rw [getD_tf (by omega), hL, ho]
            simp only [Bool.not_false, Bool.true_and, Option.map_some, Option.getD_some, Array.all_eq_true', Bool.or_eq_true]
            intro e hm
            obtain ⟨h1, _⟩ := sane_spec hs ho
            cases hb : Region.binds .any e with
            | false => exact .inl rfl
            | true =>
              have h2 := h1 e (by simpa using hm) hb
              exact .inr (ihj e.on h2 (by omega))
          rw [hr] at hmem
          cases hmem
    have him := hrm i hi
    simp only [Region.ready, List.mem_filter, List.mem_range] at hi
    obtain ⟨hin, hrd⟩ := hi
    have ho : ops[i]? = some ops[i] := by simp [hin]
    generalize ops[i] = o at ho
    rw [ho] at hrd
    simp only [Bool.and_eq_true, Bool.not_eq_true', Option.map_some, Option.getD_some, Array.all_eq_true', Bool.or_eq_true] at hrd
    obtain ⟨hLi, hdeps⟩ := hrd
    have hLi' : listed.getD i false = false := by
      simp only [Array.getD_eq_getD_getElem?] at hLi ⊢
      rw [Array.getElem?_eq_getElem (by omega)] at hLi ⊢
      simpa using hLi
    obtain ⟨s1, s2, s3, s4⟩ := sane_spec hs ho
    have hdone : ∀ e ∈ o.after.toList, Region.binds .any e = true → listed.getD e.on false = true := by
      intro e hm hb
      rcases hdeps e (by simpa using hm) with h | h
      · rw [hb] at h; cases h
      · exact h
    have hget : ∀ t, t ∈ o.looksAt ops → (mix (fun j => listed.getD j false) vs 0 ops.toList a0).tmps[t]? = (mix (fun k => decide (k < i)) vs 0 ops.toList a0).tmps[t]? := by
      intro t ht
      rw [mix_get, mix_get, lastW_congr _ (fun k => decide (k < i)) vs vs t ops.toList 0 (fun j p hj hd => ⟨?_, fun _ => rfl⟩)]
      simp only [Nat.zero_add]
      have hp : ops[j]? = some p := by simpa using hj
      obtain ⟨h1, h2⟩ := s3 j p t hp hd ht
      rcases Nat.lt_trichotomy j i with hlt | heq | hgt
      · obtain ⟨e, hm, hb, rfl⟩ := h1 hlt
        rw [hdone e hm hb]
        simp [hlt]
      · subst heq
        rw [hLi']
        simp
      · obtain ⟨e, hm, hb, hon⟩ := h2 hgt
        cases hL : listed.getD j false with
        | false => simp; omega
        | true =>
          have := hcl j p hp hL e hm hb
          rw [hon, hLi'] at this
          cases this
    have hev : ∀ x ∈ o.op.operands, (mix (fun j => listed.getD j false) vs 0 ops.toList a0).eval x = (mix (fun k => decide (k < i)) vs 0 ops.toList a0).eval x := by
      intro x hx
      cases x with
      | tmp t =>
        have ht : t ∈ o.looksAt ops := by
          simp only [Oper.looksAt, List.mem_append, List.mem_filterMap]
          exact .inl ⟨.tmp t, by simpa using hx, rfl⟩
        exact eval_of_get (hget t ht)
      | _ => rfl
    have hexec := execOp_congr o s2 hev
    have hw : Region.wanted o (yielded ops (mix (fun j => listed.getD j false) vs 0 ops.toList a0).tmps) = Region.wanted o (yielded ops (mix (fun k => decide (k < i)) vs 0 ops.toList a0).tmps) := by
      unfold Region.wanted
      cases hg : o.guard with
      | none => rfl
      | some g =>
        obtain ⟨j, want⟩ := g
        have : yielded ops (mix (fun j => listed.getD j false) vs 0 ops.toList a0).tmps j = yielded ops (mix (fun k => decide (k < i)) vs 0 ops.toList a0).tmps j := by
          unfold yielded
          cases hj : (ops[j]?).bind (·.dst) with
          | none => rfl
          | some t =>
            have ht : t ∈ o.looksAt ops := by
              simp only [Oper.looksAt, List.mem_append]
              exact .inr (by simp [hg, hj])
            simp only [Option.bind_some, hget t ht]
        simp only [this]
    have hD : Deps R vs w o.after.toList := Deps.of fun e hm hb => hR e.on (hdone e hm hb) w (hE0 w)
    have hst := hstep i o him ho vs w he hD
    -- what is left when op i has given v in w'
    have hnext : ∀ v w', E w w' → (∀ w'', E w' w'' → R i w'' v) →
        wpAny P .any ops Q fuel (listed.setIfInBounds i true) ((mix (fun j => listed.getD j false) vs 0 ops.toList a0).put o.dst v) w' := by
      intro v w' hew hr
      have hup : ∀ j, (listed.setIfInBounds i true).getD j false = if j = i then true else listed.getD j false := by
        intro j
        simp only [Array.getD_eq_getD_getElem?, Array.getElem?_setIfInBounds]
        by_cases e : i = j
        · subst e; simp [hsz, hin]
        · rw [if_neg e, if_neg (fun h => e h.symm)]
      have hmix : (mix (fun j => listed.getD j false) vs 0 ops.toList a0).put o.dst v =
          mix (fun j => (listed.setIfInBounds i true).getD j false) (fun j => if j = i then v else vs j) 0 ops.toList a0 := by
        refine act_ext (by simp [put_size, mix_size]) (by simp [put_defers, mix_defers]) (fun t => ?_)
        rw [put_get, mix_size]
        by_cases hd : o.dst = some t
        · rw [if_pos hd, mix_get, lastW_at _ _ t ops.toList 0 i o (by simpa using ho) hd (by rw [hup]; simp) (fun j p hj hd' => (s4 j p t (by simpa using hj) hd' hd).symm)]
          simp
        · rw [if_neg hd, mix_get, mix_get]
          rw [lastW_congr (fun j => listed.getD j false) (fun j => (listed.setIfInBounds i true).getD j false) vs (fun j => if j = i then v else vs j) t ops.toList 0 (fun j p hj hd' => ?_)]
          simp only [Nat.zero_add]
          have hne : j ≠ i := by
            intro e
            subst e
            have : p = o := by
              have h1 : ops[j]? = some p := by simpa using hj
              rw [ho] at h1
              exact (Option.some.inj h1).symm
            exact hd (this ▸ hd')
          simp [hup, hne]
      rw [hmix]
      refine ih _ _ _ (by simp [hsz]) ?_ (hE he hew) ?_ ?_ ?_
      · have := unl_mark (L := fun j => listed.getD j false) (L' := fun j => (listed.setIfInBounds i true).getD j false) hLi' (by simp [hup]) (fun j hj => by simp [hup, hj]) m him
        omega
      · intro j hj
        rw [hup] at hj
        by_cases e : j = i
        · omega
        · rw [if_neg e] at hj
          exact hlm j hj
      · intro j hj w2 hw2
        by_cases e : j = i
        · subst e
          simpa using hr w2 hw2
        · simp only [if_neg e]
          refine hR j ?_ w2 (hE hew hw2)
          rw [hup, if_neg e] at hj
          exact hj
      · intro j p hp hj e hm hb
        rw [hup] at hj ⊢
        by_cases ej : j = i
        · subst ej
          have : p = o := by rw [ho] at hp; exact (Option.some.inj hp).symm
          subst this
          split
          · rfl
          · exact hdone e hm hb
        · rw [if_neg ej] at hj
          split
          · rfl
          · exact hcl j p hp hj e hm hb
    simp only [wpOp, ho, hw]
    split
    · rename_i hwt
      rw [if_pos hwt] at hst
      refine .inl ?_
      unfold Oper.wp
      unfold Gives at hst
      rw [hexec]
      generalize (execOp (mix (fun k => decide (k < i)) vs 0 ops.toList a0).eval o).run P w = r at hst
      cases r with
      | halt x w' => simp at hst
      | ok x w' =>
        cases x with
        | value v => exact hnext v w' hst.1 hst.2
        | skip => exact hnext undef w' hst.1 hst.2
        | enter g args =>
          simp only [Oper.upon]
          refine Calls.mono hst ?_
          rintro e w'' ⟨v, rfl, h1, h2⟩
          exact hnext v w'' h1 h2
        | _ => simp at hst
    · rename_i hwt
      rw [if_neg hwt] at hst
      exact hnext undef w (hE0 w) hst

/-- The law, at the orders. -/
theorem wpAny_rely3 {l : List Oper} {a : Act} {w : World} (m : Nat) (hs : sane l.toArray = true) (ht : tailOk3 l.toArray m = true)
    (E : World → World → Prop) (hE0 : ∀ w, E w w) (hE : ∀ {a b c}, E a b → E b c → E a c)
    (R : Nat → World → Value → Prop) (h : Rely P l.toArray E R w.drew Q (l.drop m) 0 (fun _ => a) (l.take m)) : wpAny P .any l.toArray Q l.toArray.size (Array.replicate l.toArray.size false) a w.drew := by
  obtain ⟨h1, h2⟩ := rely_get (l.take m) 0 _ h
  obtain ⟨hmn, _⟩ := tailOk3_spec ht
  have hmn' : m ≤ l.length := by simpa using hmn
  have h0 : ∀ j, (Array.replicate l.toArray.size false).getD j false = false := by
    intro j
    simp only [Array.getD_eq_getD_getElem?, Array.getElem?_replicate]
    split <;> rfl
  have hmix : ∀ vs : Nat → Value, mix (fun j => (Array.replicate l.toArray.size false).getD j false) vs 0 l.toArray.toList a = a := by
    intro vs
    refine act_ext (by simp [mix_size]) (by simp [mix_defers]) (fun t => ?_)
    rw [mix_get, lastW_none _ _ _ _ _ (fun j o _ _ => h0 _)]
  have hdrop : ∀ (L : Nat → Bool) (vs : Nat → Value) (t : Nat), (∀ j, L j = true → j < m) → lastW L vs t 0 l = lastW L vs t 0 (l.take m) := by
    intro L vs t hL
    have gen : ∀ (l1 l2 : List Oper) (i : Nat), (∀ j, L j = true → j < i + l1.length) → lastW L vs t i (l1 ++ l2) = lastW L vs t i l1 := by
      intro l1
      induction l1 with
      | nil =>
        intro l2 i hj
        rw [List.nil_append, lastW_none L vs t l2 i (fun j o _ _ => by
          cases hb : L (i + j) with
          | false => rfl
          | true => have h9 := hj _ hb; simp only [List.length_nil] at h9; omega)]
        rfl
      | cons o l1 ih =>
        intro l2 i hj
        simp only [List.cons_append, lastW]
        rw [ih l2 (i + 1) (fun j h => by have := hj j h; simp only [List.length_cons] at this; omega)]
    have := gen (l.take m) (l.drop m) 0 (fun j h => by have := hL j h; simp only [List.length_take]; omega)
    rwa [List.take_append_drop] at this
  have hmixd : ∀ (k : Nat) (vs : Nat → Value), k ≤ m → mix (fun j => decide (j < k)) vs 0 l a = mix (fun j => decide (j < k)) vs 0 (l.take m) a := by
    intro k vs hk
    refine act_ext (by simp [mix_size]) (by simp [mix_defers]) (fun t => ?_)
    rw [mix_get, mix_get, hdrop _ vs t (fun j hj => by simp at hj; omega)]
  have hmixt : ∀ (vs : Nat → Value), mix (fun _ => true) vs 0 (l.take m) a = mix (fun k => decide (k < m)) vs 0 (l.take m) a := by
    intro vs
    refine act_ext (by simp [mix_size]) (by simp [mix_defers]) (fun t => ?_)
    rw [mix_get, mix_get, lastW_congr (fun _ => true) (fun k => decide (k < m)) vs vs t (l.take m) 0 (fun j o hj _ => ⟨by
      have := (List.getElem?_eq_some_iff.1 hj).1
      simp only [List.length_take] at this
      simp
      omega, fun _ => rfl⟩)]
  have := rely_sound3 (Q := Q) (a0 := a) hE0 hE hs ht (fun j o hj ho => by
      have h3 := h1 j o (by rw [List.getElem?_take, if_pos hj]; simpa using ho)
      simp only [Nat.zero_add] at h3
      have he : (fun vs => mix (fun k => decide (k < j)) vs 0 l.toArray.toList a) = (fun vs => mix (fun k => decide (k < j)) vs 0 (l.take m) a) := funext fun vs => hmixd j vs (by omega)
      rw [he]
      exact h3)
    (fun vs w' he hr => by
      have h3 := h2 vs w' he (fun j hj => hr j (by simp only [List.length_take] at hj; omega))
      rw [hmixt vs, ← hmixd m vs (Nat.le_refl _)] at h3
      simpa using h3)
    l.toArray.size (Array.replicate l.toArray.size false) (fun _ => undef) w.drew (by simp) (by
      have : ∀ n, unl (fun j => (Array.replicate l.toArray.size false).getD j false) n ≤ n := by
        intro n
        induction n with
        | zero => exact Nat.le_refl _
        | succ n ih => simp only [unl, h0, Bool.false_eq_true, if_false] at ih ⊢; omega
      have := this m
      omega) (hE0 _) (fun j hj => by rw [h0] at hj; cases hj) (fun j hj => by rw [h0] at hj; cases hj) (fun j o _ hj => by rw [h0] at hj; cases hj)
  rw [hmix] at this
  exact this


/-- The law. -/
theorem wp_region_rely3 {id : Nat} {l : List Oper} {a : Act} {w : World} (hm : P.follows .mixedOrders = true) (m : Nat) (hs : sane l.toArray = true) (ht : tailOk3 l.toArray m = true)
    (E : World → World → Prop) (hE0 : ∀ w, E w w) (hE : ∀ {a b c}, E a b → E b c → E a c)
    (R : Nat → World → Value → Prop) (h : Rely P l.toArray E R w.drew Q (l.drop m) 0 (fun _ => a) (l.take m)) : (Code.region id l.toArray true).wp P Q a w :=
  wp_region_any hm (wpAny_rely3 m hs ht E hE0 hE R h)
/-- The law, in a round. -/
theorem wpIn_region_rely3 {n id : Nat} {l : List Oper} {a : Act} {w : World} {F : Fence} (hF : ∃ ro, F = AtRound ro) (hQ : ¬ LetsOut Q) (hnd : l.all (fun o => match o.op with | .defer _ => false | _ => true) = true) (hm : P.follows .mixedOrders = true) (m : Nat) (hs : sane l.toArray = true) (ht : tailOk3 l.toArray m = true)
    (E : World → World → Prop) (hE0 : ∀ w, E w w) (hE : ∀ {a b c}, E a b → E b c → E a c)
    (R : Nat → World → Value → Prop) (h : Rely P l.toArray E R w.drew Q (l.drop m) 0 (fun _ => a) (l.take m)) : (Code.region id l.toArray true).wpIn F n P Q a w := by
  obtain ⟨ro, rfl⟩ := hF
  refine wpIn_region_any hm (wpAny_in ro hQ (fun i o ho c e => ?_) _ _ _ _ (wpAny_rely3 m hs ht E hE0 hE R h))
  rw [List.all_eq_true] at hnd
  have := hnd o (List.mem_of_getElem? (by simpa using ho))
  rw [e] at this
  cases this
end
end Go.Proofs.YtdedphhohiioiaaDoor
/- The law on regions that draw their order, in a round, where the last operations come one behind the other and may yield. -/
namespace Go.Proofs.YtdedphhohiioiaaDoor
open Go.RowKit
section
variable {n : Nat} {ro : Option Nat} {P : Program} {ops : Array Oper} {E : World → World → Prop} {R : Nat → World → Value → Prop} {w0 : World} {Q : Exit → Act → World → Prop} {a0 : Act}
theorem seq_sound5 {m : Nat} (hs : sane ops = true) (ht : tailOk3 ops m = true) : ∀ (fuel i : Nat) (listed : Array Bool) (a : Act) (w : World), m ≤ i → listed.size = ops.size →
    (∀ j, j < ops.size → listed.getD j false = decide (j < i)) → ops.size ≤ fuel + i → i ≤ ops.size → wpListIn (AtRound ro) n P ops Q (ops.toList.drop i) a w → wpAnyIn (AtRound ro) n P .any ops Q fuel listed a w := by
  obtain ⟨_, ht⟩ := tailOk3_spec ht
  have hready : ∀ (i : Nat) (listed : Array Bool), m ≤ i → listed.size = ops.size → (∀ j, j < ops.size → listed.getD j false = decide (j < i)) → ∀ k, k ∈ Region.ready .any ops listed → k = i ∧ i < ops.size := by
    intro i listed hmi hsz hL k hk
    simp only [Region.ready, List.mem_filter, List.mem_range] at hk
    obtain ⟨hkn, hrd⟩ := hk
    have ho : ops[k]? = some ops[k] := by simp [hkn]
    generalize ops[k] = o at ho
    rw [ho] at hrd
    simp only [Bool.and_eq_true, Bool.not_eq_true', Option.map_some, Option.getD_some, Array.all_eq_true', Bool.or_eq_true] at hrd
    obtain ⟨h1, h2⟩ := hrd
    rw [getD_tf (by omega), hL k hkn] at h1
    have hik : i ≤ k := by simpa using h1
    rcases Nat.lt_or_ge i k with hlt | hge
    · obtain ⟨e, he, hb, hon⟩ := (ht k o (by omega) ho).2 (by omega)
      rcases h2 e (by simpa using he) with h | h
      · rw [hb] at h; cases h
      · rw [hon, hL (k - 1) (by omega)] at h
        simp at h
        omega
    · exact ⟨by omega, by omega⟩
  intro fuel
  induction fuel with
  | zero =>
    intro i listed a w hmi hsz hL hf hin hw
    have hi : i = ops.size := by omega
    subst hi
    have hnil : Region.ready .any ops listed = [] := by
      cases hr : Region.ready .any ops listed with
      | nil => rfl
      | cons x xs => have := hready _ listed hmi hsz hL x (by rw [hr]; simp); omega
    refine ⟨hnil, ?_⟩
    rw [List.drop_of_length_le (by simp)] at hw
    exact hw
  | succ fuel ih =>
    intro i listed a w hmi hsz hL hf hin hw
    refine ⟨fun hnil => ?_, fun k hk => ?_⟩
    · rcases Nat.lt_or_ge i ops.size with hlt | hge
      · exfalso
        have ho : ops[i]? = some ops[i] := by simp [hlt]
        have hmem : i ∈ Region.ready .any ops listed := by
          simp only [Region.ready, List.mem_filter, List.mem_range]
          refine ⟨hlt, ?_⟩
          rw [getD_tf (by omega), hL i hlt, ho]
          simp only [Nat.lt_irrefl, decide_false, Bool.not_false, Bool.true_and, Option.map_some, Option.getD_some, Array.all_eq_true', Bool.or_eq_true]
          intro e he
          cases hb : Region.binds .any e with
          | false => exact .inl rfl
          | true =>
            have := (sane_spec hs ho).1 e (by simpa using he) hb
            exact .inr (by rw [hL _ (by omega)]; simpa using this)
        rw [hnil] at hmem
        cases hmem
      · have hi : i = ops.size := by omega
        subst hi
        rw [List.drop_of_length_le (by simp)] at hw
        exact hw
    · obtain ⟨rfl, hlt⟩ := hready i listed hmi hsz hL k hk
      have ho : ops[k]? = some ops[k] := by simp [hlt]
      rw [List.drop_eq_getElem_cons (by simpa using hlt)] at hw
      simp only [Array.getElem_toList] at hw
      generalize ops[k] = o at ho hw
      simp only [wpOpIn, ho]
      have hnext : ∀ a' w', wpListIn (AtRound ro) n P ops Q (ops.toList.drop (k + 1)) a' w' → wpAnyIn (AtRound ro) n P .any ops Q fuel (listed.setIfInBounds k true) a' w' := fun a' w' h =>
        ih (k + 1) _ a' w' (by omega) (by simp [hsz]) (fun j hj => by
          simp only [Array.getD_eq_getD_getElem?, Array.getElem?_setIfInBounds]
          by_cases e : k = j
          · subst e; simp [hsz, hlt]
          · rw [if_neg e]
            have := hL j hj
            simp only [Array.getD_eq_getD_getElem?] at this
            rw [this]
            rw [Bool.eq_iff_iff]
            simp
            omega) (by omega) (by omega) h
      unfold wpListIn at hw
      split
      · rename_i hwt
        rw [if_pos hwt] at hw
        exact Oper.wpIn_mono hnext hw
      · rename_i hwt
        rw [if_neg hwt] at hw
        exact ⟨hw.1, hnext _ _ hw.2⟩

theorem rely_sound5 {m : Nat} (hQ : ¬ LetsOut Q) (hnd : ∀ (i : Nat) (o : Oper), ops[i]? = some o → ∀ c, o.op ≠ .defer c) (hE0 : ∀ w, E w w) (hE : ∀ {a b c}, E a b → E b c → E a c) (hs : sane ops = true) (ht : tailOk3 ops m = true)
    (hstep : ∀ j o, j < m → ops[j]? = some o → StepOk P ops E R w0 (fun vs => mix (fun k => decide (k < j)) vs 0 ops.toList a0) j o)
    (hend : ∀ vs w, E w0 w → (∀ j, j < m → R j w (vs j)) → wpListIn (AtRound ro) n P ops Q (ops.toList.drop m) (mix (fun k => decide (k < m)) vs 0 ops.toList a0) w) :
    ∀ (fuel : Nat) (listed : Array Bool) (vs : Nat → Value) (w : World), listed.size = ops.size → unl (fun j => listed.getD j false) m + (ops.size - m) ≤ fuel → E w0 w →
      (∀ j, listed.getD j false = true → j < m) →
      (∀ j, listed.getD j false = true → ∀ w', E w w' → R j w' (vs j)) →
      (∀ j o, ops[j]? = some o → listed.getD j false = true → ∀ e ∈ o.after.toList, Region.binds .any e = true → listed.getD e.on false = true) →
      wpAnyIn (AtRound ro) n P .any ops Q fuel listed (mix (fun j => listed.getD j false) vs 0 ops.toList a0) w := by
  obtain ⟨hmn, htl⟩ := tailOk3_spec ht
  have hall : ∀ (fuel : Nat) (listed : Array Bool) (vs : Nat → Value) (w : World), listed.size = ops.size → unl (fun j => listed.getD j false) m = 0 → ops.size ≤ fuel + m → E w0 w →
      (∀ j, listed.getD j false = true → j < m) →
      (∀ j, listed.getD j false = true → ∀ w', E w w' → R j w' (vs j)) → wpAnyIn (AtRound ro) n P .any ops Q fuel listed (mix (fun j => listed.getD j false) vs 0 ops.toList a0) w := by
    intro fuel listed vs w hsz hz hf he hlm hR
    have hmk := unl_zero m hz
    have hL : ∀ j, listed.getD j false = decide (j < m) := by
      intro j
      by_cases h : j < m
      · rw [hmk j h]; simp [h]
      · cases hb : listed.getD j false with
        | true => exact absurd (hlm j hb) h
        | false => simp [h]
    refine seq_sound5 hs ht fuel m listed _ w (Nat.le_refl _) hsz (fun j _ => hL j) hf hmn ?_
    have hm : mix (fun j => listed.getD j false) vs 0 ops.toList a0 = mix (fun k => decide (k < m)) vs 0 ops.toList a0 := by
      refine act_ext (by simp [mix_size]) (by simp [mix_defers]) (fun t => ?_)
      rw [mix_get, mix_get, lastW_congr _ (fun k => decide (k < m)) vs vs t ops.toList 0 (fun j o hj _ => ⟨by
        simp only [Nat.zero_add]
        exact hL j, fun _ => rfl⟩)]
    rw [hm]
    exact hend vs w he (fun j hj => hR j (hmk j hj) w (hE0 w))
  intro fuel
  induction fuel with
  | zero =>
    intro listed vs w hsz hu he hlm hR hcl
    exact hall 0 listed vs w hsz (by omega) (by omega) he hlm hR
  | succ fuel ih =>
    intro listed vs w hsz hu he hlm hR hcl
    by_cases hz : unl (fun j => listed.getD j false) m = 0
    · exact hall (fuel + 1) listed vs w hsz hz (by omega) he hlm hR
    have hnot : ¬ ∀ j, j < m → listed.getD j false = true := fun h => hz (by
      have : ∀ k, k ≤ m → unl (fun j => listed.getD j false) k = 0 := by
        intro k
        induction k with
        | zero => intro _; rfl
        | succ k ihk => intro hk; have e1 := ihk (by omega); have e2 := h k (by omega); simp only [unl, e1, e2, if_true]
      exact this m (Nat.le_refl _))
    have hrm : ∀ i ∈ Region.ready .any ops listed, i < m := by
      intro i hi
      simp only [Region.ready, List.mem_filter, List.mem_range] at hi
      obtain ⟨hin, hrd⟩ := hi
      have ho : ops[i]? = some ops[i] := by simp [hin]
      generalize ops[i] = o at ho
      rw [ho] at hrd
      simp only [Bool.and_eq_true, Bool.not_eq_true', Option.map_some, Option.getD_some, Array.all_eq_true', Bool.or_eq_true] at hrd
      rcases Nat.lt_or_ge i m with h | h
      · exact h
      · exfalso
        by_cases him : i = m
        · refine hnot fun j hj => ?_
          refine ((htl i o h ho).1 him j hj).listed listed hcl ho fun e hem hb => ?_
          rcases hrd.2 e (by simpa using hem) with h2 | h2
          · rw [hb] at h2; cases h2
          · exact h2
        · obtain ⟨e, hem, hb, hon⟩ := (htl i o h ho).2 (by omega)
          rcases hrd.2 e (by simpa using hem) with h2 | h2
          · rw [hb] at h2; cases h2
          · rw [hon] at h2
            have := hlm (i - 1) h2
            omega
    refine ⟨fun hr => ?_, fun i hi => ?_⟩
    · exfalso
      refine hnot fun j => ?_
      induction j using Nat.strongRecOn with
      | ind j ihj =>
        intro hj
        cases hL : listed.getD j false with
        | true => rfl
        | false =>
          exfalso
          have ho : ops[j]? = some ops[j] := by simp [show j < ops.size by omega]
          have hmem : j ∈ Region.ready .any ops listed := by
            simp only [Region.ready, List.mem_filter, List.mem_range]
            refine ⟨by omega, ?_⟩
            rw [getD_tf (by omega), hL, ho]
            simp only [Bool.not_false, Bool.true_and, Option.map_some, Option.getD_some, Array.all_eq_true', Bool.or_eq_true]
            intro e hm
            obtain ⟨h1, _⟩ := sane_spec hs ho
            cases hb : Region.binds .any e with
            | false => exact .inl rfl
            | true =>
              have h2 := h1 e (by simpa using hm) hb
              exact .inr (ihj e.on h2 (by omega))
          rw [hr] at hmem
          cases hmem
    have him := hrm i hi
    simp only [Region.ready, List.mem_filter, List.mem_range] at hi
    obtain ⟨hin, hrd⟩ := hi
    have ho : ops[i]? = some ops[i] := by simp [hin]
    generalize ops[i] = o at ho
    rw [ho] at hrd
    simp only [Bool.and_eq_true, Bool.not_eq_true', Option.map_some, Option.getD_some, Array.all_eq_true', Bool.or_eq_true] at hrd
    obtain ⟨hLi, hdeps⟩ := hrd
    have hLi' : listed.getD i false = false := by
      simp only [Array.getD_eq_getD_getElem?] at hLi ⊢
      rw [Array.getElem?_eq_getElem (by omega)] at hLi ⊢
      simpa using hLi
    obtain ⟨s1, s2, s3, s4⟩ := sane_spec hs ho
    have hdone : ∀ e ∈ o.after.toList, Region.binds .any e = true → listed.getD e.on false = true := by
      intro e hm hb
      rcases hdeps e (by simpa using hm) with h | h
      · rw [hb] at h; cases h
      · exact h
    have hget : ∀ t, t ∈ o.looksAt ops → (mix (fun j => listed.getD j false) vs 0 ops.toList a0).tmps[t]? = (mix (fun k => decide (k < i)) vs 0 ops.toList a0).tmps[t]? := by
      intro t ht
      rw [mix_get, mix_get, lastW_congr _ (fun k => decide (k < i)) vs vs t ops.toList 0 (fun j p hj hd => ⟨?_, fun _ => rfl⟩)]
      simp only [Nat.zero_add]
      have hp : ops[j]? = some p := by simpa using hj
      obtain ⟨h1, h2⟩ := s3 j p t hp hd ht
      rcases Nat.lt_trichotomy j i with hlt | heq | hgt
      · obtain ⟨e, hm, hb, rfl⟩ := h1 hlt
        rw [hdone e hm hb]
        simp [hlt]
      · subst heq
        rw [hLi']
        simp
      · obtain ⟨e, hm, hb, hon⟩ := h2 hgt
        cases hL : listed.getD j false with
        | false => simp; omega
        | true =>
          have := hcl j p hp hL e hm hb
          rw [hon, hLi'] at this
          cases this
    have hev : ∀ x ∈ o.op.operands, (mix (fun j => listed.getD j false) vs 0 ops.toList a0).eval x = (mix (fun k => decide (k < i)) vs 0 ops.toList a0).eval x := by
      intro x hx
      cases x with
      | tmp t =>
        have ht : t ∈ o.looksAt ops := by
          simp only [Oper.looksAt, List.mem_append, List.mem_filterMap]
          exact .inl ⟨.tmp t, by simpa using hx, rfl⟩
        exact eval_of_get (hget t ht)
      | _ => rfl
    have hexec := execOp_congr o s2 hev
    have hw : Region.wanted o (yielded ops (mix (fun j => listed.getD j false) vs 0 ops.toList a0).tmps) = Region.wanted o (yielded ops (mix (fun k => decide (k < i)) vs 0 ops.toList a0).tmps) := by
      unfold Region.wanted
      cases hg : o.guard with
      | none => rfl
      | some g =>
        obtain ⟨j, want⟩ := g
        have : yielded ops (mix (fun j => listed.getD j false) vs 0 ops.toList a0).tmps j = yielded ops (mix (fun k => decide (k < i)) vs 0 ops.toList a0).tmps j := by
          unfold yielded
          cases hj : (ops[j]?).bind (·.dst) with
          | none => rfl
          | some t =>
            have ht : t ∈ o.looksAt ops := by
              simp only [Oper.looksAt, List.mem_append]
              exact .inr (by simp [hg, hj])
            simp only [Option.bind_some, hget t ht]
        simp only [this]
    have hD : Deps R vs w o.after.toList := Deps.of fun e hm hb => hR e.on (hdone e hm hb) w (hE0 w)
    have hst := hstep i o him ho vs w he hD
    -- what is left when op i has given v in w'
    have hnext : ∀ v w', E w w' → (∀ w'', E w' w'' → R i w'' v) →
        wpAnyIn (AtRound ro) n P .any ops Q fuel (listed.setIfInBounds i true) ((mix (fun j => listed.getD j false) vs 0 ops.toList a0).put o.dst v) w' := by
      intro v w' hew hr
      have hup : ∀ j, (listed.setIfInBounds i true).getD j false = if j = i then true else listed.getD j false := by
        intro j
        simp only [Array.getD_eq_getD_getElem?, Array.getElem?_setIfInBounds]
        by_cases e : i = j
        · subst e; simp [hsz, hin]
        · rw [if_neg e, if_neg (fun h => e h.symm)]
      have hmix : (mix (fun j => listed.getD j false) vs 0 ops.toList a0).put o.dst v =
          mix (fun j => (listed.setIfInBounds i true).getD j false) (fun j => if j = i then v else vs j) 0 ops.toList a0 := by
        refine act_ext (by simp [put_size, mix_size]) (by simp [put_defers, mix_defers]) (fun t => ?_)
        rw [put_get, mix_size]
        by_cases hd : o.dst = some t
        · rw [if_pos hd, mix_get, lastW_at _ _ t ops.toList 0 i o (by simpa using ho) hd (by rw [hup]; simp) (fun j p hj hd' => (s4 j p t (by simpa using hj) hd' hd).symm)]
          simp
        · rw [if_neg hd, mix_get, mix_get]
          rw [lastW_congr (fun j => listed.getD j false) (fun j => (listed.setIfInBounds i true).getD j false) vs (fun j => if j = i then v else vs j) t ops.toList 0 (fun j p hj hd' => ?_)]
          simp only [Nat.zero_add]
          have hne : j ≠ i := by
            intro e
            subst e
            have : p = o := by
              have h1 : ops[j]? = some p := by simpa using hj
              rw [ho] at h1
              exact (Option.some.inj h1).symm
            exact hd (this ▸ hd')
          simp [hup, hne]
      rw [hmix]
      refine ih _ _ _ (by simp [hsz]) ?_ (hE he hew) ?_ ?_ ?_
      · have := unl_mark (L := fun j => listed.getD j false) (L' := fun j => (listed.setIfInBounds i true).getD j false) hLi' (by simp [hup]) (fun j hj => by simp [hup, hj]) m him
        omega
      · intro j hj
        rw [hup] at hj
        by_cases e : j = i
        · omega
        · rw [if_neg e] at hj
          exact hlm j hj
      · intro j hj w2 hw2
        by_cases e : j = i
        · subst e
          simpa using hr w2 hw2
        · simp only [if_neg e]
          refine hR j ?_ w2 (hE hew hw2)
          rw [hup, if_neg e] at hj
          exact hj
      · intro j p hp hj e hm hb
        rw [hup] at hj ⊢
        by_cases ej : j = i
        · subst ej
          have : p = o := by rw [ho] at hp; exact (Option.some.inj hp).symm
          subst this
          split
          · rfl
          · exact hdone e hm hb
        · rw [if_neg ej] at hj
          split
          · rfl
          · exact hcl j p hp hj e hm hb
    refine wpOp_in ro hQ hnd ?_
    simp only [wpOp, ho, hw]
    split
    · rename_i hwt
      rw [if_pos hwt] at hst
      refine .inl ?_
      unfold Oper.wp
      unfold Gives at hst
      rw [hexec]
      generalize (execOp (mix (fun k => decide (k < i)) vs 0 ops.toList a0).eval o).run P w = r at hst
      cases r with
      | halt x w' => simp at hst
      | ok x w' =>
        cases x with
        | value v => exact hnext v w' hst.1 hst.2
        | skip => exact hnext undef w' hst.1 hst.2
        | enter g args =>
          simp only [Oper.upon]
          refine Calls.mono hst ?_
          rintro e w'' ⟨v, rfl, h1, h2⟩
          exact hnext v w'' h1 h2
        | _ => simp at hst
    · rename_i hwt
      rw [if_neg hwt] at hst
      exact hnext undef w (hE0 w) hst

/-- The law, at the orders. -/
theorem wpAny_rely5 {n : Nat} {ro : Option Nat} {l : List Oper} {a : Act} {w : World} (hQ : ¬ LetsOut Q) (hnd : ∀ (i : Nat) (o : Oper), l.toArray[i]? = some o → ∀ c, o.op ≠ .defer c) (m : Nat) (hs : sane l.toArray = true) (ht : tailOk3 l.toArray m = true)
    (E : World → World → Prop) (hE0 : ∀ w, E w w) (hE : ∀ {a b c}, E a b → E b c → E a c)
    (R : Nat → World → Value → Prop) (h : Rely P l.toArray E R w.drew (fun _ a w => wpListIn (AtRound ro) n P l.toArray Q (l.drop m) a w) [] 0 (fun _ => a) (l.take m)) : wpAnyIn (AtRound ro) n P .any l.toArray Q l.toArray.size (Array.replicate l.toArray.size false) a w.drew := by
  obtain ⟨h1, h2⟩ := rely_get (l.take m) 0 _ h
  obtain ⟨hmn, _⟩ := tailOk3_spec ht
  have hmn' : m ≤ l.length := by simpa using hmn
  have h0 : ∀ j, (Array.replicate l.toArray.size false).getD j false = false := by
    intro j
    simp only [Array.getD_eq_getD_getElem?, Array.getElem?_replicate]
    split <;> rfl
  have hmix : ∀ vs : Nat → Value, mix (fun j => (Array.replicate l.toArray.size false).getD j false) vs 0 l.toArray.toList a = a := by
    intro vs
    refine act_ext (by simp [mix_size]) (by simp [mix_defers]) (fun t => ?_)
    rw [mix_get, lastW_none _ _ _ _ _ (fun j o _ _ => h0 _)]
  have hdrop : ∀ (L : Nat → Bool) (vs : Nat → Value) (t : Nat), (∀ j, L j = true → j < m) → lastW L vs t 0 l = lastW L vs t 0 (l.take m) := by
    intro L vs t hL
    have gen : ∀ (l1 l2 : List Oper) (i : Nat), (∀ j, L j = true → j < i + l1.length) → lastW L vs t i (l1 ++ l2) = lastW L vs t i l1 := by
      intro l1
      induction l1 with
      | nil =>
        intro l2 i hj
        rw [List.nil_append, lastW_none L vs t l2 i (fun j o _ _ => by
          cases hb : L (i + j) with
          | false => rfl
          | true => have h9 := hj _ hb; simp only [List.length_nil] at h9; omega)]
        rfl
      | cons o l1 ih =>
        intro l2 i hj
        simp only [List.cons_append, lastW]
        rw [ih l2 (i + 1) (fun j h => by have := hj j h; simp only [List.length_cons] at this; omega)]
    have := gen (l.take m) (l.drop m) 0 (fun j h => by have := hL j h; simp only [List.length_take]; omega)
    rwa [List.take_append_drop] at this
  have hmixd : ∀ (k : Nat) (vs : Nat → Value), k ≤ m → mix (fun j => decide (j < k)) vs 0 l a = mix (fun j => decide (j < k)) vs 0 (l.take m) a := by
    intro k vs hk
    refine act_ext (by simp [mix_size]) (by simp [mix_defers]) (fun t => ?_)
    rw [mix_get, mix_get, hdrop _ vs t (fun j hj => by simp at hj; omega)]
  have hmixt : ∀ (vs : Nat → Value), mix (fun _ => true) vs 0 (l.take m) a = mix (fun k => decide (k < m)) vs 0 (l.take m) a := by
    intro vs
    refine act_ext (by simp [mix_size]) (by simp [mix_defers]) (fun t => ?_)
    rw [mix_get, mix_get, lastW_congr (fun _ => true) (fun k => decide (k < m)) vs vs t (l.take m) 0 (fun j o hj _ => ⟨by
      have := (List.getElem?_eq_some_iff.1 hj).1
      simp only [List.length_take] at this
      simp
      omega, fun _ => rfl⟩)]
  have := rely_sound5 (ro := ro) (n := n) (Q := Q) (a0 := a) hQ hnd hE0 hE hs ht (fun j o hj ho => by
      have h3 := h1 j o (by rw [List.getElem?_take, if_pos hj]; simpa using ho)
      simp only [Nat.zero_add] at h3
      have he : (fun vs => mix (fun k => decide (k < j)) vs 0 l.toArray.toList a) = (fun vs => mix (fun k => decide (k < j)) vs 0 (l.take m) a) := funext fun vs => hmixd j vs (by omega)
      rw [he]
      exact h3)
    (fun vs w' he hr => by
      have h3 := h2 vs w' he (fun j hj => hr j (by simp only [List.length_take] at hj; omega))
      rw [hmixt vs, ← hmixd m vs (Nat.le_refl _)] at h3
      have h4 : wpListIn (AtRound ro) n P l.toArray Q (l.drop m) (mix (fun k => decide (k < m)) vs 0 l a) w' := h3
      simpa using h4)
    l.toArray.size (Array.replicate l.toArray.size false) (fun _ => undef) w.drew (by simp) (by
      have : ∀ n, unl (fun j => (Array.replicate l.toArray.size false).getD j false) n ≤ n := by
        intro n
        induction n with
        | zero => exact Nat.le_refl _
        | succ n ih => simp only [unl, h0, Bool.false_eq_true, if_false] at ih ⊢; omega
      have := this m
      omega) (hE0 _) (fun j hj => by rw [h0] at hj; cases hj) (fun j hj => by rw [h0] at hj; cases hj) (fun j o _ hj => by rw [h0] at hj; cases hj)
  rw [hmix] at this
  exact this


/-- The law, in a round. -/
theorem wpIn_region_rely5 {n id : Nat} {l : List Oper} {a : Act} {w : World} {F : Fence} (hF : ∃ ro, F = AtRound ro) (hQ : ¬ LetsOut Q) (hnd : l.all (fun o => match o.op with | .defer _ => false | _ => true) = true) (hm : P.follows .mixedOrders = true) (m : Nat) (hs : sane l.toArray = true) (ht : tailOk3 l.toArray m = true)
    (E : World → World → Prop) (hE0 : ∀ w, E w w) (hE : ∀ {a b c}, E a b → E b c → E a c)
    (R : Nat → World → Value → Prop) (h : Rely P l.toArray E R w.drew (fun _ a w => wpListIn F n P l.toArray Q (l.drop m) a w) [] 0 (fun _ => a) (l.take m)) : (Code.region id l.toArray true).wpIn F n P Q a w := by
  obtain ⟨ro, rfl⟩ := hF
  refine wpIn_region_any hm (wpAny_rely5 hQ (fun i o ho c e => ?_) m hs ht E hE0 hE R h)
  rw [List.all_eq_true] at hnd
  have := hnd o (List.mem_of_getElem? (by simpa using ho))
  rw [e] at this
  cases this
end
end Go.Proofs.YtdedphhohiioiaaDoor
/- The iterators over the ends of chains: a leaf's, and those that a signature runs to. -/
namespace Go.Proofs.YtdedphhohiioiaaDoor
open Go.RowKit Go.Shelf
attribute [local go_sem] Oper.semAt_some

theorem abide_ext {β : Type} {B : Nat} {J : β → World → Prop} (hJ : AbidesFrom B J) {s : β} {w w' : World} (h : J s w) (hb : Below w.heap.size w w') : J s w' :=
  hJ s w w' none h ⟨hb.os, hb.tape, hb.output, hb.size, fun k hk _ => hb.block k hk⟩ (fun r e => by cases e)
theorem bel_drew1 {w w' : World} (h : Ext w.drew w') : Below w.heap.size w w' := ext_of_drew h
theorem wpList_done {P : Program} {ops : Array Oper} {T : Act → World → Prop} {a : Act} {w : World} (h : T a w) : wpList P ops (fun _ => T) [] a w := h
/-- What a round keeps: what lay there ahead, and every block of ints. -/
def Kp3 (n₀ : Nat) (W W' : World) : Prop := Below n₀ W W' ∧ ∀ (k : Nat) (cs : Array Value), W.heap[k]? = some (Obj.cells cs 3 (0, 0)) → W'.heap[k]? = some (Obj.cells cs 3 (0, 0))
theorem kp3_t {n₀ : Nat} {A B C : World} (h : Kp3 n₀ A B) (k : Kp3 n₀ B C) : Kp3 n₀ A C := ⟨h.1.trans k.1, fun i cs hi => k.2 i cs (h.2 i cs hi)⟩
theorem kp3_b {n₀ : Nat} {w : World} (hn : n₀ ≤ w.heap.size) (W : World) (l : Nat) (o o' : Obj) (hl : w.heap.size ≤ l) (h : W.heap[l]? = some o) (hc : o.isCells = false) (hw : o.isWalk = false) : Kp3 n₀ W (W.putObj l o') :=
  ⟨belowK_b hn W l o o' hl h hc hw, fun k cs hk => by
    have hne : k ≠ l := fun e => by subst e; rw [hk] at h; cases h; cases hc
    exact (World.putObj_heap_other hne).trans hk⟩
theorem kp3_below {n₀ : Nat} {W W' : World} (hn : n₀ ≤ W.heap.size) (h : Below W.heap.size W W') : Kp3 n₀ W W' := ⟨h.mono hn, fun _ _ hk => blk_below hk h⟩
/-- What a round of a loop over an iterator of digests does, as the iterator sees it. -/
abbrev RoundsD (n : Nat) (l : Nat) (n₀ N : Nat) (J Jx : List Dg → World → Prop) : Prop :=
  ∀ pre x W1, J pre W1 → pre.length < N → YieldAt Fence.wide (n - 1) Tryd.prog l #[dgv x] W1 fun e W' =>
    (e = .returned (.bool true) ∧ J (pre ++ [x]) W' ∧ Kp3 n₀ W1 W') ∨ (e = .returned (.bool false) ∧ Jx (pre ++ [x]) W')
def pubD (l : Int) (x : List Int) (i : Nat) : List Dg := (List.range i).map fun j => ⟨pubAt l x j, pubAt_good l x j⟩
theorem pubD_succ (l : Int) (x : List Int) (i : Nat) : pubD l x (i + 1) = pubD l x i ++ [⟨pubAt l x i, pubAt_good l x i⟩] := by simp [pubD, List.range_succ]
theorem pubD_len (l : Int) (x : List Int) (i : Nat) : (pubD l x i).length = i := by simp [pubD]
theorem pubD_val (l : Int) (x : List Int) (i : Nat) : (pubD l x i).map (·.1) = pubE l x i := by simp [pubD, pubE]

set_option maxHeartbeats 4000000 in
set_option maxRecDepth 100000 in
theorem pub_in (n : Nat) (hn : 1 ≤ n) (l bS bL : Nat) (x : List Int) (lf : Int) (w0 W : World) (J Jx : List Dg → World → Prop)
    (hW : Below w0.heap.size w0 W) (hJ : AbidesFrom W.heap.size J) (hY : RoundsD n l w0.heap.size 68 J Jx) (hS : w0.rangeAt bS 0 (u8s x)) (hLf : w0.cell? ⟨bL, 0, none⟩ = some (.int .i64 lf))
    (hl : x.length = 16) (hx : u8s_ok x) (hk : w0.rangeAt 18 0 (u32s kk)) (h18 : 18 < w0.heap.size) (h0 : J [] W) :
    CallsIn Fence.wide n Tryd.prog 86 #[.func (.yield l) #[] #[], .pointer (some ⟨bS, 0, none⟩), .pointer (some ⟨bL, 0, none⟩)] W fun e W' => (∃ v, e = .returned v) ∧
      ((∃ ys, ys = pubD lf x 68 ∧ J ys W') ∨ (∃ pre, True ∧ Jx pre W')) := by
  have hi43 : ∀ V : List Int, V.length = 16 → (Tryd.prog.info? 43).map (·.size) = some (u8s V).length := fun V h => by rw [u8s_len', h]; exact Tryd.size43
  have HJ := Lib.hid hJ
  have HY := Lib.hid hY
  have J0 := Lib.hid h0
  have HS := Lib.hid hS
  have HLF := Lib.hid hLf
  have HL := Lib.hid hl
  have HX := Lib.hid hx
  have HKW := Lib.hid hk
  clear hY hJ h0 hS hLf hl hx hk
  refine callsIn_of_wp Tryd.func86 rfl trivial ?_ rfl
  simp only [Tryd.ntmps86, List.size_toArray, List.length_cons, List.length_nil, Nat.reduceAdd, Nat.reduceSub, Array.replicate_succ, Array.replicate_zero, List.push_toArray, List.append_toArray, List.nil_append, List.cons_append]
  gi_wp2
  gi_loopw [5] (fun i wr => ∃ k : Nat, k ≤ 68 ∧ i = .int .i64 k ∧ Hid (J (pubD lf x k) wr) ∧ Hid (Below w0.heap.size w0 wr) ∧ Hid (W.heap.size ≤ wr.heap.size))
    (fun i _ => 68 - (intOf i).toNat)
  case atStart => exact ⟨0, Nat.zero_le _, rfl, J0, Lib.hid hW, Lib.hid (Nat.le_refl _)⟩
  case round =>
    obtain ⟨k, hk, rfl, hJs, hbel, hsz⟩ := hrel
    by_cases hlt : k < 68
    · have h18 : 18 < wr.heap.size := Nat.lt_of_lt_of_le h18 hbel.out.size
      have RA := Lib.hid (range_below HS.out hbel.out)
      have CL := Lib.hid (cell_on hbel.out HLF.out)
      have HK := Lib.hid (range_below HKW.out hbel.out)
      obtain ⟨SE, hSE⟩ : ∃ s, s = secretC lf k x := ⟨_, rfl⟩
      have hsg := secret_good lf k x
      rw [← hSE] at hsg
      have HSL := Lib.hid hsg.1
      have HSO := Lib.hid hsg.2
      have HSE := Lib.hid hSE
      clear hsg hSE
      have hil : (k : Int) < 68 := by omega
      gi_wp2_with fail
      refine wpIn_region_rely5 wideF ?hq (by kernel_rfl) (by kernel_rfl) 8 (by kernel_rfl) (by kernel_rfl) Ext Ext.refl Ext.trans (fun ix => match ix with
        | 0 => fun _ v => v = .func (.yield l) #[] #[]
        | 1 => fun _ v => v = .agg (u8s x).toArray
        | 2 => fun _ v => v = .int .i64 lf
        | 3 => fun _ v => v = .int .i64 k
        | 4 => fun _ v => v = .agg (u8s SE).toArray
        | 5 => fun _ v => v = .int .i64 lf
        | 6 => fun _ v => v = .int .i64 k
        | 7 => fun _ v => v = .agg (u8s (pubAt lf x k)).toArray
        | _ => fun _ _ => False) ?_
      case hq => (rintro ⟨_, _, h⟩; exact nomatch h.1)
      simp (maxSteps := 10000000) only [Rely, List.take_succ_cons, List.take_zero, List.drop_succ_cons, List.drop_zero, Nat.reduceAdd, Nat.zero_add, Act.put, List.setIfInBounds_toArray, List.set_cons_succ, List.set_cons_zero]
      refine ⟨?_, ?_, ?_, ?_, ?_, ?_, ?_, ?_, ?_⟩
      · refine step_plain rfl fun vs wq hE hd => ?_
        exact gives_move _ (.func (.yield l) #[] #[]) (.inl rfl) rfl ⟨Ext.refl _, fun _ _ => rfl⟩
      · refine step_plain rfl fun vs wq hE hd => ?_
        exact gives_load_row 43 _ rfl bS 0 rfl (u8s x) _ (range_below RA.out (bel_drew1 hE)) Tryd.underlying43 rfl (hi43 x HL.out) ⟨Ext.refl _, fun _ _ => rfl⟩
      · refine step_plain rfl fun vs wq hE hd => ?_
        have hc := cell_on (bel_drew1 hE) CL.out
        exact gives_loadAt 3 _ rfl (.pointer (some ⟨bL, 0, none⟩)) (.int .i64 lf) rfl (by go_simp) ⟨Ext.refl _, fun _ _ => rfl⟩
      · refine step_plain rfl fun vs wq hE hd => ?_
        exact gives_move _ (.int .i64 k) (.inl rfl) rfl ⟨Ext.refl _, fun _ _ => rfl⟩
      · refine step_plain rfl fun vs wq hE hd => ?_
        refine gives_call 38 (enters_of Tryd.func38 (by kernel_rfl) rfl) _ _ rfl rfl [.agg (u8s x).toArray, .int .i64 lf, .int .i64 k] ?_ ?_
        · show [vs 1, vs 2, vs 3] = _
          rw [show vs 1 = _ from (hd.1), show vs 2 = _ from (hd.2.1), show vs 3 = _ from (hd.2.2.1)]
        · refine (secret_any x HL.out HX.out lf k wq (range_below HK.out (bel_drew1 hE)) (Nat.lt_of_lt_of_le h18 (bel_drew1 hE).size)).mono ?_
          rintro _ w'' ⟨rfl, hb⟩
          exact ⟨_, rfl, hb, fun _ _ => by rw [HSE.out]; rfl⟩
      · refine step_plain rfl fun vs wq hE hd => ?_
        have hc := cell_on (bel_drew1 hE) CL.out
        exact gives_loadAt 3 _ rfl (.pointer (some ⟨bL, 0, none⟩)) (.int .i64 lf) rfl (by go_simp) ⟨Ext.refl _, fun _ _ => rfl⟩
      · refine step_plain rfl fun vs wq hE hd => ?_
        exact gives_move _ (.int .i64 k) (.inl rfl) rfl ⟨Ext.refl _, fun _ _ => rfl⟩
      · refine step_plain rfl fun vs wq hE hd => ?_
        refine gives_call 37 (enters_of Tryd.func37 (by kernel_rfl) rfl) _ _ rfl rfl [.agg (u8s SE).toArray, .int .i64 lf, .int .i64 k, .int .i64 0, .int .i64 3] ?_ ?_
        · show [vs 4, vs 5, vs 6, Value.int .i64 0, Value.int .i64 3] = _
          rw [show vs 4 = _ from (hd.1), show vs 5 = _ from (hd.2.1), show vs 6 = _ from (hd.2.2.1)]
        · refine (run_any SE HSL.out HSO.out lf k 0 3 wq (range_below HK.out (bel_drew1 hE)) (Nat.lt_of_lt_of_le h18 (bel_drew1 hE).size)).mono ?_
          rintro _ w'' ⟨rfl, hb⟩
          exact ⟨_, rfl, hb, fun _ _ => by rw [HSE.out]; rfl⟩
      · intro vs w2 hE hR

        have h0 : vs 0 = _ := hR 0 (by omega)
        have h7 : vs 7 = _ := hR 7 (by omega)
        rw [h0, h7]
        have L1 : Below wr.heap.size wr w2 := ext_of_drew hE
        have B1 := Lib.hid (hbel.out.trans (L1.mono hbel.out.size))
        have S1 := Lib.hid (Nat.le_trans hsz.out L1.size)
        obtain ⟨fn, tmps, assign, body, hy, hRR⟩ := HY.out _ (⟨pubAt lf x k, pubAt_good lf x k⟩) w2 (abide_ext HJ.out hJs.out L1) (by rw [pubD_len]; omega)
        have HRR := Lib.hid hRR
        simp only [dgv] at hy
        clear hR hE h0 h7 L1 hRR hJs hbel hsz
        refine wpList_done ?_
        gi_wp2_with fail
        refine HRR.out.mono ?_
        rintro e W3 (⟨rfl, hJ3, hk3⟩ | ⟨rfl, hJx3⟩)
        · have B3 := Lib.hid (B1.out.trans hk3.1)
          have S3 := Lib.hid (Nat.le_trans S1.out hk3.1.size)
          have J3 := Lib.hid hJ3
          clear hJ3 hk3 HRR hy
          gi_wp2
          go_roundw
          case rel => exact ⟨k + 1, by omega, by go_num, Lib.hid (by rw [pubD_succ]; exact J3.out), B3, S3⟩
          case measure => simp [intOf]; omega
        · clear HRR hy
          gi_wp2
          refine bodyPost_ret (results_none rfl _ _ _) rfl ?_
          exact ⟨⟨_, rfl⟩, .inr ⟨_, trivial, hJx3⟩⟩
    · obtain rfl : k = 68 := by omega
      gi_wp2
      go_end0
      exact ⟨⟨_, rfl⟩, .inl ⟨_, rfl, hJs.out⟩⟩
theorem pub_stops (n : Nat) (hn : 1 ≤ n) (bS bL : Nat) (x : List Int) (lf : Int) (w0 : World) (hS : w0.rangeAt bS 0 (u8s x)) (hLf : w0.cell? ⟨bL, 0, none⟩ = some (.int .i64 lf)) (hl : x.length = 16) (hx : u8s_ok x) (hk : w0.rangeAt 18 0 (u32s kk)) (h18 : 18 < w0.heap.size) :
    SeqStopsK Fence.wide n Tryd.prog 86 #[.pointer (some ⟨bS, 0, none⟩), .pointer (some ⟨bL, 0, none⟩)] (fun x : Dg => #[dgv x]) (Kp3 w0.heap.size) (fun ys => ys = pubD lf x 68) (fun _ => True) 68 w0 :=
  fun l J Jx W hW hJ _ hY h0 => pub_in n hn l bS bL x lf w0 W J Jx hW hJ hY hS hLf hl hx hk h18 h0
end Go.Proofs.YtdedphhohiioiaaDoor
/- The iterator over the ends that a signature runs to. -/
namespace Go.Proofs.YtdedphhohiioiaaDoor
open Go.RowKit Go.Shelf
attribute [local go_sem] Oper.semAt_some

open Classical in
/-- A digest, as one. -/
noncomputable def mkD (x : List Int) : Dg := if h : x.length = 16 ∧ u8s_ok x then ⟨x, h⟩ else ⟨short 0 [], short_len _ _, short_ok _ _⟩
theorem mkD_val {x : List Int} (h : x.length = 16 ∧ u8s_ok x) : (mkD x).1 = x := by unfold mkD; rw [dif_pos h]
noncomputable def recD (l : Int) (ds : List (List Int)) (m : List Int) (i : Nat) : List Dg := (List.range i).map fun j => mkD (recAt l ds m j)
theorem recD_succ (l : Int) (ds : List (List Int)) (m : List Int) (i : Nat) : recD l ds m (i + 1) = recD l ds m i ++ [mkD (recAt l ds m i)] := by simp [recD, List.range_succ]
theorem recD_len (l : Int) (ds : List (List Int)) (m : List Int) (i : Nat) : (recD l ds m i).length = i := by simp [recD]
theorem recD_val (l : Int) (ds : List (List Int)) (m : List Int) (i : Nat) (h : ∀ j, j < i → (ds.getD j []).length = 16 ∧ u8s_ok (ds.getD j [])) : (recD l ds m i).map (·.1) = recE l ds m i := by
  unfold recD recE
  rw [List.map_map]
  refine List.map_congr_left fun j hj => ?_
  exact mkD_val (recAt_good l ds m j (h j (List.mem_range.1 hj)))

theorem ints_block {w2 : World} {B n : Nat} {dv : Value} {xs : List Value} (hn : 0 < n) (h : w2.ownsRow B 3 1 dv n xs) : ∃ db dc cur, dv = .slice (some ⟨db, 0, none⟩) n dc ∧ B ≤ db ∧ w2.heap[db]? = some (.cells cur 3 (0, 0)) ∧ cur.toList.take n = xs := by
  rcases h.2 with ⟨e, h0⟩ | ⟨g, cap, cur, e, hb, hg, hnc, hm', hs, ht⟩
  · exact absurd h0 (by omega)
  · exact ⟨g, cap, cur, e, hb, hg, by simpa using ht⟩

set_option maxHeartbeats 4000000 in
set_option maxRecDepth 100000 in
theorem rec_in (n : Nat) (hn : 1 ≤ n) (l bD bC bL : Nat) (m : List Int) (ds : List (List Int)) (A : Option Addr) (c : Nat) (lf : Int) (w0 W : World) (J Jx : List Dg → World → Prop)
    (hW : Below w0.heap.size w0 W) (hJ : AbidesFrom W.heap.size J) (hY : RoundsD n l w0.heap.size 68 J Jx) (hS : w0.rangeAt bD 0 (u8s m)) (hC : w0.cell? ⟨bC, 0, none⟩ = some (.slice A 68 c)) (hd : Dgs w0 (.slice A 68 c) ds) (hds : ds.length = 68) (hLf : w0.cell? ⟨bL, 0, none⟩ = some (.int .i64 lf))
    (hlm : m.length = 16) (hm : u8s_ok m) (hk : w0.rangeAt 18 0 (u32s kk)) (h18 : 18 < w0.heap.size) (h0 : J [] W) :
    CallsIn Fence.wide n Tryd.prog 85 #[.func (.yield l) #[] #[], .pointer (some ⟨bD, 0, none⟩), .pointer (some ⟨bC, 0, none⟩), .pointer (some ⟨bL, 0, none⟩)] W fun e W' => (∃ v, e = .returned v) ∧
      ((∃ ys, ys = recD lf ds m 68 ∧ J ys W') ∨ (∃ pre, True ∧ Jx pre W')) := by
  have hi43 : ∀ V : List Int, V.length = 16 → (Tryd.prog.info? 43).map (·.size) = some (u8s V).length := fun V h => by rw [u8s_len', h]; exact Tryd.size43
  obtain ⟨b, off, c', he, hc1, hc2, hc3, hrow⟩ := hd.cells (by intro e; rw [e] at hds; simp at hds)
  simp only [Value.slice.injEq] at he
  obtain ⟨rfl, -, rfl⟩ := he
  rw [hds] at hc1 hrow
  have hdig := hd.at
  rw [hds] at hdig
  have HJ := Lib.hid hJ
  have HY := Lib.hid hY
  have J0 := Lib.hid h0
  have HS := Lib.hid (range_below hS hW)
  have HC := Lib.hid hC
  have HDG := Lib.hid hdig
  have HROW := Lib.hid hrow
  have HLF := Lib.hid hLf
  have HLM := Lib.hid hlm
  have HM := Lib.hid hm
  have HKW := Lib.hid hk
  have HC1 := Lib.hid hc1
  clear hY hJ h0 hS hLf hlm hm hk hd hdig hrow hC hc2 hc3 hc1 hds
  refine callsIn_of_wp Tryd.func85 rfl trivial ?_ rfl
  simp only [Tryd.ntmps85, List.size_toArray, List.length_cons, List.length_nil, Nat.reduceAdd, Nat.reduceSub, Array.replicate_succ, Array.replicate_zero, List.push_toArray, List.append_toArray, List.nil_append, List.cons_append]
  gi_wp2_with (first | (refine wpListIn_load_g wideF rfl 43 (.tmp 1) rfl bD 0 rfl (u8s m) _ HS.out Tryd.underlying43 rfl (hi43 m HLM.out) ?_) | (refine ⟨trivial, ?_⟩; gi_at_call 49; refine (callsIn_wide.2 (digits_any m HLM.out HM.out W)).mono ?_; rintro _ w2 ⟨dv, rfl, hdown, hb2⟩; obtain ⟨db, dc, cur, he, hdb, hcur, htk⟩ := ints_block (by decide) hdown; subst he))
  have hdl : (digits m).length = 68 := by
    have := hdown.1
    simpa [i64s] using this
  have HCUR := Lib.hid hcur
  have HDL := Lib.hid hdl
  have HTK := Lib.hid htk
  have B2 := Lib.hid (hW.trans (hb2.mono hW.size))
  have J2 := Lib.hid (abide_ext HJ.out J0.out hb2)
  have S2 := Lib.hid hb2.size
  clear hdown hb2 hdl hcur htk HS J0
  gi_loopw [10] (fun i wr => ∃ k : Nat, k ≤ 68 ∧ i = .int .i64 k ∧ Hid (J (recD lf ds m k) wr) ∧ Hid (Below w0.heap.size w0 wr) ∧ Hid (W.heap.size ≤ wr.heap.size) ∧ Hid (wr.heap[db]? = some (.cells cur 3 (0, 0))))
    (fun i _ => 68 - (intOf i).toNat)
  case atStart => exact ⟨0, Nat.zero_le _, rfl, J2, B2, S2, HCUR⟩
  case round =>
    clear J2 B2 S2 HCUR
    obtain ⟨k, hk, rfl, hJs, hbel, hsz, hcur⟩ := hrel
    by_cases hlt : k < 68
    · have h18 : 18 < wr.heap.size := Nat.lt_of_lt_of_le h18 hbel.out.size
      have RA := Lib.hid (range_below (HROW.out k hlt) hbel.out)
      have CL := Lib.hid (cell_on hbel.out HLF.out)
      have CC := Lib.hid (cell_on hbel.out HC.out)
      have HK := Lib.hid (range_below HKW.out hbel.out)
      have hc0 : wr.cell? ⟨db, k, none⟩ = some (.int .i64 ((digits m).getD k 0)) := by
        rw [cell_of_row _ _ _ _ _ _ hcur.out]
        have h1 : (cur.toList.take 68)[k]? = some (.int .i64 ((digits m).getD k 0)) := by
          rw [HTK.out]
          simp [i64s, List.getD_eq_getElem?_getD, List.getElem?_eq_getElem (show k < (digits m).length by rw [HDL.out]; exact hlt)]
        rw [List.getElem?_take, if_pos hlt] at h1
        simpa using h1
      obtain ⟨dj, hdj⟩ : ∃ d, d = (digits m).getD k 0 := ⟨_, rfl⟩
      obtain ⟨SE, hSE⟩ : ∃ s, s = ds.getD k [] := ⟨_, rfl⟩
      obtain ⟨R, hR⟩ : ∃ r, r = recAt lf ds m k := ⟨_, rfl⟩
      have hsg := HDG.out k hlt
      have hrg := recAt_good lf ds m k hsg
      have hre : R = runC lf k SE dj 3 := by rw [hR, hSE, hdj]; rfl
      rw [← hSE] at hsg RA
      rw [← hR] at hrg
      rw [← hdj] at hc0
      have HSL := Lib.hid hsg.1
      have HSO := Lib.hid hsg.2
      have HRE := Lib.hid hre
      have HRA := Lib.hid hR
      have HRG := Lib.hid (mkD_val hrg)
      clear hsg hSE hrg hre hR hdj
      have hil : (k : Int) < 68 := by omega
      gi_wp2_with fail
      refine wpIn_region_rely5 wideF ?hq (by kernel_rfl) (by kernel_rfl) 9 (by kernel_rfl) (by kernel_rfl) Ext Ext.refl Ext.trans (fun ix => match ix with
        | 0 => fun _ v => v = .func (.yield l) #[] #[]
        | 1 => fun _ v => v = .slice (some ⟨b, off, none⟩) 68 c
        | 2 => fun _ v => v = .int .i64 k
        | 3 => fun _ v => v = .pointer (some ⟨b, off + k * 16, none⟩)
        | 4 => fun _ v => v = .agg (u8s SE).toArray
        | 5 => fun _ v => v = .int .i64 lf
        | 6 => fun _ v => v = .int .i64 k
        | 7 => fun _ v => v = .int .i64 dj
        | 8 => fun _ v => v = .agg (u8s R).toArray
        | _ => fun _ _ => False) ?_
      case hq => (rintro ⟨_, _, h⟩; exact nomatch h.1)
      simp (maxSteps := 10000000) only [Rely, List.take_succ_cons, List.take_zero, List.drop_succ_cons, List.drop_zero, Nat.reduceAdd, Nat.zero_add, Act.put, List.setIfInBounds_toArray, List.set_cons_succ, List.set_cons_zero]
      refine ⟨?_, ?_, ?_, ?_, ?_, ?_, ?_, ?_, ?_, ?_⟩
      · refine step_plain rfl fun vs wq hE hd => ?_
        exact gives_move _ (.func (.yield l) #[] #[]) (.inl rfl) rfl ⟨Ext.refl _, fun _ _ => rfl⟩
      · refine step_plain rfl fun vs wq hE hd => ?_
        have hc := cell_on (bel_drew1 hE) CC.out
        exact gives_loadAt 55 _ rfl (.pointer (some ⟨bC, 0, none⟩)) (.slice (some ⟨b, off, none⟩) 68 c) rfl (by go_simp) ⟨Ext.refl _, fun _ _ => rfl⟩
      · refine step_plain rfl fun vs wq hE hd => ?_
        exact gives_move _ (.int .i64 k) (.inl rfl) rfl ⟨Ext.refl _, fun _ _ => rfl⟩
      · refine step_plain rfl fun vs wq hE hd => ?_
        exact gives_indexAt 55 _ _ rfl (.slice (some ⟨b, off, none⟩) 68 c) (.int .i64 k) (.pointer (some ⟨b, off + k * 16, none⟩)) (show vs 1 = _ from hd.1) (show vs 2 = _ from hd.2.1) (by go_simp) ⟨Ext.refl _, fun _ _ => rfl⟩
      · refine step_plain rfl fun vs wq hE hd => ?_
        exact gives_load_row 43 _ rfl b (off + k * 16) (show vs 3 = _ from (hd.1)) (u8s SE) _ (range_below RA.out (bel_drew1 hE)) Tryd.underlying43 rfl (hi43 SE HSL.out) ⟨Ext.refl _, fun _ _ => rfl⟩
      · refine step_plain rfl fun vs wq hE hd => ?_
        have hc := cell_on (bel_drew1 hE) CL.out
        exact gives_loadAt 3 _ rfl (.pointer (some ⟨bL, 0, none⟩)) (.int .i64 lf) rfl (by go_simp) ⟨Ext.refl _, fun _ _ => rfl⟩
      · refine step_plain rfl fun vs wq hE hd => ?_
        exact gives_move _ (.int .i64 k) (.inl rfl) rfl ⟨Ext.refl _, fun _ _ => rfl⟩
      · refine step_plain rfl fun vs wq hE hd => ?_
        exact gives_move _ (.int .i64 dj) (.inl rfl) rfl ⟨Ext.refl _, fun _ _ => rfl⟩
      · refine step_plain rfl fun vs wq hE hd => ?_
        refine gives_call 37 (enters_of Tryd.func37 (by kernel_rfl) rfl) _ _ rfl rfl [.agg (u8s SE).toArray, .int .i64 lf, .int .i64 k, .int .i64 dj, .int .i64 3] ?_ ?_
        · show [vs 4, vs 5, vs 6, vs 7, Value.int .i64 3] = _
          rw [show vs 4 = _ from (hd.1), show vs 5 = _ from (hd.2.1), show vs 6 = _ from (hd.2.2.1), show vs 7 = _ from (hd.2.2.2.1)]
        · refine (run_any SE HSL.out HSO.out lf k dj 3 wq (range_below HK.out (bel_drew1 hE)) (Nat.lt_of_lt_of_le h18 (bel_drew1 hE).size)).mono ?_
          rintro _ w'' ⟨rfl, hb⟩
          exact ⟨_, rfl, hb, fun _ _ => by rw [HRE.out]; rfl⟩
      · intro vs w2 hE hR

        have h0 : vs 0 = _ := hR 0 (by omega)
        have h8 : vs 8 = _ := hR 8 (by omega)
        rw [h0, h8]
        have L1 : Below wr.heap.size wr w2 := ext_of_drew hE
        have B1 := Lib.hid (hbel.out.trans (L1.mono hbel.out.size))
        have S1 := Lib.hid (Nat.le_trans hsz.out L1.size)
        have G1 := Lib.hid (blk_below hcur.out L1)
        obtain ⟨fn, tmps, assign, body, hy, hRR⟩ := HY.out _ (mkD R) w2 (abide_ext HJ.out hJs.out L1) (by rw [recD_len]; omega)
        have HRR := Lib.hid hRR
        rw [dgv, HRG.out] at hy
        clear hR hE h0 h8 L1 hRR hJs hbel hsz hcur
        refine wpList_done ?_
        gi_wp2_with fail
        refine HRR.out.mono ?_
        rintro e W3 (⟨rfl, hJ3, hk3⟩ | ⟨rfl, hJx3⟩)
        · have B3 := Lib.hid (B1.out.trans hk3.1)
          have S3 := Lib.hid (Nat.le_trans S1.out hk3.1.size)
          have J3 := Lib.hid hJ3
          have G3 := Lib.hid (hk3.2 _ _ G1.out)
          clear hJ3 hk3 HRR hy
          gi_wp2
          go_roundw
          case rel => exact ⟨k + 1, by omega, by go_num, Lib.hid (by rw [recD_succ, ← HRA.out]; exact J3.out), B3, S3, G3⟩
          case measure => simp [intOf]; omega
        · clear HRR hy
          gi_wp2
          refine bodyPost_ret (results_none rfl _ _ _) rfl ?_
          exact ⟨⟨_, rfl⟩, .inr ⟨_, trivial, hJx3⟩⟩
    · obtain rfl : k = 68 := by omega
      gi_wp2
      go_end0
      exact ⟨⟨_, rfl⟩, .inl ⟨_, rfl, hJs.out⟩⟩
theorem rec_stops (n : Nat) (hn : 1 ≤ n) (bD bC bL : Nat) (m : List Int) (ds : List (List Int)) (A : Option Addr) (c : Nat) (lf : Int) (w0 : World) (hS : w0.rangeAt bD 0 (u8s m)) (hC : w0.cell? ⟨bC, 0, none⟩ = some (.slice A 68 c)) (hd : Dgs w0 (.slice A 68 c) ds) (hds : ds.length = 68) (hLf : w0.cell? ⟨bL, 0, none⟩ = some (.int .i64 lf))
    (hlm : m.length = 16) (hm : u8s_ok m) (hk : w0.rangeAt 18 0 (u32s kk)) (h18 : 18 < w0.heap.size) :
    SeqStopsK Fence.wide n Tryd.prog 85 #[.pointer (some ⟨bD, 0, none⟩), .pointer (some ⟨bC, 0, none⟩), .pointer (some ⟨bL, 0, none⟩)] (fun x : Dg => #[dgv x]) (Kp3 w0.heap.size) (fun ys => ys = recD lf ds m 68) (fun _ => True) 68 w0 :=
  fun l J Jx W hW hJ _ hY h0 => rec_in n hn l bD bC bL m ds A c lf w0 W J Jx hW hJ hY hS hC hd hds hLf hlm hm hk h18 h0
end Go.Proofs.YtdedphhohiioiaaDoor
