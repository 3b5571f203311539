/- Lemmas that laws of this seat rest on, part 8; each says its own conditions: ZRely4, THashBytesW, TText, TAppD, SRely4, Rely6, VSeq, VIns, VFind. -/
import Derived.RangeFuncNested
import Derived.RangeFuncBound
import Derived.RangeFuncCalls
import Derived.RangeFuncLeaves
import Derived.Shelf.Abstract
import Derived.Shelf.RegionOpen
import Derived.WalkKit
import Derived.OwnWalkIn
import Derived.TacticsInMore
import Derived.LoopNIn
import Derived.LoopIn
import Derived.WalkSpells
import Derived.Maps.AppendAt
import Derived.Deep.MidRow
import Derived.Deep.AppendSrc
import Derived.Lib.Hide
import Derived.OrdersIn
import Derived.Test.YtniknhhejlgdfaaGreatDoorRows
import Derived.StillTailTactics
import Derived.Deep.QuietTactic
import Derived.BigQuiet
import Derived.IntWalk
import Derived.Lib.ConvBytes
import Derived.Lib.SlBytesRow
import Derived.Lib.SlBytesConst
import Derived.Laws.Cover3
import Derived.OwnWalk
import Derived.Orders
import Derived.Still
import Derived.StillTactics
import Derived.Laws.Pointers
import Derived.Test.YtniknhhejlgdfaaGreatDoorBase4
import Derived.Test.YtniknhhejlgdfaaGreatDoorBase5
import Derived.Test.YtniknhhejlgdfaaGreatDoorBase7
/- The law on regions that draw their order, where one operation changes what the others leave. -/
namespace Go.Proofs.YtniknhhejlgdfaaGreatDoor
open Go.RowKit

section
variable (P : Program) (ops : Array Oper) (E Z : World → World → Prop) (mu : Nat) (R : Nat → World → Value → Prop) (w0 : World) (Q : Exit → Act → World → Prop)

def StepOk4 (f : (Nat → Value) → Act) (i : Nat) (o : Oper) : Prop :=
  ∀ vs w, E w0 w → (i = mu → Z w0 w) → Deps R vs w o.after.toList →
    if Region.wanted o (yielded ops (f vs).tmps) then Gives P o (f vs).eval w (fun v w' => E w w' ∧ (i ≠ mu → Z w w') ∧ ∀ w'', (if i = mu then Z w' w'' else E w' w'') → R i w'' v)
    else ∀ w'', R i w'' undef

def Rely4 (tl : List Oper) : Nat → ((Nat → Value) → Act) → List Oper → Prop
  | i, f, [] => ∀ vs w, E w0 w → (∀ j, j < i → R j w (vs j)) → wpList P ops Q tl (f vs) w
  | i, f, o :: rest => StepOk4 P ops E Z mu R w0 f i o ∧ Rely4 tl (i + 1) (fun vs => (f vs).put o.dst (vs i)) rest
end

section
variable {P : Program} {ops : Array Oper} {E Z : World → World → Prop} {mu : Nat} {R : Nat → World → Value → Prop} {w0 : World} {Q : Exit → Act → World → Prop} {a0 : Act}

theorem rely_get4 {tl : List Oper} : ∀ (l : List Oper) (i : Nat) (f : (Nat → Value) → Act), Rely4 P ops E Z mu R w0 Q tl i f l →
    (∀ j o, l[j]? = some o → StepOk4 P ops E Z mu R w0 (fun vs => mix (fun k => decide (k < i + j)) vs i l (f vs)) (i + j) o) ∧
    (∀ vs w, E w0 w → (∀ j, j < i + l.length → R j w (vs j)) → wpList P ops Q tl (mix (fun _ => true) vs i l (f vs)) w)
  | [], i, f, h => ⟨fun j o hj => by simp at hj, fun vs w he hr => h vs w he (fun j hj => hr j (by simpa using hj))⟩
  | p :: rest, i, f, h => by
    obtain ⟨h1, h2⟩ := h
    obtain ⟨h3, h4⟩ := rely_get4 rest (i + 1) _ h2
    constructor
    · intro j o hj
      cases j with
      | zero =>
        obtain rfl : p = o := by simpa using hj
        have e : ∀ (vs : Nat → Value), mix (fun k => decide (k < i + 0)) vs i (p :: rest) (f vs) = f vs := by
          intro vs
          simp only [mix, Nat.add_zero, Nat.lt_irrefl, decide_false, Bool.false_eq_true, if_false]
          have hn : ∀ (l : List Oper) (m : Nat) (a : Act), i ≤ m → mix (fun k => decide (k < i)) vs m l a = a := by
            intro l
            induction l with
            | nil => intro m a _; rfl
            | cons q l ih =>
              intro m a hm
              simp only [mix]
              rw [ih (m + 1) _ (by omega)]
              have e : decide (m < i) = false := decide_eq_false (by omega)
              simp [e]
          exact hn rest (i + 1) _ (by omega)
        simp only [e]
        exact h1
      | succ j =>
        have := h3 j o (by simpa using hj)
        rw [show i + (j + 1) = i + 1 + j by omega]
        simp only [mix]
        have e : decide (i < i + 1 + j) = true := decide_eq_true (by omega)
        simp only [e, if_true]
        exact this
    · intro vs w he hr
      simp only [mix, if_true]
      exact h4 vs w he (fun j hj => hr j (by simp only [List.length_cons]; omega))

theorem rely_sound4 {m : Nat} (hE0 : ∀ w, E w w) (hZ0 : ∀ w, Z w w) (hZ : ∀ {a b c}, Z a b → Z b c → Z a c) (hE : ∀ {a b c}, E a b → E b c → E a c) (hs : sane ops = true) (ht : tailOk3 ops m = true)
    (hstep : ∀ j o, j < m → ops[j]? = some o → StepOk4 P ops E Z mu R w0 (fun vs => mix (fun k => decide (k < j)) vs 0 ops.toList a0) j o)
    (hend : ∀ vs w, E w0 w → (∀ j, j < m → R j w (vs j)) → wpList P ops Q (ops.toList.drop m) (mix (fun k => decide (k < m)) vs 0 ops.toList a0) w) :
    ∀ (fuel : Nat) (listed : Array Bool) (vs : Nat → Value) (w : World), listed.size = ops.size → unl (fun j => listed.getD j false) m + (ops.size - m) ≤ fuel → E w0 w →
      (∀ j, listed.getD j false = true → j < m) →
      (∀ j, listed.getD j false = true → ∀ w', (if j = mu then Z w w' else E w w') → R j w' (vs j)) →
      (∀ j o, ops[j]? = some o → listed.getD j false = true → ∀ e ∈ o.after.toList, Region.binds .any e = true → listed.getD e.on false = true) →
      (listed.getD mu false = false → Z w0 w) →
      wpAny P .any ops Q fuel listed (mix (fun j => listed.getD j false) vs 0 ops.toList a0) w := by
  obtain ⟨hmn, htl⟩ := tailOk3_spec ht
  have hall : ∀ (fuel : Nat) (listed : Array Bool) (vs : Nat → Value) (w : World), listed.size = ops.size → unl (fun j => listed.getD j false) m = 0 → ops.size ≤ fuel + m → E w0 w →
      (∀ j, listed.getD j false = true → j < m) →
      (∀ j, listed.getD j false = true → ∀ w', (if j = mu then Z w w' else E w w') → R j w' (vs j)) → wpAny P .any ops Q fuel listed (mix (fun j => listed.getD j false) vs 0 ops.toList a0) w := by
    intro fuel listed vs w hsz hz hf he hlm hR
    have hmk := unl_zero m hz
    have hL : ∀ j, listed.getD j false = decide (j < m) := by
      intro j
      by_cases h : j < m
      · rw [hmk j h]; simp [h]
      · cases hb : listed.getD j false with
        | true => exact absurd (hlm j hb) h
        | false => simp [h]
    refine seq_sound3 hs ht fuel m listed _ w (Nat.le_refl _) hsz (fun j _ => hL j) hf hmn ?_
    have hm : mix (fun j => listed.getD j false) vs 0 ops.toList a0 = mix (fun k => decide (k < m)) vs 0 ops.toList a0 := by
      refine act_ext (by simp [mix_size]) (by simp [mix_defers]) (fun t => ?_)
      rw [mix_get, mix_get, lastW_congr _ (fun k => decide (k < m)) vs vs t ops.toList 0 (fun j o hj _ => ⟨by
        simp only [Nat.zero_add]
        exact hL j, fun _ => rfl⟩)]
    rw [hm]
    exact hend vs w he (fun j hj => hR j (hmk j hj) w (by split; exact hZ0 w; exact hE0 w))
  intro fuel
  induction fuel with
  | zero =>
    intro listed vs w hsz hu he hlm hR hcl hzz
    exact hall 0 listed vs w hsz (by omega) (by omega) he hlm hR
  | succ fuel ih =>
    intro listed vs w hsz hu he hlm hR hcl hzz
    by_cases hz : unl (fun j => listed.getD j false) m = 0
    · exact hall (fuel + 1) listed vs w hsz hz (by omega) he hlm hR
    have hnot : ¬ ∀ j, j < m → listed.getD j false = true := fun h => hz (by
      have : ∀ k, k ≤ m → unl (fun j => listed.getD j false) k = 0 := by
        intro k
        induction k with
        | zero => intro _; rfl
        | succ k ihk => intro hk; have e1 := ihk (by omega); have e2 := h k (by omega); simp only [unl, e1, e2, if_true]
      exact this m (Nat.le_refl _))
    have hrm : ∀ i ∈ Region.ready .any ops listed, i < m := by
      intro i hi
      simp only [Region.ready, List.mem_filter, List.mem_range] at hi
      obtain ⟨hin, hrd⟩ := hi
      have ho : ops[i]? = some ops[i] := by simp [hin]
      generalize ops[i] = o at ho
      rw [ho] at hrd
      simp only [Bool.and_eq_true, Bool.not_eq_true', Option.map_some, Option.getD_some, Array.all_eq_true', Bool.or_eq_true] at hrd
      rcases Nat.lt_or_ge i m with h | h
      · exact h
      · exfalso
        by_cases him : i = m
        · refine hnot fun j hj => ?_
          refine ((htl i o h ho).1 him j hj).listed listed hcl ho fun e hem hb => ?_
          rcases hrd.2 e (by simpa using hem) with h2 | h2
          · rw [hb] at h2; cases h2
          · exact h2
        · obtain ⟨e, hem, hb, hon⟩ := (htl i o h ho).2 (by omega)
          rcases hrd.2 e (by simpa using hem) with h2 | h2
          · rw [hb] at h2; cases h2
          · rw [hon] at h2
            have := hlm (i - 1) h2
            omega
    refine ⟨fun hr => ?_, fun i hi => ?_⟩
    · exfalso
      refine hnot fun j => ?_
      induction j using Nat.strongRecOn with
      | ind j ihj =>
        intro hj
        cases hL : listed.getD j false with
        | true => rfl
        | false =>
          exfalso
          have ho : ops[j]? = some ops[j] := by simp [show j < ops.size by omega]
          have hmem : j ∈ Region.ready .any ops listed := by
            simp only [Region.ready, List.mem_filter, List.mem_range]
            refine ⟨by omega, ?_⟩
            rw [getD_tf (by omega), hL, ho]
            simp only [Bool.not_false, Bool.true_and, Option.map_some, Option.getD_some, Array.all_eq_true', Bool.or_eq_true]
            intro e hm
            obtain ⟨h1, _⟩ := sane_spec hs ho
            cases hb : Region.binds .any e with
            | false => exact .inl rfl
            | true =>
              have h2 := h1 e (by simpa using hm) hb
              exact .inr (ihj e.on h2 (by omega))
          rw [hr] at hmem
          cases hmem
    have him := hrm i hi
    simp only [Region.ready, List.mem_filter, List.mem_range] at hi
    obtain ⟨hin, hrd⟩ := hi
    have ho : ops[i]? = some ops[i] := by simp [hin]
    generalize ops[i] = o at ho
    rw [ho] at hrd
    simp only [Bool.and_eq_true, Bool.not_eq_true', Option.map_some, Option.getD_some, Array.all_eq_true', Bool.or_eq_true] at hrd
    obtain ⟨hLi, hdeps⟩ := hrd
    have hLi' : listed.getD i false = false := by
      simp only [Array.getD_eq_getD_getElem?] at hLi ⊢
      rw [Array.getElem?_eq_getElem (by omega)] at hLi ⊢
      simpa using hLi
    obtain ⟨s1, s2, s3, s4⟩ := sane_spec hs ho
    have hdone : ∀ e ∈ o.after.toList, Region.binds .any e = true → listed.getD e.on false = true := by
      intro e hm hb
      rcases hdeps e (by simpa using hm) with h | h
      · rw [hb] at h; cases h
      · exact h
    have hget : ∀ t, t ∈ o.looksAt ops → (mix (fun j => listed.getD j false) vs 0 ops.toList a0).tmps[t]? = (mix (fun k => decide (k < i)) vs 0 ops.toList a0).tmps[t]? := by
      intro t ht
      rw [mix_get, mix_get, lastW_congr _ (fun k => decide (k < i)) vs vs t ops.toList 0 (fun j p hj hd => ⟨?_, fun _ => rfl⟩)]
      simp only [Nat.zero_add]
      have hp : ops[j]? = some p := by simpa using hj
      obtain ⟨h1, h2⟩ := s3 j p t hp hd ht
      rcases Nat.lt_trichotomy j i with hlt | heq | hgt
      · obtain ⟨e, hm, hb, rfl⟩ := h1 hlt
        rw [hdone e hm hb]
        simp [hlt]
      · subst heq
        rw [hLi']
        simp
      · obtain ⟨e, hm, hb, hon⟩ := h2 hgt
        cases hL : listed.getD j false with
        | false => simp; omega
        | true =>
          have := hcl j p hp hL e hm hb
          rw [hon, hLi'] at this
          cases this
    have hev : ∀ x ∈ o.op.operands, (mix (fun j => listed.getD j false) vs 0 ops.toList a0).eval x = (mix (fun k => decide (k < i)) vs 0 ops.toList a0).eval x := by
      intro x hx
      cases x with
      | tmp t =>
        have ht : t ∈ o.looksAt ops := by
          simp only [Oper.looksAt, List.mem_append, List.mem_filterMap]
          exact .inl ⟨.tmp t, by simpa using hx, rfl⟩
        exact eval_of_get (hget t ht)
      | _ => rfl
    have hexec := execOp_congr o s2 hev
    have hw : Region.wanted o (yielded ops (mix (fun j => listed.getD j false) vs 0 ops.toList a0).tmps) = Region.wanted o (yielded ops (mix (fun k => decide (k < i)) vs 0 ops.toList a0).tmps) := by
      unfold Region.wanted
      cases hg : o.guard with
      | none => rfl
      | some g =>
        obtain ⟨j, want⟩ := g
        have : yielded ops (mix (fun j => listed.getD j false) vs 0 ops.toList a0).tmps j = yielded ops (mix (fun k => decide (k < i)) vs 0 ops.toList a0).tmps j := by
          unfold yielded
          cases hj : (ops[j]?).bind (·.dst) with
          | none => rfl
          | some t =>
            have ht : t ∈ o.looksAt ops := by
              simp only [Oper.looksAt, List.mem_append]
              exact .inr (by simp [hg, hj])
            simp only [Option.bind_some, hget t ht]
        simp only [this]
    have hD : Deps R vs w o.after.toList := Deps.of fun e hm hb => hR e.on (hdone e hm hb) w (by split; exact hZ0 w; exact hE0 w)
    have hst := hstep i o him ho vs w he (fun e => hzz (by rw [← e]; exact hLi')) hD
    -- what is left when op i has given v in w'
    have hnext : ∀ v w', E w w' → (i ≠ mu → Z w w') → (∀ w'', (if i = mu then Z w' w'' else E w' w'') → R i w'' v) →
        wpAny P .any ops Q fuel (listed.setIfInBounds i true) ((mix (fun j => listed.getD j false) vs 0 ops.toList a0).put o.dst v) w' := by
      intro v w' hew hzw hr
      have hup : ∀ j, (listed.setIfInBounds i true).getD j false = if j = i then true else listed.getD j false := by
        intro j
        simp only [Array.getD_eq_getD_getElem?, Array.getElem?_setIfInBounds]
        by_cases e : i = j
        · subst e; simp [hsz, hin]
        · rw [if_neg e, if_neg (fun h => e h.symm)]
      have hmix : (mix (fun j => listed.getD j false) vs 0 ops.toList a0).put o.dst v =
          mix (fun j => (listed.setIfInBounds i true).getD j false) (fun j => if j = i then v else vs j) 0 ops.toList a0 := by
        refine act_ext (by simp [put_size, mix_size]) (by simp [put_defers, mix_defers]) (fun t => ?_)
        rw [put_get, mix_size]
        by_cases hd : o.dst = some t
        · rw [if_pos hd, mix_get, lastW_at _ _ t ops.toList 0 i o (by simpa using ho) hd (by rw [hup]; simp) (fun j p hj hd' => (s4 j p t (by simpa using hj) hd' hd).symm)]
          simp
        · rw [if_neg hd, mix_get, mix_get]
          rw [lastW_congr (fun j => listed.getD j false) (fun j => (listed.setIfInBounds i true).getD j false) vs (fun j => if j = i then v else vs j) t ops.toList 0 (fun j p hj hd' => ?_)]
          simp only [Nat.zero_add]
          have hne : j ≠ i := by
            intro e
            subst e
            have : p = o := by
              have h1 : ops[j]? = some p := by simpa using hj
              rw [ho] at h1
              exact (Option.some.inj h1).symm
            exact hd (this ▸ hd')
          simp [hup, hne]
      rw [hmix]
      refine ih _ _ _ (by simp [hsz]) ?_ (hE he hew) ?_ ?_ ?_ ?_
      · have := unl_mark (L := fun j => listed.getD j false) (L' := fun j => (listed.setIfInBounds i true).getD j false) hLi' (by simp [hup]) (fun j hj => by simp [hup, hj]) m him
        omega
      · intro j hj
        rw [hup] at hj
        by_cases e : j = i
        · omega
        · rw [if_neg e] at hj
          exact hlm j hj
      · intro j hj w2 hw2
        by_cases e : j = i
        · subst e
          simpa using hr w2 hw2
        · simp only [if_neg e]
          refine hR j ?_ w2 ?_
          · rw [hup, if_neg e] at hj
            exact hj
          · split at hw2
            · rename_i hj'
              rw [if_pos hj']
              exact hZ (hzw (fun h => e (hj'.trans h.symm))) hw2
            · rename_i hj'
              rw [if_neg hj']
              exact hE hew hw2
      · intro j p hp hj e hm hb
        rw [hup] at hj ⊢
        by_cases ej : j = i
        · subst ej
          have : p = o := by rw [ho] at hp; exact (Option.some.inj hp).symm
          subst this
          split
          · rfl
          · exact hdone e hm hb
        · rw [if_neg ej] at hj
          split
          · rfl
          · exact hcl j p hp hj e hm hb
      · intro hmu
        rw [hup] at hmu
        by_cases e : mu = i
        · rw [if_pos e] at hmu; cases hmu
        · rw [if_neg e] at hmu
          exact hZ (hzz hmu) (hzw (fun h => e h.symm))
    simp only [wpOp, ho, hw]
    split
    · rename_i hwt
      rw [if_pos hwt] at hst
      refine .inl ?_
      unfold Oper.wp
      unfold Gives at hst
      rw [hexec]
      generalize (execOp (mix (fun k => decide (k < i)) vs 0 ops.toList a0).eval o).run P w = r at hst
      cases r with
      | halt x w' => simp at hst
      | ok x w' =>
        cases x with
        | value v => exact hnext v w' hst.1 hst.2.1 hst.2.2
        | skip => exact hnext undef w' hst.1 hst.2.1 hst.2.2
        | enter g args =>
          simp only [Oper.upon]
          refine Calls.mono hst ?_
          rintro e w'' ⟨v, rfl, h1, h2⟩
          exact hnext v w'' h1 h2.1 h2.2
        | _ => simp at hst
    · rename_i hwt
      rw [if_neg hwt] at hst
      exact hnext undef w (hE0 w) (fun _ => hZ0 w) (fun w'' _ => hst w'')

/-- The law, at the orders. -/
theorem wpAny_rely4 {l : List Oper} {a : Act} {w : World} (m : Nat) (hs : sane l.toArray = true) (ht : tailOk3 l.toArray m = true)
    (E Z : World → World → Prop) (mu : Nat) (hE0 : ∀ w, E w w) (hZ0 : ∀ w, Z w w) (hZ : ∀ {a b c}, Z a b → Z b c → Z a c) (hE : ∀ {a b c}, E a b → E b c → E a c)
    (R : Nat → World → Value → Prop) (h : Rely4 P l.toArray E Z mu R w.drew Q (l.drop m) 0 (fun _ => a) (l.take m)) : wpAny P .any l.toArray Q l.toArray.size (Array.replicate l.toArray.size false) a w.drew := by
  obtain ⟨h1, h2⟩ := rely_get4 (l.take m) 0 _ h
  obtain ⟨hmn, _⟩ := tailOk3_spec ht
  have hmn' : m ≤ l.length := by simpa using hmn
  have h0 : ∀ j, (Array.replicate l.toArray.size false).getD j false = false := by
    intro j
    simp only [Array.getD_eq_getD_getElem?, Array.getElem?_replicate]
    split <;> rfl
  have hmix : ∀ vs : Nat → Value, mix (fun j => (Array.replicate l.toArray.size false).getD j false) vs 0 l.toArray.toList a = a := by
    intro vs
    refine act_ext (by simp [mix_size]) (by simp [mix_defers]) (fun t => ?_)
    rw [mix_get, lastW_none _ _ _ _ _ (fun j o _ _ => h0 _)]
  have hdrop : ∀ (L : Nat → Bool) (vs : Nat → Value) (t : Nat), (∀ j, L j = true → j < m) → lastW L vs t 0 l = lastW L vs t 0 (l.take m) := by
    intro L vs t hL
    have gen : ∀ (l1 l2 : List Oper) (i : Nat), (∀ j, L j = true → j < i + l1.length) → lastW L vs t i (l1 ++ l2) = lastW L vs t i l1 := by
      intro l1
      induction l1 with
      | nil =>
        intro l2 i hj
        rw [List.nil_append, lastW_none L vs t l2 i (fun j o _ _ => by
          cases hb : L (i + j) with
          | false => rfl
          | true => have h9 := hj _ hb; simp only [List.length_nil] at h9; omega)]
        rfl
      | cons o l1 ih =>
        intro l2 i hj
        simp only [List.cons_append, lastW]
        rw [ih l2 (i + 1) (fun j h => by have := hj j h; simp only [List.length_cons] at this; omega)]
    have := gen (l.take m) (l.drop m) 0 (fun j h => by have := hL j h; simp only [List.length_take]; omega)
    rwa [List.take_append_drop] at this
  have hmixd : ∀ (k : Nat) (vs : Nat → Value), k ≤ m → mix (fun j => decide (j < k)) vs 0 l a = mix (fun j => decide (j < k)) vs 0 (l.take m) a := by
    intro k vs hk
    refine act_ext (by simp [mix_size]) (by simp [mix_defers]) (fun t => ?_)
    rw [mix_get, mix_get, hdrop _ vs t (fun j hj => by simp at hj; omega)]
  have hmixt : ∀ (vs : Nat → Value), mix (fun _ => true) vs 0 (l.take m) a = mix (fun k => decide (k < m)) vs 0 (l.take m) a := by
    intro vs
    refine act_ext (by simp [mix_size]) (by simp [mix_defers]) (fun t => ?_)
    rw [mix_get, mix_get, lastW_congr (fun _ => true) (fun k => decide (k < m)) vs vs t (l.take m) 0 (fun j o hj _ => ⟨by
      have := (List.getElem?_eq_some_iff.1 hj).1
      simp only [List.length_take] at this
      simp
      omega, fun _ => rfl⟩)]
  have := rely_sound4 (Q := Q) (a0 := a) hE0 hZ0 hZ hE hs ht (fun j o hj ho => by
      have h3 := h1 j o (by rw [List.getElem?_take, if_pos hj]; simpa using ho)
      simp only [Nat.zero_add] at h3
      have he : (fun vs => mix (fun k => decide (k < j)) vs 0 l.toArray.toList a) = (fun vs => mix (fun k => decide (k < j)) vs 0 (l.take m) a) := funext fun vs => hmixd j vs (by omega)
      rw [he]
      exact h3)
    (fun vs w' he hr => by
      have h3 := h2 vs w' he (fun j hj => hr j (by simp only [List.length_take] at hj; omega))
      rw [hmixt vs, ← hmixd m vs (Nat.le_refl _)] at h3
      simpa using h3)
    l.toArray.size (Array.replicate l.toArray.size false) (fun _ => undef) w.drew (by simp) (by
      have : ∀ n, unl (fun j => (Array.replicate l.toArray.size false).getD j false) n ≤ n := by
        intro n
        induction n with
        | zero => exact Nat.le_refl _
        | succ n ih => simp only [unl, h0, Bool.false_eq_true, if_false] at ih ⊢; omega
      have := this m
      omega) (hE0 _) (fun j hj => by rw [h0] at hj; cases hj) (fun j hj => by rw [h0] at hj; cases hj) (fun j o _ hj => by rw [h0] at hj; cases hj) (fun _ => hZ0 _)
  rw [hmix] at this
  exact this

/-- The law, where one operation changes what the others leave: ZZ is what the others do. -/
theorem wp_region_rely4 {id : Nat} {l : List Oper} {a : Act} {w : World} (hm : P.follows .mixedOrders = true) (m : Nat) (hs : sane l.toArray = true) (ht : tailOk3 l.toArray m = true)
    (E Z : World → World → Prop) (mu : Nat) (hE0 : ∀ w, E w w) (hZ0 : ∀ w, Z w w) (hZ : ∀ {a b c}, Z a b → Z b c → Z a c) (hE : ∀ {a b c}, E a b → E b c → E a c)
    (R : Nat → World → Value → Prop) (h : Rely4 P l.toArray E Z mu R w.drew Q (l.drop m) 0 (fun _ => a) (l.take m)) : (Code.region id l.toArray true).wp P Q a w :=
  wp_region_any hm (wpAny_rely4 m hs ht E Z mu hE0 hZ0 hZ hE R h)
section
variable {f : (Nat → Value) → Act} {i : Nat} {o : Oper} {E Z : World → World → Prop} {mu : Nat} {R : Nat → World → Value → Prop}
end
end
end Go.Proofs.YtniknhhejlgdfaaGreatDoor
/- The law HashBytes, walked. -/
namespace Go.Proofs.YtniknhhejlgdfaaGreatDoor
open Go.RowKit

theorem take_add (bs : List Int) (i : Nat) (h : i < bs.length) : bs.take (i + 1) = bs.take i ++ [bs.getD i 0] := by
  rw [List.take_succ_eq_append_getElem h]
  simp [List.getD_eq_getElem?_getD, h]

end Go.Proofs.YtniknhhejlgdfaaGreatDoor
/- What the reference's Text and one do. -/
namespace Go.Proofs.YtniknhhejlgdfaaGreatDoor
open Go.RowKit

set_option maxHeartbeats 4000000 in
set_option maxRecDepth 100000 in
theorem text_any (x : List Int) (hl : x.length = 16) (hx : u8s_ok x) (w : World) :
    Calls Tryz.prog 78 #[.agg (u8s x).toArray] w fun e w' => e = .returned (.string (strOfNums x)) ∧ Below w.heap.size w w' := by
  have HL := Lib.hid hl
  have HX := Lib.hid hx
  have hi43 : (Tryz.prog.info? 24).map (·.size) = some (u8s x).length := by rw [u8s_len', hl]; exact Tryz.size24
  have HI := Lib.hid hi43
  clear hl hx hi43
  have hra : ((w.alloc (.cells (u8s x).toArray 24)).alloc (.cells #[] 5)).rangeAt w.heap.size 0 (u8s x) := World.rangeAt_alloc (range_new w (u8s x) 24) _
  have HRA := Lib.hid hra
  clear hra
  go_enter Tryz.func78, Tryz.ntmps78
  go_wp2_with (refine wpList_load_g rfl 24 (.tmp 1) rfl w.heap.size 0 rfl (u8s x) _ HRA.out Tryz.underlying24 rfl HI.out ?_)
  have hown0 : OwnO ((w.alloc (.cells (u8s x).toArray 24)).alloc (.cells #[] 5)) w.heap.size 5 (.slice (some ⟨w.heap.size + 1, 0, none⟩) 0 0) (u8s (x.take 0)) := by
    have := own_mk (w := (w.alloc (.cells (u8s x).toArray 24)).alloc (.cells #[] 5)) (base := w.heap.size) (e := 5) (c := 0) (w.alloc (.cells (u8s x).toArray 24)) (by simp) #[] rfl (by simp) rfl
    rw [World.size_alloc] at this
    exact this
  have hbel0 : Below w.heap.size w ((w.alloc (.cells (u8s x).toArray 24)).alloc (.cells #[] 5)) := ((Below.refl _ _).alloc (Nat.le_refl _) _).alloc (by simp) _
  have O0 := Lib.hid hown0
  have B0 := Lib.hid hbel0
  clear hown0 hbel0
  go_loopw [3, 8] (fun s k wr => ∃ (i c' : Nat) (A' : Option Addr), i ≤ 16 ∧ s = .slice A' i c' ∧ k = .int .i64 i ∧ Hid (OwnO wr w.heap.size 5 s (u8s (x.take i))) ∧ Hid (Below w.heap.size w wr))
    (fun _ k _ => 16 - (intOf k).toNat)
  case atStart => exact ⟨0, 0, _, by omega, rfl, rfl, O0, B0⟩
  case round =>
    clear O0 B0
    obtain ⟨i, c1, A1, hi, rfl, rfl, hown, hbel⟩ := hrel
    by_cases hlt : i < 16
    · have hlx := HL.out
      obtain ⟨b, hb⟩ : ∃ b, b = x.getD i 0 := ⟨_, rfl⟩
      have hbk : (u8s x).toArray[(i : Int).toNat]? = some (.int .u8 b) := by
        simp [u8s, hb, List.getD_eq_getElem?_getD, List.getElem?_eq_getElem (show i < x.length by omega)]
      have htk : x.take (i + 1) = x.take i ++ [b] := by rw [hb]; exact take_add x i (by omega)
      have hrl : (x.take i).length = i := by rw [List.length_take]; omega
      have HBK := Lib.hid hbk
      have HTK := Lib.hid htk
      have HRL := Lib.hid hrl
      clear hbk htk hrl hb hlx
      go_wp2_with (first | (refine wpList_index_arr rfl 24 5 16 (.tmp 7) (.tmp 8) rfl (u8s x).toArray .i64 i (.int .u8 b) rfl rfl Tryz.underlying24 _ Tryz.underlying5 rfl (by kernel_rfl) (by omega) (by omega) HBK.out ?_) | (at_builtin; refine appO (w0 := w) w.heap.size rfl (.tmp 11) (.tmp 13) 137 137 5 (.int .u8 0) 1 rfl Tryz.underlying137 Tryz.info5 rfl (by omega) _ _ rfl _ 1 [.int .u8 b] rfl (src_new wr 5 [.int .u8 b] 1 rfl Tryz.underlying137 (by simp [Value.oneCell'])) (hown.out.below ((Below.refl _ _).alloc (Nat.le_refl _) _)) (hbel.out.alloc hbel.out.size _) (by have := hbel.out.size; simp; omega) (by rw [u8s_len', HRL.out]; omega) ?_; intro v5 w5 ap5; obtain ⟨A5, c5, rfl, O5, B5⟩ := ap5.byte HRL.out; clear ap5))
      go_roundw
      case rel => exact ⟨i + 1, c5, A5, by omega, rfl, by go_num, Lib.hid (by rw [HTK.out]; exact O5.out), B5⟩
      case measure => simp [intOf]; omega
    · obtain rfl : i = 16 := by omega
      have htk : x.take 16 = x := List.take_of_length_le (by rw [HL.out]; exact Nat.le_refl _)
      rw [htk] at hown
      have hbs : Bs wr (.slice A1 16 c1) x := Bs.of_own hown.out HX.out
      have HBS := Lib.hid hbs
      clear htk hown hbs
      go_wp2_with (refine wpList_conv_str rfl (.tmp 16) rfl (.slice A1 16 c1) x rfl HBS.out ?_)
      go_ret
      exact ⟨rfl, hbel.out⟩
end Go.Proofs.YtniknhhejlgdfaaGreatDoor
/- append of one digest in a region that draws its order; worlds that change in some blocks alone. -/
namespace Go.Proofs.YtniknhhejlgdfaaGreatDoor
open Go.RowKit

/-- All but some blocks lie as they lay. -/
structure But (S : Nat → Prop) (w w' : World) : Prop where
  os : w'.os = w.os
  tape : w'.tape = w.tape
  output : w'.output = w.output
  size : w.heap.size ≤ w'.heap.size
  same : ∀ k, k < w.heap.size → ¬ S k → w'.heap[k]? = w.heap[k]?
theorem But.refl (S : Nat → Prop) (w : World) : But S w w := ⟨rfl, rfl, rfl, Nat.le_refl _, fun _ _ _ => rfl⟩
theorem But.of_below {S : Nat → Prop} {w w' : World} (h : Below w.heap.size w w') : But S w w' := ⟨h.os, h.tape, h.output, h.size, fun k hk _ => h.block k hk⟩
theorem But.trans {S : Nat → Prop} {a b c : World} (h : But S a b) (k : But S b c) : But S a c :=
  ⟨k.os.trans h.os, k.tape.trans h.tape, k.output.trans h.output, Nat.le_trans h.size k.size, fun i hi hs => (k.same i (Nat.lt_of_lt_of_le hi h.size) hs).trans (h.same i hi hs)⟩
theorem But.mono {S T : Nat → Prop} {a b : World} (h : But S a b) (hst : ∀ k, k < a.heap.size → S k → T k) : But T a b :=
  ⟨h.os, h.tape, h.output, h.size, fun i hi hs => h.same i hi fun hx => hs (hst i hi hx)⟩
theorem But.blk {S : Nat → Prop} {w w' : World} (h : But S w w') {g : Nat} {o : Obj} (hg : w.heap[g]? = some o) (hs : ¬ S g) : w'.heap[g]? = some o := (h.same g (blk_lt hg) hs).trans hg
theorem But.low {S : Nat → Prop} {w w' : World} {B : Nat} (h : But S w w') (hb : B ≤ w.heap.size) (hs : ∀ k, S k → B ≤ k) : Below B w w' :=
  ⟨h.os, h.tape, h.output, h.size, fun k hk => h.same k (by omega) fun hx => by have := hs k hx; omega⟩
theorem But.cellT {S : Nat → Prop} {w w' : World} (h : But S w w') {a : Addr} {v : Value} (hc : w.cell? a = some v) (hs : ¬ S a.block) : w'.cell? a = some v := by
  have hl := World.block_lt_of_cell? w a hc
  rw [← hc]
  exact World.cell?_of_block (h.same a.block hl hs)
end Go.Proofs.YtniknhhejlgdfaaGreatDoor
/- The law on regions that draw their order, where one operation changes what the others leave. -/
namespace Go.Proofs.YtniknhhejlgdfaaGreatDoor
open Go.RowKit

theorem Gives.mono4 {P : Program} {o : Oper} {ρ : Operand → Value} {w : World} {S S' : Value → World → Prop} (h : Gives P o ρ w S) (hs : ∀ v w', S v w' → S' v w') : Gives P o ρ w S' := by
  unfold Gives at h ⊢
  split at h
  · exact hs _ _ h
  · exact hs _ _ h
  · exact h.mono fun e w'' ⟨v, h1, h2⟩ => ⟨v, h1, hs _ _ h2⟩
  · exact h.elim
section
variable (P : Program) (ops : Array Oper) (E Z : World → World → Prop) (mu : Nat) (R : Nat → World → Value → Prop) (w0 : World) (Q : Exit → Act → World → Prop)

end

section
variable {P : Program} {ops : Array Oper} {E Z : World → World → Prop} {mu : Nat} {R : Nat → World → Value → Prop} {w0 : World} {Q : Exit → Act → World → Prop} {a0 : Act}

section
variable {f : (Nat → Value) → Act} {i : Nat} {o : Oper} {E Z : World → World → Prop} {mu : Nat} {R : Nat → World → Value → Prop}
end
end
end Go.Proofs.YtniknhhejlgdfaaGreatDoor
/- As rely4, but what the changing operation leaves may hang on the value of one operation that it comes behind. -/
namespace Go.Proofs.YtniknhhejlgdfaaGreatDoor
open Go.RowKit

section
variable (P : Program) (ops : Array Oper) (E Z : World → World → Prop) (mu d : Nat) (G : World → Value → Prop) (R : Nat → World → Value → Prop) (w0 : World) (Q : Exit → Act → World → Prop)

def StepOk6 (f : (Nat → Value) → Act) (i : Nat) (o : Oper) : Prop :=
  ∀ vs w, E w0 w → (i = mu → Z w0 w) → Deps R vs w o.after.toList →
    if Region.wanted o (yielded ops (f vs).tmps) then Gives P o (f vs).eval w (fun v w' => E w w' ∧ (i ≠ mu → Z w w') ∧ (i = mu → ∀ w'', Z w' w'' → G w'' (vs d)) ∧ ∀ w'', (if i = mu then Z w' w'' else E w' w'') → R i w'' v)
    else i ≠ mu ∧ ∀ w'', R i w'' undef

def Rely6 (tl : List Oper) : Nat → ((Nat → Value) → Act) → List Oper → Prop
  | i, f, [] => ∀ vs w, E w0 w → (∀ j, j < i → R j w (vs j)) → G w (vs d) → wpList P ops Q tl (f vs) w
  | i, f, o :: rest => StepOk6 P ops E Z mu d G R w0 f i o ∧ Rely6 tl (i + 1) (fun vs => (f vs).put o.dst (vs i)) rest
end

section
variable {P : Program} {ops : Array Oper} {E Z : World → World → Prop} {mu d : Nat} {G : World → Value → Prop} {R : Nat → World → Value → Prop} {w0 : World} {Q : Exit → Act → World → Prop} {a0 : Act}

theorem rely_get6 {tl : List Oper} : ∀ (l : List Oper) (i : Nat) (f : (Nat → Value) → Act), Rely6 P ops E Z mu d G R w0 Q tl i f l →
    (∀ j o, l[j]? = some o → StepOk6 P ops E Z mu d G R w0 (fun vs => mix (fun k => decide (k < i + j)) vs i l (f vs)) (i + j) o) ∧
    (∀ vs w, E w0 w → (∀ j, j < i + l.length → R j w (vs j)) → G w (vs d) → wpList P ops Q tl (mix (fun _ => true) vs i l (f vs)) w)
  | [], i, f, h => ⟨fun j o hj => by simp at hj, fun vs w he hr hg => h vs w he (fun j hj => hr j (by simpa using hj)) hg⟩
  | p :: rest, i, f, h => by
    obtain ⟨h1, h2⟩ := h
    obtain ⟨h3, h4⟩ := rely_get6 rest (i + 1) _ h2
    constructor
    · intro j o hj
      cases j with
      | zero =>
        obtain rfl : p = o := by simpa using hj
        have e : ∀ (vs : Nat → Value), mix (fun k => decide (k < i + 0)) vs i (p :: rest) (f vs) = f vs := by
          intro vs
          simp only [mix, Nat.add_zero, Nat.lt_irrefl, decide_false, Bool.false_eq_true, if_false]
          have hn : ∀ (l : List Oper) (m : Nat) (a : Act), i ≤ m → mix (fun k => decide (k < i)) vs m l a = a := by
            intro l
            induction l with
            | nil => intro m a _; rfl
            | cons q l ih =>
              intro m a hm
              simp only [mix]
              rw [ih (m + 1) _ (by omega)]
              have e : decide (m < i) = false := decide_eq_false (by omega)
              simp [e]
          exact hn rest (i + 1) _ (by omega)
        simp only [e]
        exact h1
      | succ j =>
        have := h3 j o (by simpa using hj)
        rw [show i + (j + 1) = i + 1 + j by omega]
        simp only [mix]
        have e : decide (i < i + 1 + j) = true := decide_eq_true (by omega)
        simp only [e, if_true]
        exact this
    · intro vs w he hr hg
      simp only [mix, if_true]
      exact h4 vs w he (fun j hj => hr j (by simp only [List.length_cons]; omega)) hg

theorem rely_sound6 {m : Nat} (hmu : mu < m) (hde : edgeTo ops mu d = true) (hE0 : ∀ w, E w w) (hZ0 : ∀ w, Z w w) (hZ : ∀ {a b c}, Z a b → Z b c → Z a c) (hE : ∀ {a b c}, E a b → E b c → E a c) (hs : sane ops = true) (ht : tailOk3 ops m = true)
    (hstep : ∀ j o, j < m → ops[j]? = some o → StepOk6 P ops E Z mu d G R w0 (fun vs => mix (fun k => decide (k < j)) vs 0 ops.toList a0) j o)
    (hend : ∀ vs w, E w0 w → (∀ j, j < m → R j w (vs j)) → G w (vs d) → wpList P ops Q (ops.toList.drop m) (mix (fun k => decide (k < m)) vs 0 ops.toList a0) w) :
    ∀ (fuel : Nat) (listed : Array Bool) (vs : Nat → Value) (w : World), listed.size = ops.size → unl (fun j => listed.getD j false) m + (ops.size - m) ≤ fuel → E w0 w →
      (∀ j, listed.getD j false = true → j < m) →
      (∀ j, listed.getD j false = true → ∀ w', (if j = mu then Z w w' else E w w') → R j w' (vs j)) →
      (∀ j o, ops[j]? = some o → listed.getD j false = true → ∀ e ∈ o.after.toList, Region.binds .any e = true → listed.getD e.on false = true) →
      (listed.getD mu false = false → Z w0 w) → (listed.getD mu false = true → ∀ w', Z w w' → G w' (vs d)) →
      wpAny P .any ops Q fuel listed (mix (fun j => listed.getD j false) vs 0 ops.toList a0) w := by
  obtain ⟨hmn, htl⟩ := tailOk3_spec ht
  have hall : ∀ (fuel : Nat) (listed : Array Bool) (vs : Nat → Value) (w : World), listed.size = ops.size → unl (fun j => listed.getD j false) m = 0 → ops.size ≤ fuel + m → E w0 w →
      (∀ j, listed.getD j false = true → j < m) →
      (∀ j, listed.getD j false = true → ∀ w', (if j = mu then Z w w' else E w w') → R j w' (vs j)) → (listed.getD mu false = true → ∀ w', Z w w' → G w' (vs d)) → wpAny P .any ops Q fuel listed (mix (fun j => listed.getD j false) vs 0 ops.toList a0) w := by
    intro fuel listed vs w hsz hz hf he hlm hR hgg
    have hmk := unl_zero m hz
    have hL : ∀ j, listed.getD j false = decide (j < m) := by
      intro j
      by_cases h : j < m
      · rw [hmk j h]; simp [h]
      · cases hb : listed.getD j false with
        | true => exact absurd (hlm j hb) h
        | false => simp [h]
    refine seq_sound3 hs ht fuel m listed _ w (Nat.le_refl _) hsz (fun j _ => hL j) hf hmn ?_
    have hm : mix (fun j => listed.getD j false) vs 0 ops.toList a0 = mix (fun k => decide (k < m)) vs 0 ops.toList a0 := by
      refine act_ext (by simp [mix_size]) (by simp [mix_defers]) (fun t => ?_)
      rw [mix_get, mix_get, lastW_congr _ (fun k => decide (k < m)) vs vs t ops.toList 0 (fun j o hj _ => ⟨by
        simp only [Nat.zero_add]
        exact hL j, fun _ => rfl⟩)]
    rw [hm]
    exact hend vs w he (fun j hj => hR j (hmk j hj) w (by split; exact hZ0 w; exact hE0 w)) (hgg (hmk mu hmu) w (hZ0 w))
  intro fuel
  induction fuel with
  | zero =>
    intro listed vs w hsz hu he hlm hR hcl hzz hgg
    exact hall 0 listed vs w hsz (by omega) (by omega) he hlm hR hgg
  | succ fuel ih =>
    intro listed vs w hsz hu he hlm hR hcl hzz hgg
    by_cases hz : unl (fun j => listed.getD j false) m = 0
    · exact hall (fuel + 1) listed vs w hsz hz (by omega) he hlm hR hgg
    have hnot : ¬ ∀ j, j < m → listed.getD j false = true := fun h => hz (by
      have : ∀ k, k ≤ m → unl (fun j => listed.getD j false) k = 0 := by
        intro k
        induction k with
        | zero => intro _; rfl
        | succ k ihk => intro hk; have e1 := ihk (by omega); have e2 := h k (by omega); simp only [unl, e1, e2, if_true]
      exact this m (Nat.le_refl _))
    have hrm : ∀ i ∈ Region.ready .any ops listed, i < m := by
      intro i hi
      simp only [Region.ready, List.mem_filter, List.mem_range] at hi
      obtain ⟨hin, hrd⟩ := hi
      have ho : ops[i]? = some ops[i] := by simp [hin]
      generalize ops[i] = o at ho
      rw [ho] at hrd
      simp only [Bool.and_eq_true, Bool.not_eq_true', Option.map_some, Option.getD_some, Array.all_eq_true', Bool.or_eq_true] at hrd
      rcases Nat.lt_or_ge i m with h | h
      · exact h
      · exfalso
        by_cases him : i = m
        · refine hnot fun j hj => ?_
          refine ((htl i o h ho).1 him j hj).listed listed hcl ho fun e hem hb => ?_
          rcases hrd.2 e (by simpa using hem) with h2 | h2
          · rw [hb] at h2; cases h2
          · exact h2
        · obtain ⟨e, hem, hb, hon⟩ := (htl i o h ho).2 (by omega)
          rcases hrd.2 e (by simpa using hem) with h2 | h2
          · rw [hb] at h2; cases h2
          · rw [hon] at h2
            have := hlm (i - 1) h2
            omega
    refine ⟨fun hr => ?_, fun i hi => ?_⟩
    · exfalso
      refine hnot fun j => ?_
      induction j using Nat.strongRecOn with
      | ind j ihj =>
        intro hj
        cases hL : listed.getD j false with
        | true => rfl
        | false =>
          exfalso
          have ho : ops[j]? = some ops[j] := by simp [show j < ops.size by omega]
          have hmem : j ∈ Region.ready .any ops listed := by
            simp only [Region.ready, List.mem_filter, List.mem_range]
            refine ⟨by omega, ?_⟩
            rw [getD_tf (by omega), hL, ho]
            simp only [Bool.not_false, Bool.true_and, Option.map_some, Option.getD_some, Array.all_eq_true', Bool.or_eq_true]
            intro e hm
            obtain ⟨h1, _⟩ := sane_spec hs ho
            cases hb : Region.binds .any e with
            | false => exact .inl rfl
            | true =>
              have h2 := h1 e (by simpa using hm) hb
              exact .inr (ihj e.on h2 (by omega))
          rw [hr] at hmem
          cases hmem
    have him := hrm i hi
    simp only [Region.ready, List.mem_filter, List.mem_range] at hi
    obtain ⟨hin, hrd⟩ := hi
    have ho : ops[i]? = some ops[i] := by simp [hin]
    generalize ops[i] = o at ho
    rw [ho] at hrd
    simp only [Bool.and_eq_true, Bool.not_eq_true', Option.map_some, Option.getD_some, Array.all_eq_true', Bool.or_eq_true] at hrd
    obtain ⟨hLi, hdeps⟩ := hrd
    have hLi' : listed.getD i false = false := by
      simp only [Array.getD_eq_getD_getElem?] at hLi ⊢
      rw [Array.getElem?_eq_getElem (by omega)] at hLi ⊢
      simpa using hLi
    obtain ⟨s1, s2, s3, s4⟩ := sane_spec hs ho
    have hdone : ∀ e ∈ o.after.toList, Region.binds .any e = true → listed.getD e.on false = true := by
      intro e hm hb
      rcases hdeps e (by simpa using hm) with h | h
      · rw [hb] at h; cases h
      · exact h
    have hget : ∀ t, t ∈ o.looksAt ops → (mix (fun j => listed.getD j false) vs 0 ops.toList a0).tmps[t]? = (mix (fun k => decide (k < i)) vs 0 ops.toList a0).tmps[t]? := by
      intro t ht
      rw [mix_get, mix_get, lastW_congr _ (fun k => decide (k < i)) vs vs t ops.toList 0 (fun j p hj hd => ⟨?_, fun _ => rfl⟩)]
      simp only [Nat.zero_add]
      have hp : ops[j]? = some p := by simpa using hj
      obtain ⟨h1, h2⟩ := s3 j p t hp hd ht
      rcases Nat.lt_trichotomy j i with hlt | heq | hgt
      · obtain ⟨e, hm, hb, rfl⟩ := h1 hlt
        rw [hdone e hm hb]
        simp [hlt]
      · subst heq
        rw [hLi']
        simp
      · obtain ⟨e, hm, hb, hon⟩ := h2 hgt
        cases hL : listed.getD j false with
        | false => simp; omega
        | true =>
          have := hcl j p hp hL e hm hb
          rw [hon, hLi'] at this
          cases this
    have hev : ∀ x ∈ o.op.operands, (mix (fun j => listed.getD j false) vs 0 ops.toList a0).eval x = (mix (fun k => decide (k < i)) vs 0 ops.toList a0).eval x := by
      intro x hx
      cases x with
      | tmp t =>
        have ht : t ∈ o.looksAt ops := by
          simp only [Oper.looksAt, List.mem_append, List.mem_filterMap]
          exact .inl ⟨.tmp t, by simpa using hx, rfl⟩
        exact eval_of_get (hget t ht)
      | _ => rfl
    have hexec := execOp_congr o s2 hev
    have hw : Region.wanted o (yielded ops (mix (fun j => listed.getD j false) vs 0 ops.toList a0).tmps) = Region.wanted o (yielded ops (mix (fun k => decide (k < i)) vs 0 ops.toList a0).tmps) := by
      unfold Region.wanted
      cases hg : o.guard with
      | none => rfl
      | some g =>
        obtain ⟨j, want⟩ := g
        have : yielded ops (mix (fun j => listed.getD j false) vs 0 ops.toList a0).tmps j = yielded ops (mix (fun k => decide (k < i)) vs 0 ops.toList a0).tmps j := by
          unfold yielded
          cases hj : (ops[j]?).bind (·.dst) with
          | none => rfl
          | some t =>
            have ht : t ∈ o.looksAt ops := by
              simp only [Oper.looksAt, List.mem_append]
              exact .inr (by simp [hg, hj])
            simp only [Option.bind_some, hget t ht]
        simp only [this]
    have hD : Deps R vs w o.after.toList := Deps.of fun e hm hb => hR e.on (hdone e hm hb) w (by split; exact hZ0 w; exact hE0 w)
    have hst := hstep i o him ho vs w he (fun e => hzz (by rw [← e]; exact hLi')) hD
    -- what is left when op i has given v in w'
    have hnext : ∀ v w', E w w' → (i ≠ mu → Z w w') → (i = mu → ∀ w'', Z w' w'' → G w'' (vs d)) → (∀ w'', (if i = mu then Z w' w'' else E w' w'') → R i w'' v) →
        wpAny P .any ops Q fuel (listed.setIfInBounds i true) ((mix (fun j => listed.getD j false) vs 0 ops.toList a0).put o.dst v) w' := by
      intro v w' hew hzw hgw hr
      have hup : ∀ j, (listed.setIfInBounds i true).getD j false = if j = i then true else listed.getD j false := by
        intro j
        simp only [Array.getD_eq_getD_getElem?, Array.getElem?_setIfInBounds]
        by_cases e : i = j
        · subst e; simp [hsz, hin]
        · rw [if_neg e, if_neg (fun h => e h.symm)]
      have hmix : (mix (fun j => listed.getD j false) vs 0 ops.toList a0).put o.dst v =
          mix (fun j => (listed.setIfInBounds i true).getD j false) (fun j => if j = i then v else vs j) 0 ops.toList a0 := by
        refine act_ext (by simp [put_size, mix_size]) (by simp [put_defers, mix_defers]) (fun t => ?_)
        rw [put_get, mix_size]
        by_cases hd : o.dst = some t
        · rw [if_pos hd, mix_get, lastW_at _ _ t ops.toList 0 i o (by simpa using ho) hd (by rw [hup]; simp) (fun j p hj hd' => (s4 j p t (by simpa using hj) hd' hd).symm)]
          simp
        · rw [if_neg hd, mix_get, mix_get]
          rw [lastW_congr (fun j => listed.getD j false) (fun j => (listed.setIfInBounds i true).getD j false) vs (fun j => if j = i then v else vs j) t ops.toList 0 (fun j p hj hd' => ?_)]
          simp only [Nat.zero_add]
          have hne : j ≠ i := by
            intro e
            subst e
            have : p = o := by
              have h1 : ops[j]? = some p := by simpa using hj
              rw [ho] at h1
              exact (Option.some.inj h1).symm
            exact hd (this ▸ hd')
          simp [hup, hne]
      rw [hmix]
      refine ih _ _ _ (by simp [hsz]) ?_ (hE he hew) ?_ ?_ ?_ ?_ ?_
      · have := unl_mark (L := fun j => listed.getD j false) (L' := fun j => (listed.setIfInBounds i true).getD j false) hLi' (by simp [hup]) (fun j hj => by simp [hup, hj]) m him
        omega
      · intro j hj
        rw [hup] at hj
        by_cases e : j = i
        · omega
        · rw [if_neg e] at hj
          exact hlm j hj
      · intro j hj w2 hw2
        by_cases e : j = i
        · subst e
          simpa using hr w2 hw2
        · simp only [if_neg e]
          refine hR j ?_ w2 ?_
          · rw [hup, if_neg e] at hj
            exact hj
          · split at hw2
            · rename_i hj'
              rw [if_pos hj']
              exact hZ (hzw (fun h => e (hj'.trans h.symm))) hw2
            · rename_i hj'
              rw [if_neg hj']
              exact hE hew hw2
      · intro j p hp hj e hm hb
        rw [hup] at hj ⊢
        by_cases ej : j = i
        · subst ej
          have : p = o := by rw [ho] at hp; exact (Option.some.inj hp).symm
          subst this
          split
          · rfl
          · exact hdone e hm hb
        · rw [if_neg ej] at hj
          split
          · rfl
          · exact hcl j p hp hj e hm hb
      · intro hmu
        rw [hup] at hmu
        by_cases e : mu = i
        · rw [if_pos e] at hmu; cases hmu
        · rw [if_neg e] at hmu
          exact hZ (hzz hmu) (hzw (fun h => e h.symm))
      · intro hmu w2 hw2
        have hdl : ∀ p, ops[mu]? = some p → (∀ e ∈ p.after.toList, Region.binds .any e = true → listed.getD e.on false = true) → d ≠ i := by
          intro p hp hc e
          obtain ⟨ed, h1, h2, h3⟩ := edgeTo_spec hde hp
          have := hc ed h1 h2
          rw [h3, e, hLi'] at this
          cases this
        rw [hup] at hmu
        by_cases e : mu = i
        · have hne : d ≠ i := hdl o (by rw [e]; exact ho) hdone
          simp only [if_neg hne]
          exact hgw e.symm w2 hw2
        · rw [if_neg e] at hmu
          have hp : ops[mu]? = some ops[mu] := by simp [show mu < ops.size by omega]
          have hne : d ≠ i := hdl _ hp (fun ed h1 h2 => hcl mu _ hp hmu ed h1 h2)
          simp only [if_neg hne]
          exact hgg hmu w2 (hZ (hzw (fun h => e h.symm)) hw2)
    simp only [wpOp, ho, hw]
    split
    · rename_i hwt
      rw [if_pos hwt] at hst
      refine .inl ?_
      unfold Oper.wp
      unfold Gives at hst
      rw [hexec]
      generalize (execOp (mix (fun k => decide (k < i)) vs 0 ops.toList a0).eval o).run P w = r at hst
      cases r with
      | halt x w' => simp at hst
      | ok x w' =>
        cases x with
        | value v => exact hnext v w' hst.1 hst.2.1 hst.2.2.1 hst.2.2.2
        | skip => exact hnext undef w' hst.1 hst.2.1 hst.2.2.1 hst.2.2.2
        | enter g args =>
          simp only [Oper.upon]
          refine Calls.mono hst ?_
          rintro e w'' ⟨v, rfl, h1, h2⟩
          exact hnext v w'' h1 h2.1 h2.2.1 h2.2.2
        | _ => simp at hst
    · rename_i hwt
      rw [if_neg hwt] at hst
      exact hnext undef w (hE0 w) (fun _ => hZ0 w) (fun e => absurd e hst.1) (fun w'' _ => hst.2 w'')

/-- The law, at the orders. -/
theorem wpAny_rely6 {l : List Oper} {a : Act} {w : World} (m : Nat) (hs : sane l.toArray = true) (ht : tailOk3 l.toArray m = true)
    (E Z : World → World → Prop) (mu d : Nat) (hmu : mu < m) (hde : edgeTo l.toArray mu d = true) (G : World → Value → Prop) (hE0 : ∀ w, E w w) (hZ0 : ∀ w, Z w w) (hZ : ∀ {a b c}, Z a b → Z b c → Z a c) (hE : ∀ {a b c}, E a b → E b c → E a c)
    (R : Nat → World → Value → Prop) (h : Rely6 P l.toArray E Z mu d G R w.drew Q (l.drop m) 0 (fun _ => a) (l.take m)) : wpAny P .any l.toArray Q l.toArray.size (Array.replicate l.toArray.size false) a w.drew := by
  obtain ⟨h1, h2⟩ := rely_get6 (l.take m) 0 _ h
  obtain ⟨hmn, _⟩ := tailOk3_spec ht
  have hmn' : m ≤ l.length := by simpa using hmn
  have h0 : ∀ j, (Array.replicate l.toArray.size false).getD j false = false := by
    intro j
    simp only [Array.getD_eq_getD_getElem?, Array.getElem?_replicate]
    split <;> rfl
  have hmix : ∀ vs : Nat → Value, mix (fun j => (Array.replicate l.toArray.size false).getD j false) vs 0 l.toArray.toList a = a := by
    intro vs
    refine act_ext (by simp [mix_size]) (by simp [mix_defers]) (fun t => ?_)
    rw [mix_get, lastW_none _ _ _ _ _ (fun j o _ _ => h0 _)]
  have hdrop : ∀ (L : Nat → Bool) (vs : Nat → Value) (t : Nat), (∀ j, L j = true → j < m) → lastW L vs t 0 l = lastW L vs t 0 (l.take m) := by
    intro L vs t hL
    have gen : ∀ (l1 l2 : List Oper) (i : Nat), (∀ j, L j = true → j < i + l1.length) → lastW L vs t i (l1 ++ l2) = lastW L vs t i l1 := by
      intro l1
      induction l1 with
      | nil =>
        intro l2 i hj
        rw [List.nil_append, lastW_none L vs t l2 i (fun j o _ _ => by
          cases hb : L (i + j) with
          | false => rfl
          | true => have h9 := hj _ hb; simp only [List.length_nil] at h9; omega)]
        rfl
      | cons o l1 ih =>
        intro l2 i hj
        simp only [List.cons_append, lastW]
        rw [ih l2 (i + 1) (fun j h => by have := hj j h; simp only [List.length_cons] at this; omega)]
    have := gen (l.take m) (l.drop m) 0 (fun j h => by have := hL j h; simp only [List.length_take]; omega)
    rwa [List.take_append_drop] at this
  have hmixd : ∀ (k : Nat) (vs : Nat → Value), k ≤ m → mix (fun j => decide (j < k)) vs 0 l a = mix (fun j => decide (j < k)) vs 0 (l.take m) a := by
    intro k vs hk
    refine act_ext (by simp [mix_size]) (by simp [mix_defers]) (fun t => ?_)
    rw [mix_get, mix_get, hdrop _ vs t (fun j hj => by simp at hj; omega)]
  have hmixt : ∀ (vs : Nat → Value), mix (fun _ => true) vs 0 (l.take m) a = mix (fun k => decide (k < m)) vs 0 (l.take m) a := by
    intro vs
    refine act_ext (by simp [mix_size]) (by simp [mix_defers]) (fun t => ?_)
    rw [mix_get, mix_get, lastW_congr (fun _ => true) (fun k => decide (k < m)) vs vs t (l.take m) 0 (fun j o hj _ => ⟨by
      have := (List.getElem?_eq_some_iff.1 hj).1
      simp only [List.length_take] at this
      simp
      omega, fun _ => rfl⟩)]
  have := rely_sound6 (Q := Q) (a0 := a) hmu hde hE0 hZ0 hZ hE hs ht (fun j o hj ho => by
      have h3 := h1 j o (by rw [List.getElem?_take, if_pos hj]; simpa using ho)
      simp only [Nat.zero_add] at h3
      have he : (fun vs => mix (fun k => decide (k < j)) vs 0 l.toArray.toList a) = (fun vs => mix (fun k => decide (k < j)) vs 0 (l.take m) a) := funext fun vs => hmixd j vs (by omega)
      rw [he]
      exact h3)
    (fun vs w' he hr hg => by
      have h3 := h2 vs w' he (fun j hj => hr j (by simp only [List.length_take] at hj; omega)) hg
      rw [hmixt vs, ← hmixd m vs (Nat.le_refl _)] at h3
      simpa using h3)
    l.toArray.size (Array.replicate l.toArray.size false) (fun _ => undef) w.drew (by simp) (by
      have : ∀ n, unl (fun j => (Array.replicate l.toArray.size false).getD j false) n ≤ n := by
        intro n
        induction n with
        | zero => exact Nat.le_refl _
        | succ n ih => simp only [unl, h0, Bool.false_eq_true, if_false] at ih ⊢; omega
      have := this m
      omega) (hE0 _) (fun j hj => by rw [h0] at hj; cases hj) (fun j hj => by rw [h0] at hj; cases hj) (fun j o _ hj => by rw [h0] at hj; cases hj) (fun _ => hZ0 _) (fun hj => by rw [h0] at hj; cases hj)
  rw [hmix] at this
  exact this

/-- The law, where one operation changes what the others leave: ZZ is what the others do. -/
theorem wp_region_rely6 {id : Nat} {l : List Oper} {a : Act} {w : World} (hm : P.follows .mixedOrders = true) (m : Nat) (hs : sane l.toArray = true) (ht : tailOk3 l.toArray m = true)
    (E Z : World → World → Prop) (mu d : Nat) (hmu : mu < m) (hde : edgeTo l.toArray mu d = true) (G : World → Value → Prop) (hE0 : ∀ w, E w w) (hZ0 : ∀ w, Z w w) (hZ : ∀ {a b c}, Z a b → Z b c → Z a c) (hE : ∀ {a b c}, E a b → E b c → E a c)
    (R : Nat → World → Value → Prop) (h : Rely6 P l.toArray E Z mu d G R w.drew Q (l.drop m) 0 (fun _ => a) (l.take m)) : (Code.region id l.toArray true).wp P Q a w :=
  wp_region_any hm (wpAny_rely6 m hs ht E Z mu d hmu hde G hE0 hZ0 hZ hE R h)
end

section
variable {P : Program} {ops : Array Oper} {E Z : World → World → Prop} {mu d : Nat} {G : World → Value → Prop} {R : Nat → World → Value → Prop} {w0 : World} {f : (Nat → Value) → Act} {i : Nat} {o : Oper}
theorem step6o (hg : o.guard = none) (hi : i ≠ mu) (h : ∀ vs w, E w0 w → Deps R vs w o.after.toList → Gives P o (f vs).eval w (fun v w' => (E w w' ∧ Z w w') ∧ ∀ w'', E w' w'' → R i w'' v)) : StepOk6 P ops E Z mu d G R w0 f i o := fun vs w hE _ hd => by
  have hw : Region.wanted o (yielded ops (f vs).tmps) = true := by simp [Region.wanted, hg]
  rw [if_pos hw]
  exact Gives.mono4 (h vs w hE hd) fun v w' hv => ⟨hv.1.1, fun _ => hv.1.2, fun e => absurd e hi, fun w'' h2 => hv.2 w'' (by rwa [if_neg hi] at h2)⟩
theorem step6m (hg : o.guard = none) (h : ∀ vs w, E w0 w → Z w0 w → Deps R vs w o.after.toList → Gives P o (f vs).eval w (fun v w' => E w w' ∧ (∀ w'', Z w' w'' → G w'' (vs d)) ∧ ∀ w'', Z w' w'' → R mu w'' v)) : StepOk6 P ops E Z mu d G R w0 f mu o := fun vs w hE hZ hd => by
  have hw : Region.wanted o (yielded ops (f vs).tmps) = true := by simp [Region.wanted, hg]
  rw [if_pos hw]
  exact Gives.mono4 (h vs w hE (hZ rfl) hd) fun v w' hv => ⟨hv.1, fun e => absurd rfl e, fun _ => hv.2.1, fun w'' h2 => hv.2.2 w'' (by rwa [if_pos rfl] at h2)⟩
end
end Go.Proofs.YtniknhhejlgdfaaGreatDoor
/- The iterators of layer 8: all powers; some validators' powers. -/
namespace Go.Proofs.YtniknhhejlgdfaaGreatDoor
open Go.RowKit Go.Shelf
attribute [local go_sem] Oper.semAt_some

/-- What a round of a loop over an iterator does, as the iterator sees it. -/
abbrev Rounds (n : Nat) (l : Nat) (n₀ N : Nat) (J Jx : List Int → World → Prop) : Prop :=
  ∀ pre x W1, J pre W1 → pre.length < N → YieldAt Fence.wide (n - 1) Tryz.prog l #[.int .i64 x] W1 fun e W' =>
    (e = .returned (.bool true) ∧ J (pre ++ [x]) W' ∧ Below n₀ W1 W') ∨ (e = .returned (.bool false) ∧ Jx (pre ++ [x]) W')

theorem powers_take (vs : List Va) (k : Nat) (hk : k < vs.length) : (vs.take (k + 1)).map (·.2) = (vs.take k).map (·.2) ++ [(vs.getD k ([], 0)).2] := by
  rw [List.take_succ_eq_append_getElem hk, List.map_append, List.getD_eq_getElem?_getD, List.getElem?_eq_getElem hk]
  rfl

set_option maxHeartbeats 4000000 in
set_option maxRecDepth 100000 in
theorem total1_in (n : Nat) (hn : 1 ≤ n) (l Bs : Nat) (A : Option Addr) (len cap : Nat) (vs : List Va) (w0 W : World) (J Jx : List Int → World → Prop)
    (hW : Below w0.heap.size w0 W) (hJ : AbidesFrom W.heap.size J) (hY : Rounds n l w0.heap.size len J Jx) (hBs : w0.cell? ⟨Bs, 0, none⟩ = some (.slice A len cap)) (hv : Vals w0 (.slice A len cap) vs) (hz : len ≤ 1000000) (h0 : J [] W) :
    CallsIn Fence.wide n Tryz.prog 159 #[.func (.yield l) #[] #[], .pointer (some ⟨Bs, 0, none⟩)] W fun e W' => (∃ v, e = .returned v) ∧
      ((∃ ys, ys = vs.map (·.2) ∧ J ys W') ∨ (∃ pre, True ∧ Jx pre W')) := by
  have hn1 := hv.len
  have hcell : W.cell? ⟨Bs, 0, none⟩ = some (.slice A len cap) := cell_on hW hBs
  have HV := Lib.hid hv
  have HN := Lib.hid hn1
  have HJ := Lib.hid hJ
  have HY := Lib.hid hY
  have J0 := Lib.hid h0
  clear hv hn1 hBs hY hJ h0
  refine callsIn_of_wp Tryz.func159 rfl trivial ?_ rfl
  simp only [Tryz.ntmps159, List.size_toArray, List.length_cons, List.length_nil, Nat.reduceAdd, Nat.reduceSub, Array.replicate_succ, Array.replicate_zero, List.push_toArray, List.append_toArray, List.nil_append, List.cons_append]
  gi_wp2
  clear hcell
  gi_loopw [7] (fun i wr => ∃ k : Nat, k ≤ len ∧ i = .int .i64 k ∧ Hid (J ((vs.take k).map (·.2)) wr) ∧ Hid (Below w0.heap.size w0 wr) ∧ Hid (W.heap.size ≤ wr.heap.size))
    (fun i _ => len - (intOf i).toNat)
  case atStart => exact ⟨0, Nat.zero_le _, rfl, J0, Lib.hid hW, Lib.hid (Nat.le_refl _)⟩
  case round =>
    obtain ⟨k, hk, rfl, hJs, hbel, hsz⟩ := hrel
    by_cases hlt : k < len
    · obtain ⟨b, off, rfl, hb, hr⟩ := (HV.out.below hbel.out).el k hlt
      have hlen : k < vs.length := by rw [← HN.out]; exact hlt
      have hl := HV.out.at k hlen
      have htk := powers_take vs k hlen
      obtain ⟨X, hX⟩ : ∃ X, X = vs.getD k ([], 0) := ⟨_, rfl⟩
      rw [← hX] at hr hl htk
      have hi39 : (Tryz.prog.info? 90).map (·.size) = some (vcells X).length := by rw [vcells_len X hl]; exact Tryz.size90
      have hh : ∀ Z : Array Value, Z.size = 17 → Has (wr.alloc (.cells Z 90)) wr.heap.size 90 (vcells X).length := fun Z hZ => has_new wr _ _ _ (by rw [hZ, vcells_len X hl])
      have hpl : ((vs.take k).map (·.2)).length < len := by rw [List.length_map, List.length_take]; omega
      have HR := Lib.hid hr
      have HL := Lib.hid hl
      have HI := Lib.hid hi39
      have HH := Lib.hid hh
      have HTK := Lib.hid htk
      have HPL := Lib.hid hpl
      clear hr hl hi39 hh hX hb htk hpl hlen
      have hil : (k : Int) < len := by omega
      gi_wp2_with (first | (refine wpListIn_load_g wideF rfl 90 (.tmp 9) rfl b (off + k * 17) rfl (vcells X) _ HR.out Tryz.underlying90 rfl HI.out ?_) | (refine wpListIn_store_row wideF rfl 90 (.tmp 4) (.tmp 10) rfl wr.heap.size rfl (vcells X) rfl 90 (HH.out _ rfl) HI.out (one_vcells X) ?_; intro w1 hp1; have L1 : Below wr.heap.size wr w1 := hp1.below ((Below.refl _ _).alloc (Nat.le_refl _) _) (Nat.le_refl _); have B1 := Lib.hid (hbel.out.trans (L1.mono hbel.out.size)); have S1 := Lib.hid (Nat.le_trans hsz.out L1.size); have hpw := vcells_pow HL.out (blk_range hp1.blk); rw [Nat.zero_add] at hpw; have J1 := abide_ext HJ.out hJs.out L1; obtain ⟨fn, tmps, assign, body, hy, hR⟩ := HY.out _ X.2 w1 J1 HPL.out; have HRR := Lib.hid hR; clear hp1 L1 J1 hR))
      refine HRR.out.mono ?_
      rintro e W3 (⟨rfl, hJ3, hk3⟩ | ⟨rfl, hJx3⟩)
      · have B3 := Lib.hid (B1.out.trans hk3)
        have S3 := Lib.hid (Nat.le_trans S1.out hk3.size)
        have J3 := Lib.hid hJ3
        clear hJ3 hk3 HRR hy hpw
        gi_wp2
        go_roundw
        case rel => exact ⟨k + 1, by omega, by go_num, Lib.hid (by rw [HTK.out]; exact J3.out), B3, S3⟩
        case measure => simp [intOf]; omega
      · clear HRR hy hpw
        gi_wp2
        refine bodyPost_ret (results_none rfl _ _ _) rfl ?_
        exact ⟨⟨_, rfl⟩, .inr ⟨_, trivial, hJx3⟩⟩
    · obtain rfl : k = len := by omega
      gi_wp2
      go_end0
      exact ⟨⟨_, rfl⟩, .inl ⟨_, rfl, by have := hJs.out; rwa [HN.out, List.take_length] at this⟩⟩

theorem total1_stops (n : Nat) (hn : 1 ≤ n) (Bs : Nat) (A : Option Addr) (len cap : Nat) (vs : List Va) (w0 : World) (hBs : w0.cell? ⟨Bs, 0, none⟩ = some (.slice A len cap)) (hv : Vals w0 (.slice A len cap) vs) (hz : len ≤ 1000000) :
    SeqStopsK Fence.wide n Tryz.prog 159 #[.pointer (some ⟨Bs, 0, none⟩)] (fun x : Int => #[Value.int .i64 x]) (Below w0.heap.size) (fun ys => ys = vs.map (·.2)) (fun _ => True) len w0 :=
  fun l J Jx W hW hJ _ hY h0 => total1_in n hn l Bs A len cap vs w0 W J Jx hW hJ hY hBs hv hz h0

def sumW : List Int → Int := List.foldl (fun s v => wrap64 (s + v)) 0
theorem sumW_snoc (pre : List Int) (x : Int) : sumW (pre ++ [x]) = wrap64 (sumW pre + x) := by simp [sumW]

set_option maxHeartbeats 4000000 in
set_option maxRecDepth 100000 in
theorem sum_any (gf : Nat) (lb : Array Value) (ps : List Int) (N : Nat) (w : World) (eg : ∀ args w, (callFunc gf args).run Tryz.prog w = .ok (.enter gf args) w)
    (hseq : SeqStopsK Fence.wide 3 Tryz.prog gf lb (fun x : Int => #[Value.int .i64 x]) (Below w.heap.size) (fun ys => ys = ps) (fun _ => True) N w) :
    Calls Tryz.prog 141 #[.func (.func gf) #[] lb] w fun e w' => e = .returned (.int .i64 (sumW ps)) ∧ Below w.heap.size w w' := by
  refine (callsIn_wide (n := 4)).1 ?_
  refine callsIn_of_wp_marks Tryz.func141 rfl trivial ?_ rfl
  simp only [Tryz.ntmps141, List.size_toArray, List.length_cons, List.length_nil, Nat.reduceAdd, Nat.reduceSub, Array.replicate_succ, Array.replicate_zero, List.push_toArray, List.append_toArray, List.nil_append, List.cons_append]
  gi_wp2
  have bS := Boxed.new w 3 (.int .i64 0)
  have hB0 : Below w.heap.size w (w.alloc (.cells #[.int .i64 0] 3)) := (Below.refl _ w).alloc (Nat.le_refl _) _
  refine wpIn_rangeFunc_ownG rfl (by omega) (gf := gf) (lb := lb) rfl trivial eg hseq belowK_t (belowK_b (by simp)) hB0 (fun _ => rfl)
    (fun pre W => (W.cell? ⟨w.heap.size, 0, none⟩ = some (.int .i64 (sumW pre)) ∧ W.frozen? ⟨w.heap.size, 0, none⟩ = false) ∧ Below w.heap.size w W)
    (fun _ _ _ => False)
    (OwnFrom.and (Own.from (fun s A B row hs hg hr => ⟨cell_kept hs.1 hg hr, (frozen_kept hs.1 hg hr).trans hs.2⟩) _) (ownFrom_below (Nat.le_refl _) (by simp)))
    (fun _ _ _ _ _ hs _ _ => hs)
    ⟨⟨bS.cell, bS.frozen⟩, hB0⟩
    (fun x => { tmps := #[.func (.func gf) #[] lb, undef, .int .i64 0, .pointer (some ⟨w.heap.size, 0, none⟩), .int .i64 x, .func (.func gf) #[] lb, .int .i64 x, undef, undef, undef, undef], defers := [] }) ?assign ?body ?done ?stop
  case assign =>
    intro l x W K hK
    gi_wp2
    exact hK
  case body =>
    rintro l pre x W ⟨⟨hc, hf⟩, hB⟩ _
    gi_wp2
    exact ⟨(KeepsOthers.setCell _ _ _).from _, (Below.refl w.heap.size W).setCell (p := ⟨w.heap.size, 0, none⟩) (Nat.le_refl _) _, ⟨by rw [sumW_snoc]; exact World.cell?_setCell_same' _ _ _ (by rw [hc]; rfl), by rw [World.frozen?_setCell]; exact hf⟩, hB.setCell (p := ⟨w.heap.size, 0, none⟩) (Nat.le_refl _) _⟩
  case done =>
    rintro D ys W hD rfl ⟨⟨hc, _⟩, hB⟩ hK
    gi_wp2
    refine ⟨by simp, .inl ⟨_, _, rfl, run_takeDeferred hK, ?_⟩⟩
    exact ⟨_, results_tmp rfl _ _ _, rfl, hB.trans (belowK_b (w := w) (Nat.le_refl _) W D _ _ (by simp at hD; omega) hK rfl rfl)⟩
  case stop =>
    rintro D c pre W _ _ h _
    exact h.elim
end Go.Proofs.YtniknhhejlgdfaaGreatDoor
/- Slices of integers; slices.Index, slices.Contains at them; the iterator over some validators' powers. -/
namespace Go.Proofs.YtniknhhejlgdfaaGreatDoor
open Go.RowKit Go.Shelf
attribute [local go_sem] Oper.semAt_some

/-- A slice of integers. -/
structure Ins (w : World) (v : Value) (xs : List Int) : Prop where
  form : ∃ A c, v = .slice A xs.length c
  cells : xs ≠ [] → ∃ b off c, v = .slice (some ⟨b, off, none⟩) xs.length c ∧ xs.length ≤ c ∧ c ≤ maxLen ∧ b < w.heap.size ∧ ∀ i, i < xs.length → w.cell? ⟨b, off + i, none⟩ = some (.int .i64 (xs.getD i 0))
theorem Ins.below {w w' : World} {v : Value} {xs : List Int} (h : Ins w v xs) (hb : Below w.heap.size w w') : Ins w' v xs := by
  refine ⟨h.form, fun hne => ?_⟩
  obtain ⟨b, off, c, e, h1, h2, h3, h4⟩ := h.cells hne
  exact ⟨b, off, c, e, h1, h2, Nat.lt_of_lt_of_le h3 hb.size, fun i hi => (hb.cell (p := ⟨b, off + i, none⟩) h3).trans (h4 i hi)⟩
theorem Ins.len {w : World} {A : Option Addr} {n c : Nat} {xs : List Int} (h : Ins w (.slice A n c) xs) : n = xs.length := by
  obtain ⟨A', c', e⟩ := h.form
  simp only [Value.slice.injEq] at e
  exact e.2.1
theorem Ins.el {w : World} {A : Option Addr} {n c : Nat} {xs : List Int} (h : Ins w (.slice A n c) xs) (i : Nat) (hi : i < n) :
    ∃ b off, A = some ⟨b, off, none⟩ ∧ b < w.heap.size ∧ w.cell? ⟨b, off + i, none⟩ = some (.int .i64 (xs.getD i 0)) := by
  have hl := h.len
  obtain ⟨b, off, c', e, _, _, h3, h4⟩ := h.cells (by intro e; subst e; simp at hl; omega)
  simp only [Value.slice.injEq] at e
  exact ⟨b, off, e.1, h3, h4 i (by omega)⟩
theorem Ins.take {w : World} {A : Option Addr} {n c : Nat} {xs : List Int} (h : Ins w (.slice A n c) xs) (k : Nat) (hk : k ≤ n) : Ins w (.slice A k c) (xs.take k) := by
  have hl := h.len
  have hkl : (xs.take k).length = k := by rw [List.length_take]; omega
  refine ⟨⟨A, c, by rw [hkl]⟩, fun hne => ?_⟩
  have hk0 : 0 < k := by
    cases k with
    | zero => exact absurd rfl hne
    | succ => omega
  obtain ⟨b, off, c', e, h1, h2, h3, h4⟩ := h.cells (by intro e; subst e; simp at hl; omega)
  simp only [Value.slice.injEq] at e
  obtain ⟨rfl, _, rfl⟩ := e
  refine ⟨b, off, c, by rw [hkl], by omega, h2, h3, fun i hi => ?_⟩
  rw [h4 i (by omega)]
  simp only [List.getD_eq_getElem?_getD, List.getElem?_take]
  rw [if_pos (by omega)]
/-- The place of a number, or -1. -/
def findI (xs : List Int) (z : Int) : Int :=
  match xs.findIdx? (fun x => decide (x = z)) with
  | some i => i
  | none => -1
theorem findI_at (xs : List Int) (z : Int) (i : Nat) (hi : i < xs.length) (he : xs.getD i 0 = z) (hb : ∀ j, j < i → xs.getD j 0 ≠ z) : findI xs z = i := by
  have : xs.findIdx? (fun x => decide (x = z)) = some i := by
    rw [List.findIdx?_eq_some_iff_getElem]
    refine ⟨hi, ?_, fun j hj => ?_⟩
    · rw [List.getD_eq_getElem?_getD, List.getElem?_eq_getElem hi] at he
      simpa using he
    · have h2 := hb j hj
      rw [List.getD_eq_getElem?_getD, List.getElem?_eq_getElem (Nat.lt_trans hj hi)] at h2
      simpa using h2
  unfold findI
  rw [this]
theorem findI_none (xs : List Int) (z : Int) (hb : ∀ j, j < xs.length → xs.getD j 0 ≠ z) : findI xs z = -1 := by
  have : xs.findIdx? (fun x => decide (x = z)) = none := by
    rw [List.findIdx?_eq_none_iff]
    intro x hx
    obtain ⟨j, hj, rfl⟩ := List.getElem_of_mem hx
    have h2 := hb j hj
    rw [List.getD_eq_getElem?_getD, List.getElem?_eq_getElem hj] at h2
    simpa using h2
  unfold findI
  rw [this]
theorem findI_ge (xs : List Int) (z : Int) : decide (0 ≤ findI xs z) = decide (z ∈ xs) := by
  rw [decide_eq_decide]
  unfold findI
  cases h : xs.findIdx? (fun x => decide (x = z)) with
  | some i =>
    rw [List.findIdx?_eq_some_iff_getElem] at h
    obtain ⟨hi, he, _⟩ := h
    have : xs[i] = z := by simpa using he
    exact ⟨fun _ => by rw [← this]; exact List.getElem_mem hi, fun _ => by simp⟩
  | none =>
    rw [List.findIdx?_eq_none_iff] at h
    constructor
    · intro hh; simp at hh
    · intro hm; have := h z hm; simp at this

set_option maxHeartbeats 4000000 in
set_option maxRecDepth 100000 in
theorem indexI_any (xs : List Int) (z : Int) (A : Option Addr) (n c : Nat) (w : World) (hv : Ins w (.slice A n c) xs) (hz : n ≤ 1000000) :
    Calls Tryz.prog 158 #[.slice A n c, .int .i64 z] w fun e w' => e = .returned (.int .i64 (findI xs z)) ∧ w' = w := by
  have hn := hv.len
  have HV := Lib.hid hv
  have HN := Lib.hid hn
  clear hv hn
  go_enter Tryz.func158, Tryz.ntmps158
  go_wp2
  go_loopw [5, 8] (fun _ k wr => ∃ (i : Nat), i ≤ n ∧ k = .int .i64 i ∧ Hid (∀ j, j < i → xs.getD j 0 ≠ z) ∧ wr = w)
    (fun _ k _ => n - (intOf k).toNat)
  case atStart => exact ⟨0, by omega, rfl, Lib.hid (fun j h => absurd h (by omega)), rfl⟩
  case round =>
    obtain ⟨i, hi, rfl, hne, rfl⟩ := hrel
    by_cases hlt : i < n
    · obtain ⟨b, off, rfl, hb, hr⟩ := HV.out.el i hlt
      obtain ⟨X, hX⟩ : ∃ X, X = xs.getD i 0 := ⟨_, rfl⟩
      rw [← hX] at hr
      have HXE := Lib.hid hX
      clear hX hb
      have hil : (i : Int) < n := by omega
      by_cases he : z = X
      · have hb1 : (z == X) = true := by simp [he]
        go_wp2
        go_ret
        rw [findI_at xs z i (by rw [← HN.out]; exact hlt) (by rw [← HXE.out]; exact he.symm) hne.out]
        exact ⟨rfl, rfl⟩
      · have hb1 : (z == X) = false := by simp [he]
        go_wp2
        go_roundw
        case rel => exact ⟨i + 1, by omega, by go_num, Lib.hid (fun j hj => by
          by_cases hji : j = i
          · subst hji; rw [← HXE.out]; exact fun h => he h.symm
          · exact hne.out j (by omega)), trivial⟩
        case measure => simp [intOf]; omega
    · obtain rfl : i = n := by omega
      go_wp2
      go_ret
      rw [findI_none xs z (by rw [← HN.out]; exact hne.out)]
      exact ⟨rfl, rfl⟩

set_option maxHeartbeats 4000000 in
set_option maxRecDepth 100000 in
theorem containsI_any (xs : List Int) (z : Int) (A : Option Addr) (n c : Nat) (w : World) (hv : Ins w (.slice A n c) xs) (hz : n ≤ 1000000) :
    Calls Tryz.prog 140 #[.slice A n c, .int .i64 z] w fun e w' => e = .returned (.bool (decide (z ∈ xs))) ∧ w' = w := by
  have HV := Lib.hid hv
  clear hv
  have hge := findI_ge xs z
  go_enter Tryz.func140, Tryz.ntmps140
  go_wp2_with (go_at_call 158; refine (indexI_any xs z A n c w HV.out hz).mono ?_; rintro _ w1 ⟨rfl, rfl⟩)
  go_ret
  exact ⟨by first | rfl | rw [← hge]; rfl, rfl⟩

/-- The powers of the places of a list. -/
def powAt (vs : List Va) (who : List Int) : List Int := who.map fun i => (vs.getD i.toNat ([], 0)).2
theorem powAt_take (vs : List Va) (who : List Int) (k : Nat) (hk : k < who.length) : powAt vs (who.take (k + 1)) = powAt vs (who.take k) ++ [(vs.getD (who.getD k 0).toNat ([], 0)).2] := by
  unfold powAt
  rw [List.take_succ_eq_append_getElem hk, List.map_append]
  simp [List.getD_eq_getElem?_getD, List.getElem?_eq_getElem hk]

set_option maxHeartbeats 4000000 in
set_option maxRecDepth 100000 in
theorem some1_in (n : Nat) (hn : 1 ≤ n) (l Bw Bs : Nat) (A A' : Option Addr) (len cap m c' : Nat) (vs : List Va) (who : List Int) (w0 W : World) (J Jx : List Int → World → Prop)
    (hW : Below w0.heap.size w0 W) (hY : Rounds n l w0.heap.size m J Jx) (hBw : w0.cell? ⟨Bw, 0, none⟩ = some (.slice A' m c')) (hBs : w0.cell? ⟨Bs, 0, none⟩ = some (.slice A len cap))
    (hv : Vals w0 (.slice A len cap) vs) (hw : Ins w0 (.slice A' m c') who) (hin : ∀ x ∈ who, 0 ≤ x ∧ x < len) (hz : m ≤ 1000000) (h0 : J [] W) :
    CallsIn Fence.wide n Tryz.prog 142 #[.func (.yield l) #[] #[], .pointer (some ⟨Bw, 0, none⟩), .pointer (some ⟨Bs, 0, none⟩)] W fun e W' => (∃ v, e = .returned v) ∧
      ((∃ ys, ys = powAt vs who ∧ J ys W') ∨ (∃ pre, True ∧ Jx pre W')) := by
  have hn1 := hv.len
  have hn2 := hw.len
  have hcell : W.cell? ⟨Bw, 0, none⟩ = some (.slice A' m c') := cell_on hW hBw
  have HV := Lib.hid hv
  have HW := Lib.hid hw
  have HN := Lib.hid hn1
  have HN2 := Lib.hid hn2
  have HY := Lib.hid hY
  have J0 := Lib.hid h0
  have HBS := Lib.hid hBs
  have HIN := Lib.hid hin
  clear hv hn1 hn2 hw hBs hBw hY h0 hin
  refine callsIn_of_wp Tryz.func142 rfl trivial ?_ rfl
  simp only [Tryz.ntmps142, List.size_toArray, List.length_cons, List.length_nil, Nat.reduceAdd, Nat.reduceSub, Array.replicate_succ, Array.replicate_zero, List.push_toArray, List.append_toArray, List.nil_append, List.cons_append]
  gi_wp2
  clear hcell
  gi_loopw [8] (fun i wr => ∃ k : Nat, k ≤ m ∧ i = .int .i64 k ∧ Hid (J (powAt vs (who.take k)) wr) ∧ Hid (Below w0.heap.size w0 wr))
    (fun i _ => m - (intOf i).toNat)
  case atStart => exact ⟨0, Nat.zero_le _, rfl, J0, Lib.hid hW⟩
  case round =>
    obtain ⟨k, hk, rfl, hJs, hbel⟩ := hrel
    by_cases hlt : k < m
    · obtain ⟨bw, ow, rfl, hbw, hrw⟩ := (HW.out.below hbel.out).el k hlt
      have hlen : k < who.length := by rw [← HN2.out]; exact hlt
      have hmem : who.getD k 0 ∈ who := by rw [List.getD_eq_getElem?_getD, List.getElem?_eq_getElem hlen]; exact List.getElem_mem _
      obtain ⟨hx0, hx1⟩ := HIN.out _ hmem
      have htk := powAt_take vs who k hlen
      obtain ⟨z, hzz⟩ : ∃ z, z = who.getD k 0 := ⟨_, rfl⟩
      rw [← hzz] at hrw hx0 hx1 htk
      clear hmem hzz
      obtain ⟨i, rfl⟩ : ∃ i : Nat, z = i := ⟨z.toNat, by omega⟩
      have hi : i < len := by omega
      obtain ⟨b, off, rfl, hb, hr⟩ := (HV.out.below hbel.out).el i hi
      have hl := HV.out.at i (by rw [← HN.out]; exact hi)
      rw [Int.toNat_natCast] at htk
      obtain ⟨X, hX⟩ : ∃ X, X = vs.getD i ([], 0) := ⟨_, rfl⟩
      rw [← hX] at hr hl htk
      have hpw := vcells_pow hl hr
      have hcs : wr.cell? ⟨Bs, 0, none⟩ = some (.slice (some ⟨b, off, none⟩) len cap) := cell_on hbel.out HBS.out
      have hpl : (powAt vs (who.take k)).length < m := by unfold powAt; rw [List.length_map, List.length_take]; omega
      obtain ⟨fn, tmps, assign, body, hy, hR⟩ := HY.out _ X.2 wr hJs.out hpl
      have HRR := Lib.hid hR
      have HTK := Lib.hid htk
      clear hr hl hX hb htk hpl hlen hbw hR
      have hil : (k : Int) < m := by omega
      have hil2 : (i : Int) < len := by omega
      gi_wp2
      refine HRR.out.mono ?_
      rintro e W3 (⟨rfl, hJ3, hk3⟩ | ⟨rfl, hJx3⟩)
      · have B3 := Lib.hid (hbel.out.trans hk3)
        have J3 := Lib.hid hJ3
        clear hJ3 hk3 HRR hy hpw hcs hrw
        gi_wp2
        go_roundw
        case rel => exact ⟨k + 1, by omega, by go_num, Lib.hid (by rw [HTK.out]; exact J3.out), B3⟩
        case measure => simp [intOf]; omega
      · clear HRR hy hpw hcs hrw
        gi_wp2
        refine bodyPost_ret (results_none rfl _ _ _) rfl ?_
        exact ⟨⟨_, rfl⟩, .inr ⟨_, trivial, hJx3⟩⟩
    · obtain rfl : k = m := by omega
      gi_wp2
      go_end0
      exact ⟨⟨_, rfl⟩, .inl ⟨_, rfl, by have := hJs.out; rwa [HN2.out, List.take_length] at this⟩⟩

theorem some1_stops (n : Nat) (hn : 1 ≤ n) (Bw Bs : Nat) (A A' : Option Addr) (len cap m c' : Nat) (vs : List Va) (who : List Int) (w0 : World)
    (hBw : w0.cell? ⟨Bw, 0, none⟩ = some (.slice A' m c')) (hBs : w0.cell? ⟨Bs, 0, none⟩ = some (.slice A len cap))
    (hv : Vals w0 (.slice A len cap) vs) (hw : Ins w0 (.slice A' m c') who) (hin : ∀ x ∈ who, 0 ≤ x ∧ x < len) (hz : m ≤ 1000000) :
    SeqStopsK Fence.wide n Tryz.prog 142 #[.pointer (some ⟨Bw, 0, none⟩), .pointer (some ⟨Bs, 0, none⟩)] (fun x : Int => #[Value.int .i64 x]) (Below w0.heap.size) (fun ys => ys = powAt vs who) (fun _ => True) m w0 :=
  fun l J Jx W hW _ _ hY h0 => some1_in n hn l Bw Bs A A' len cap m c' vs who w0 W J Jx hW hY hBw hBs hv hw hin hz h0
end Go.Proofs.YtniknhhejlgdfaaGreatDoor
/- Where a key is: slices.IndexFunc at validators, Find. -/
namespace Go.Proofs.YtniknhhejlgdfaaGreatDoor
open Go.RowKit

/-- The place of a key, or -1. -/
def findK (vs : List Va) (key : List Int) : Int :=
  match vs.findIdx? (fun x => decide (x.1 = key)) with
  | some i => i
  | none => -1
theorem findK_at (vs : List Va) (key : List Int) (i : Nat) (hi : i < vs.length) (he : (vs.getD i ([], 0)).1 = key) (hb : ∀ j, j < i → (vs.getD j ([], 0)).1 ≠ key) : findK vs key = i := by
  have : vs.findIdx? (fun x => decide (x.1 = key)) = some i := by
    rw [List.findIdx?_eq_some_iff_getElem]
    refine ⟨hi, ?_, fun j hj => ?_⟩
    · rw [List.getD_eq_getElem?_getD, List.getElem?_eq_getElem hi] at he
      simpa using he
    · have h2 := hb j hj
      rw [List.getD_eq_getElem?_getD, List.getElem?_eq_getElem (Nat.lt_trans hj hi)] at h2
      simpa using h2
  unfold findK
  rw [this]
theorem findK_none (vs : List Va) (key : List Int) (hb : ∀ j, j < vs.length → (vs.getD j ([], 0)).1 ≠ key) : findK vs key = -1 := by
  have : vs.findIdx? (fun x => decide (x.1 = key)) = none := by
    rw [List.findIdx?_eq_none_iff]
    intro x hx
    obtain ⟨j, hj, rfl⟩ := List.getElem_of_mem hx
    have h2 := hb j hj
    rw [List.getD_eq_getElem?_getD, List.getElem?_eq_getElem hj] at h2
    simpa using h2
  unfold findK
  rw [this]

set_option maxHeartbeats 4000000 in
set_option maxRecDepth 100000 in
theorem index_any (vs : List Va) (key : List Int) (A : Option Addr) (n c : Nat) (hk : key.length = 16) (bx : Nat) (w : World) (hv : Vals w (.slice A n c) vs) (hx : w.rangeAt bx 0 (u8s key)) (hz : n ≤ 1000000) :
    Calls Tryz.prog 92 #[.slice A n c, .func (.func 93) #[] #[.pointer (some ⟨bx, 0, none⟩)]] w fun e w' => e = .returned (.int .i64 (findK vs key)) ∧ Below w.heap.size w w' := by
  have hn := hv.len
  have HV := Lib.hid hv
  have HX := Lib.hid hx
  have HN := Lib.hid hn
  clear hv hx hn
  go_enter Tryz.func92, Tryz.ntmps92
  go_wp2
  go_loopw [5, 8] (fun _ k wr => ∃ (i : Nat), i ≤ n ∧ k = .int .i64 i ∧ Hid (∀ j, j < i → (vs.getD j ([], 0)).1 ≠ key) ∧ Hid (Below w.heap.size w wr))
    (fun _ k _ => n - (intOf k).toNat)
  case atStart => exact ⟨0, by omega, rfl, Lib.hid (fun j h => absurd h (by omega)), Lib.hid (Below.refl _ _)⟩
  case round =>
    obtain ⟨i, hi, rfl, hne, hbel⟩ := hrel
    by_cases hlt : i < n
    · obtain ⟨b, off, rfl, hb, hr⟩ := (HV.out.below hbel.out).el i hlt
      have hl := HV.out.at i (by rw [← HN.out]; exact hlt)
      obtain ⟨X, hX⟩ : ∃ X, X = vs.getD i ([], 0) := ⟨_, rfl⟩
      rw [← hX] at hr hl
      have hi39 : (Tryz.prog.info? 90).map (·.size) = some (vcells X).length := by rw [vcells_len X hl]; exact Tryz.size90
      have HR := Lib.hid hr
      have HL := Lib.hid hl
      have HI := Lib.hid hi39
      have HXE := Lib.hid hX
      have hkx := range_below HX.out hbel.out
      have HKX := Lib.hid hkx
      clear hr hl hi39 hX hkx hb
      have hil : (i : Int) < n := by omega
      go_wp2_with (first | (refine wpList_load_g rfl 90 (.tmp 14) rfl b (off + i * 17) rfl (vcells X) _ HR.out Tryz.underlying90 rfl HI.out ?_) | (go_at_call 93; refine (find1_any X key HL.out hk bx wr HKX.out).mono ?_; rintro _ w1 ⟨rfl, bel1⟩; have B1 := Lib.hid (hbel.out.trans (bel1.mono hbel.out.size)); clear bel1))
      · rename_i hc
        have he : X.1 = key := by simpa using hc
        go_ret
        refine ⟨?_, B1.out⟩
        rw [findK_at vs key i (by rw [← HN.out]; exact hlt) (by rw [← HXE.out]; exact he) hne.out]
        rfl
      · rename_i hc
        have he : X.1 ≠ key := by simpa using hc
        go_roundw
        case rel => exact ⟨i + 1, by omega, by go_num, Lib.hid (fun j hj => by
          by_cases hji : j = i
          · subst hji; rw [← HXE.out]; exact he
          · exact hne.out j (by omega)), B1⟩
        case measure => simp [intOf]; omega
    · obtain rfl : i = n := by omega
      go_wp2
      go_ret
      refine ⟨?_, hbel.out⟩
      rw [findK_none vs key (by rw [← HN.out]; exact hne.out)]
      rfl

set_option maxHeartbeats 4000000 in
set_option maxRecDepth 100000 in
theorem find_any (vs : List Va) (key : List Int) (A : Option Addr) (n c : Nat) (hk : key.length = 16) (w : World) (hv : Vals w (.slice A n c) vs) (hz : n ≤ 1000000) :
    Calls Tryz.prog 68 #[.slice A n c, .agg (u8s key).toArray] w fun e w' => e = .returned (.int .i64 (findK vs key)) ∧ Below w.heap.size w w' := by
  have hv1 : Vals (w.alloc (.cells (u8s key).toArray 24)) (.slice A n c) vs := hv.below ((Below.refl _ _).alloc (Nat.le_refl _) _)
  have hx1 : (w.alloc (.cells (u8s key).toArray 24)).rangeAt w.heap.size 0 (u8s key) := range_new w (u8s key) 24
  have HV := Lib.hid hv1
  have HX := Lib.hid hx1
  clear hv hv1 hx1
  go_enter Tryz.func68, Tryz.ntmps68
  go_wp2_with (go_at_call 92; refine (index_any vs key A n c hk w.heap.size _ HV.out HX.out hz).mono ?_; rintro _ w1 ⟨rfl, bel1⟩; have B1 := Lib.hid (((Below.refl w.heap.size w).alloc (Nat.le_refl _) (.cells (u8s key).toArray 24)).trans (bel1.mono (by simp))); clear bel1)
  go_ret
  exact ⟨rfl, B1.out⟩
end Go.Proofs.YtniknhhejlgdfaaGreatDoor
