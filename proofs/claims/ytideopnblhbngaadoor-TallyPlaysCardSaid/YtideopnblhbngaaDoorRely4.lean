/- The law on regions that draw their order, where one operation changes what the others leave. -/
import Derived.Test.YtideopnblhbngaaDoorRely3
namespace Go.Proofs.YtideopnblhbngaaDoor
open Go.RowKit

theorem Gives.mono4 {P : Program} {o : Oper} {ρ : Operand → Value} {w : World} {S S' : Value → World → Prop} (h : Gives P o ρ w S) (hs : ∀ v w', S v w' → S' v w') : Gives P o ρ w S' := by
  unfold Gives at h ⊢
  split at h
  · exact hs _ _ h
  · exact hs _ _ h
  · exact h.mono fun e w'' ⟨v, h1, h2⟩ => ⟨v, h1, hs _ _ h2⟩
  · exact h.elim
section
variable (P : Program) (ops : Array Oper) (E Z : World → World → Prop) (mu : Nat) (R : Nat → World → Value → Prop) (w0 : World) (Q : Exit → Act → World → Prop)

def StepOk4 (f : (Nat → Value) → Act) (i : Nat) (o : Oper) : Prop :=
  ∀ vs w, E w0 w → (i = mu → Z w0 w) → Deps R vs w o.after.toList →
    if Region.wanted o (yielded ops (f vs).tmps) then Gives P o (f vs).eval w (fun v w' => E w w' ∧ (i ≠ mu → Z w w') ∧ ∀ w'', (if i = mu then Z w' w'' else E w' w'') → R i w'' v)
    else ∀ w'', R i w'' undef

def Rely4 (tl : List Oper) : Nat → ((Nat → Value) → Act) → List Oper → Prop
  | i, f, [] => ∀ vs w, E w0 w → (∀ j, j < i → R j w (vs j)) → wpList P ops Q tl (f vs) w
  | i, f, o :: rest => StepOk4 P ops E Z mu R w0 f i o ∧ Rely4 tl (i + 1) (fun vs => (f vs).put o.dst (vs i)) rest
end

section
variable {P : Program} {ops : Array Oper} {E Z : World → World → Prop} {mu : Nat} {R : Nat → World → Value → Prop} {w0 : World} {Q : Exit → Act → World → Prop} {a0 : Act}

theorem rely_get4 {tl : List Oper} : ∀ (l : List Oper) (i : Nat) (f : (Nat → Value) → Act), Rely4 P ops E Z mu R w0 Q tl i f l →
    (∀ j o, l[j]? = some o → StepOk4 P ops E Z mu R w0 (fun vs => mix (fun k => decide (k < i + j)) vs i l (f vs)) (i + j) o) ∧
    (∀ vs w, E w0 w → (∀ j, j < i + l.length → R j w (vs j)) → wpList P ops Q tl (mix (fun _ => true) vs i l (f vs)) w)
  | [], i, f, h => ⟨fun j o hj => by simp at hj, fun vs w he hr => h vs w he (fun j hj => hr j (by simpa using hj))⟩
  | p :: rest, i, f, h => by
    obtain ⟨h1, h2⟩ := h
    obtain ⟨h3, h4⟩ := rely_get4 rest (i + 1) _ h2
    constructor
    · intro j o hj
      cases j with
      | zero =>
        obtain rfl : p = o := by simpa using hj
        have e : ∀ (vs : Nat → Value), mix (fun k => decide (k < i + 0)) vs i (p :: rest) (f vs) = f vs := by
          intro vs
          simp only [mix, Nat.add_zero, Nat.lt_irrefl, decide_false, Bool.false_eq_true, if_false]
          have hn : ∀ (l : List Oper) (m : Nat) (a : Act), i ≤ m → mix (fun k => decide (k < i)) vs m l a = a := by
            intro l
            induction l with
            | nil => intro m a _; rfl
            | cons q l ih =>
              intro m a hm
              simp only [mix]
              rw [ih (m + 1) _ (by omega)]
              have e : decide (m < i) = false := decide_eq_false (by omega)
              simp [e]
          exact hn rest (i + 1) _ (by omega)
        simp only [e]
        exact h1
      | succ j =>
        have := h3 j o (by simpa using hj)
        rw [show i + (j + 1) = i + 1 + j by omega]
        simp only [mix]
        have e : decide (i < i + 1 + j) = true := decide_eq_true (by omega)
        simp only [e, if_true]
        exact this
    · intro vs w he hr
      simp only [mix, if_true]
      exact h4 vs w he (fun j hj => hr j (by simp only [List.length_cons]; omega))

theorem rely_sound4 {m : Nat} (hE0 : ∀ w, E w w) (hZ0 : ∀ w, Z w w) (hZ : ∀ {a b c}, Z a b → Z b c → Z a c) (hE : ∀ {a b c}, E a b → E b c → E a c) (hs : sane ops = true) (ht : tailOk3 ops m = true)
    (hstep : ∀ j o, j < m → ops[j]? = some o → StepOk4 P ops E Z mu R w0 (fun vs => mix (fun k => decide (k < j)) vs 0 ops.toList a0) j o)
    (hend : ∀ vs w, E w0 w → (∀ j, j < m → R j w (vs j)) → wpList P ops Q (ops.toList.drop m) (mix (fun k => decide (k < m)) vs 0 ops.toList a0) w) :
    ∀ (fuel : Nat) (listed : Array Bool) (vs : Nat → Value) (w : World), listed.size = ops.size → unl (fun j => listed.getD j false) m + (ops.size - m) ≤ fuel → E w0 w →
      (∀ j, listed.getD j false = true → j < m) →
      (∀ j, listed.getD j false = true → ∀ w', (if j = mu then Z w w' else E w w') → R j w' (vs j)) →
      (∀ j o, ops[j]? = some o → listed.getD j false = true → ∀ e ∈ o.after.toList, Region.binds .any e = true → listed.getD e.on false = true) →
      (listed.getD mu false = false → Z w0 w) →
      wpAny P .any ops Q fuel listed (mix (fun j => listed.getD j false) vs 0 ops.toList a0) w := by
  obtain ⟨hmn, htl⟩ := tailOk3_spec ht
  have hall : ∀ (fuel : Nat) (listed : Array Bool) (vs : Nat → Value) (w : World), listed.size = ops.size → unl (fun j => listed.getD j false) m = 0 → ops.size ≤ fuel + m → E w0 w →
      (∀ j, listed.getD j false = true → j < m) →
      (∀ j, listed.getD j false = true → ∀ w', (if j = mu then Z w w' else E w w') → R j w' (vs j)) → wpAny P .any ops Q fuel listed (mix (fun j => listed.getD j false) vs 0 ops.toList a0) w := by
    intro fuel listed vs w hsz hz hf he hlm hR
    have hmk := unl_zero m hz
    have hL : ∀ j, listed.getD j false = decide (j < m) := by
      intro j
      by_cases h : j < m
      · rw [hmk j h]; simp [h]
      · cases hb : listed.getD j false with
        | true => exact absurd (hlm j hb) h
        | false => simp [h]
    refine seq_sound3 hs ht fuel m listed _ w (Nat.le_refl _) hsz (fun j _ => hL j) hf hmn ?_
    have hm : mix (fun j => listed.getD j false) vs 0 ops.toList a0 = mix (fun k => decide (k < m)) vs 0 ops.toList a0 := by
      refine act_ext (by simp [mix_size]) (by simp [mix_defers]) (fun t => ?_)
      rw [mix_get, mix_get, lastW_congr _ (fun k => decide (k < m)) vs vs t ops.toList 0 (fun j o hj _ => ⟨by
        simp only [Nat.zero_add]
        exact hL j, fun _ => rfl⟩)]
    rw [hm]
    exact hend vs w he (fun j hj => hR j (hmk j hj) w (by split; exact hZ0 w; exact hE0 w))
  intro fuel
  induction fuel with
  | zero =>
    intro listed vs w hsz hu he hlm hR hcl hzz
    exact hall 0 listed vs w hsz (by omega) (by omega) he hlm hR
  | succ fuel ih =>
    intro listed vs w hsz hu he hlm hR hcl hzz
    by_cases hz : unl (fun j => listed.getD j false) m = 0
    · exact hall (fuel + 1) listed vs w hsz hz (by omega) he hlm hR
    have hnot : ¬ ∀ j, j < m → listed.getD j false = true := fun h => hz (by
      have : ∀ k, k ≤ m → unl (fun j => listed.getD j false) k = 0 := by
        intro k
        induction k with
        | zero => intro _; rfl
        | succ k ihk => intro hk; have e1 := ihk (by omega); have e2 := h k (by omega); simp only [unl, e1, e2, if_true]
      exact this m (Nat.le_refl _))
    have hrm : ∀ i ∈ Region.ready .any ops listed, i < m := by
      intro i hi
      simp only [Region.ready, List.mem_filter, List.mem_range] at hi
      obtain ⟨hin, hrd⟩ := hi
      have ho : ops[i]? = some ops[i] := by simp [hin]
      generalize ops[i] = o at ho
      rw [ho] at hrd
      simp only [Bool.and_eq_true, Bool.not_eq_true', Option.map_some, Option.getD_some, Array.all_eq_true', Bool.or_eq_true] at hrd
      rcases Nat.lt_or_ge i m with h | h
      · exact h
      · exfalso
        by_cases him : i = m
        · refine hnot fun j hj => ?_
          refine ((htl i o h ho).1 him j hj).listed listed hcl ho fun e hem hb => ?_
          rcases hrd.2 e (by simpa using hem) with h2 | h2
          · rw [hb] at h2; cases h2
          · exact h2
        · obtain ⟨e, hem, hb, hon⟩ := (htl i o h ho).2 (by omega)
          rcases hrd.2 e (by simpa using hem) with h2 | h2
          · rw [hb] at h2; cases h2
          · rw [hon] at h2
            have := hlm (i - 1) h2
            omega
    refine ⟨fun hr => ?_, fun i hi => ?_⟩
    · exfalso
      refine hnot fun j => ?_
      induction j using Nat.strongRecOn with
      | ind j ihj =>
        intro hj
        cases hL : listed.getD j false with
        | true => rfl
        | false =>
          exfalso
          have ho : ops[j]? = some ops[j] := by simp [show j < ops.size by omega]
          have hmem : j ∈ Region.ready .any ops listed := by
            simp only [Region.ready, List.mem_filter, List.mem_range]
            refine ⟨by omega, ?_⟩
            rw [getD_tf (by omega), hL, ho]
            simp only [Bool.not_false, Bool.true_and, Option.map_some, Option.getD_some, Array.all_eq_true', Bool.or_eq_true]
            intro e hm
            obtain ⟨h1, _⟩ := sane_spec hs ho
            cases hb : Region.binds .any e with
            | false => exact .inl rfl
            | true =>
              have h2 := h1 e (by simpa using hm) hb
              exact .inr (ihj e.on h2 (by omega))
          rw [hr] at hmem
          cases hmem
    have him := hrm i hi
    simp only [Region.ready, List.mem_filter, List.mem_range] at hi
    obtain ⟨hin, hrd⟩ := hi
    have ho : ops[i]? = some ops[i] := by simp [hin]
    generalize ops[i] = o at ho
    rw [ho] at hrd
    simp only [Bool.and_eq_true, Bool.not_eq_true', Option.map_some, Option.getD_some, Array.all_eq_true', Bool.or_eq_true] at hrd
    obtain ⟨hLi, hdeps⟩ := hrd
    have hLi' : listed.getD i false = false := by
      simp only [Array.getD_eq_getD_getElem?] at hLi ⊢
      rw [Array.getElem?_eq_getElem (by omega)] at hLi ⊢
      simpa using hLi
    obtain ⟨s1, s2, s3, s4⟩ := sane_spec hs ho
    have hdone : ∀ e ∈ o.after.toList, Region.binds .any e = true → listed.getD e.on false = true := by
      intro e hm hb
      rcases hdeps e (by simpa using hm) with h | h
      · rw [hb] at h; cases h
      · exact h
    have hget : ∀ t, t ∈ o.looksAt ops → (mix (fun j => listed.getD j false) vs 0 ops.toList a0).tmps[t]? = (mix (fun k => decide (k < i)) vs 0 ops.toList a0).tmps[t]? := by
      intro t ht
      rw [mix_get, mix_get, lastW_congr _ (fun k => decide (k < i)) vs vs t ops.toList 0 (fun j p hj hd => ⟨?_, fun _ => rfl⟩)]
      simp only [Nat.zero_add]
      have hp : ops[j]? = some p := by simpa using hj
      obtain ⟨h1, h2⟩ := s3 j p t hp hd ht
      rcases Nat.lt_trichotomy j i with hlt | heq | hgt
      · obtain ⟨e, hm, hb, rfl⟩ := h1 hlt
        rw [hdone e hm hb]
        simp [hlt]
      · subst heq
        rw [hLi']
        simp
      · obtain ⟨e, hm, hb, hon⟩ := h2 hgt
        cases hL : listed.getD j false with
        | false => simp; omega
        | true =>
          have := hcl j p hp hL e hm hb
          rw [hon, hLi'] at this
          cases this
    have hev : ∀ x ∈ o.op.operands, (mix (fun j => listed.getD j false) vs 0 ops.toList a0).eval x = (mix (fun k => decide (k < i)) vs 0 ops.toList a0).eval x := by
      intro x hx
      cases x with
      | tmp t =>
        have ht : t ∈ o.looksAt ops := by
          simp only [Oper.looksAt, List.mem_append, List.mem_filterMap]
          exact .inl ⟨.tmp t, by simpa using hx, rfl⟩
        exact eval_of_get (hget t ht)
      | _ => rfl
    have hexec := execOp_congr o s2 hev
    have hw : Region.wanted o (yielded ops (mix (fun j => listed.getD j false) vs 0 ops.toList a0).tmps) = Region.wanted o (yielded ops (mix (fun k => decide (k < i)) vs 0 ops.toList a0).tmps) := by
      unfold Region.wanted
      cases hg : o.guard with
      | none => rfl
      | some g =>
        obtain ⟨j, want⟩ := g
        have : yielded ops (mix (fun j => listed.getD j false) vs 0 ops.toList a0).tmps j = yielded ops (mix (fun k => decide (k < i)) vs 0 ops.toList a0).tmps j := by
          unfold yielded
          cases hj : (ops[j]?).bind (·.dst) with
          | none => rfl
          | some t =>
            have ht : t ∈ o.looksAt ops := by
              simp only [Oper.looksAt, List.mem_append]
              exact .inr (by simp [hg, hj])
            simp only [Option.bind_some, hget t ht]
        simp only [this]
    have hD : Deps R vs w o.after.toList := Deps.of fun e hm hb => hR e.on (hdone e hm hb) w (by split; exact hZ0 w; exact hE0 w)
    have hst := hstep i o him ho vs w he (fun e => hzz (by rw [← e]; exact hLi')) hD
    -- what is left when op i has given v in w'
    have hnext : ∀ v w', E w w' → (i ≠ mu → Z w w') → (∀ w'', (if i = mu then Z w' w'' else E w' w'') → R i w'' v) →
        wpAny P .any ops Q fuel (listed.setIfInBounds i true) ((mix (fun j => listed.getD j false) vs 0 ops.toList a0).put o.dst v) w' := by
      intro v w' hew hzw hr
      have hup : ∀ j, (listed.setIfInBounds i true).getD j false = if j = i then true else listed.getD j false := by
        intro j
        simp only [Array.getD_eq_getD_getElem?, Array.getElem?_setIfInBounds]
        by_cases e : i = j
        · subst e; simp [hsz, hin]
        · rw [if_neg e, if_neg (fun h => e h.symm)]
      have hmix : (mix (fun j => listed.getD j false) vs 0 ops.toList a0).put o.dst v =
          mix (fun j => (listed.setIfInBounds i true).getD j false) (fun j => if j = i then v else vs j) 0 ops.toList a0 := by
        refine act_ext (by simp [put_size, mix_size]) (by simp [put_defers, mix_defers]) (fun t => ?_)
        rw [put_get, mix_size]
        by_cases hd : o.dst = some t
        · rw [if_pos hd, mix_get, lastW_at _ _ t ops.toList 0 i o (by simpa using ho) hd (by rw [hup]; simp) (fun j p hj hd' => (s4 j p t (by simpa using hj) hd' hd).symm)]
          simp
        · rw [if_neg hd, mix_get, mix_get]
          rw [lastW_congr (fun j => listed.getD j false) (fun j => (listed.setIfInBounds i true).getD j false) vs (fun j => if j = i then v else vs j) t ops.toList 0 (fun j p hj hd' => ?_)]
          simp only [Nat.zero_add]
          have hne : j ≠ i := by
            intro e
            subst e
            have : p = o := by
              have h1 : ops[j]? = some p := by simpa using hj
              rw [ho] at h1
              exact (Option.some.inj h1).symm
            exact hd (this ▸ hd')
          simp [hup, hne]
      rw [hmix]
      refine ih _ _ _ (by simp [hsz]) ?_ (hE he hew) ?_ ?_ ?_ ?_
      · have := unl_mark (L := fun j => listed.getD j false) (L' := fun j => (listed.setIfInBounds i true).getD j false) hLi' (by simp [hup]) (fun j hj => by simp [hup, hj]) m him
        omega
      · intro j hj
        rw [hup] at hj
        by_cases e : j = i
        · omega
        · rw [if_neg e] at hj
          exact hlm j hj
      · intro j hj w2 hw2
        by_cases e : j = i
        · subst e
          simpa using hr w2 hw2
        · simp only [if_neg e]
          refine hR j ?_ w2 ?_
          · rw [hup, if_neg e] at hj
            exact hj
          · split at hw2
            · rename_i hj'
              rw [if_pos hj']
              exact hZ (hzw (fun h => e (hj'.trans h.symm))) hw2
            · rename_i hj'
              rw [if_neg hj']
              exact hE hew hw2
      · intro j p hp hj e hm hb
        rw [hup] at hj ⊢
        by_cases ej : j = i
        · subst ej
          have : p = o := by rw [ho] at hp; exact (Option.some.inj hp).symm
          subst this
          split
          · rfl
          · exact hdone e hm hb
        · rw [if_neg ej] at hj
          split
          · rfl
          · exact hcl j p hp hj e hm hb
      · intro hmu
        rw [hup] at hmu
        by_cases e : mu = i
        · rw [if_pos e] at hmu; cases hmu
        · rw [if_neg e] at hmu
          exact hZ (hzz hmu) (hzw (fun h => e h.symm))
    simp only [wpOp, ho, hw]
    split
    · rename_i hwt
      rw [if_pos hwt] at hst
      refine .inl ?_
      unfold Oper.wp
      unfold Gives at hst
      rw [hexec]
      generalize (execOp (mix (fun k => decide (k < i)) vs 0 ops.toList a0).eval o).run P w = r at hst
      cases r with
      | halt x w' => simp at hst
      | ok x w' =>
        cases x with
        | value v => exact hnext v w' hst.1 hst.2.1 hst.2.2
        | skip => exact hnext undef w' hst.1 hst.2.1 hst.2.2
        | enter g args =>
          simp only [Oper.upon]
          refine Calls.mono hst ?_
          rintro e w'' ⟨v, rfl, h1, h2⟩
          exact hnext v w'' h1 h2.1 h2.2
        | _ => simp at hst
    · rename_i hwt
      rw [if_neg hwt] at hst
      exact hnext undef w (hE0 w) (fun _ => hZ0 w) (fun w'' _ => hst w'')

/-- The law, at the orders. -/
theorem wpAny_rely4 {l : List Oper} {a : Act} {w : World} (m : Nat) (hs : sane l.toArray = true) (ht : tailOk3 l.toArray m = true)
    (E Z : World → World → Prop) (mu : Nat) (hE0 : ∀ w, E w w) (hZ0 : ∀ w, Z w w) (hZ : ∀ {a b c}, Z a b → Z b c → Z a c) (hE : ∀ {a b c}, E a b → E b c → E a c)
    (R : Nat → World → Value → Prop) (h : Rely4 P l.toArray E Z mu R w.drew Q (l.drop m) 0 (fun _ => a) (l.take m)) : wpAny P .any l.toArray Q l.toArray.size (Array.replicate l.toArray.size false) a w.drew := by
  obtain ⟨h1, h2⟩ := rely_get4 (l.take m) 0 _ h
  obtain ⟨hmn, _⟩ := tailOk3_spec ht
  have hmn' : m ≤ l.length := by simpa using hmn
  have h0 : ∀ j, (Array.replicate l.toArray.size false).getD j false = false := by
    intro j
    simp only [Array.getD_eq_getD_getElem?, Array.getElem?_replicate]
    split <;> rfl
  have hmix : ∀ vs : Nat → Value, mix (fun j => (Array.replicate l.toArray.size false).getD j false) vs 0 l.toArray.toList a = a := by
    intro vs
    refine act_ext (by simp [mix_size]) (by simp [mix_defers]) (fun t => ?_)
    rw [mix_get, lastW_none _ _ _ _ _ (fun j o _ _ => h0 _)]
  have hdrop : ∀ (L : Nat → Bool) (vs : Nat → Value) (t : Nat), (∀ j, L j = true → j < m) → lastW L vs t 0 l = lastW L vs t 0 (l.take m) := by
    intro L vs t hL
    have gen : ∀ (l1 l2 : List Oper) (i : Nat), (∀ j, L j = true → j < i + l1.length) → lastW L vs t i (l1 ++ l2) = lastW L vs t i l1 := by
      intro l1
      induction l1 with
      | nil =>
        intro l2 i hj
        rw [List.nil_append, lastW_none L vs t l2 i (fun j o _ _ => by
          cases hb : L (i + j) with
          | false => rfl
          | true => have h9 := hj _ hb; simp only [List.length_nil] at h9; omega)]
        rfl
      | cons o l1 ih =>
        intro l2 i hj
        simp only [List.cons_append, lastW]
        rw [ih l2 (i + 1) (fun j h => by have := hj j h; simp only [List.length_cons] at this; omega)]
    have := gen (l.take m) (l.drop m) 0 (fun j h => by have := hL j h; simp only [List.length_take]; omega)
    rwa [List.take_append_drop] at this
  have hmixd : ∀ (k : Nat) (vs : Nat → Value), k ≤ m → mix (fun j => decide (j < k)) vs 0 l a = mix (fun j => decide (j < k)) vs 0 (l.take m) a := by
    intro k vs hk
    refine act_ext (by simp [mix_size]) (by simp [mix_defers]) (fun t => ?_)
    rw [mix_get, mix_get, hdrop _ vs t (fun j hj => by simp at hj; omega)]
  have hmixt : ∀ (vs : Nat → Value), mix (fun _ => true) vs 0 (l.take m) a = mix (fun k => decide (k < m)) vs 0 (l.take m) a := by
    intro vs
    refine act_ext (by simp [mix_size]) (by simp [mix_defers]) (fun t => ?_)
    rw [mix_get, mix_get, lastW_congr (fun _ => true) (fun k => decide (k < m)) vs vs t (l.take m) 0 (fun j o hj _ => ⟨by
      have := (List.getElem?_eq_some_iff.1 hj).1
      simp only [List.length_take] at this
      simp
      omega, fun _ => rfl⟩)]
  have := rely_sound4 (Q := Q) (a0 := a) hE0 hZ0 hZ hE hs ht (fun j o hj ho => by
      have h3 := h1 j o (by rw [List.getElem?_take, if_pos hj]; simpa using ho)
      simp only [Nat.zero_add] at h3
      have he : (fun vs => mix (fun k => decide (k < j)) vs 0 l.toArray.toList a) = (fun vs => mix (fun k => decide (k < j)) vs 0 (l.take m) a) := funext fun vs => hmixd j vs (by omega)
      rw [he]
      exact h3)
    (fun vs w' he hr => by
      have h3 := h2 vs w' he (fun j hj => hr j (by simp only [List.length_take] at hj; omega))
      rw [hmixt vs, ← hmixd m vs (Nat.le_refl _)] at h3
      simpa using h3)
    l.toArray.size (Array.replicate l.toArray.size false) (fun _ => undef) w.drew (by simp) (by
      have : ∀ n, unl (fun j => (Array.replicate l.toArray.size false).getD j false) n ≤ n := by
        intro n
        induction n with
        | zero => exact Nat.le_refl _
        | succ n ih => simp only [unl, h0, Bool.false_eq_true, if_false] at ih ⊢; omega
      have := this m
      omega) (hE0 _) (fun j hj => by rw [h0] at hj; cases hj) (fun j hj => by rw [h0] at hj; cases hj) (fun j o _ hj => by rw [h0] at hj; cases hj) (fun _ => hZ0 _)
  rw [hmix] at this
  exact this



/-- The law, where one operation changes what the others leave: ZZ is what the others do. -/
theorem wp_region_rely4 {id : Nat} {l : List Oper} {a : Act} {w : World} (hm : P.follows .mixedOrders = true) (m : Nat) (hs : sane l.toArray = true) (ht : tailOk3 l.toArray m = true)
    (E Z : World → World → Prop) (mu : Nat) (hE0 : ∀ w, E w w) (hZ0 : ∀ w, Z w w) (hZ : ∀ {a b c}, Z a b → Z b c → Z a c) (hE : ∀ {a b c}, E a b → E b c → E a c)
    (R : Nat → World → Value → Prop) (h : Rely4 P l.toArray E Z mu R w.drew Q (l.drop m) 0 (fun _ => a) (l.take m)) : (Code.region id l.toArray true).wp P Q a w :=
  wp_region_any hm (wpAny_rely4 m hs ht E Z mu hE0 hZ0 hZ hE R h)
/-- The law, in a round. -/
theorem wpIn_region_rely4 {n id : Nat} {l : List Oper} {a : Act} {w : World} {F : Fence} (hF : ∃ ro, F = AtRound ro) (hQ : ¬ LetsOut Q) (hnd : l.all (fun o => match o.op with | .defer _ => false | _ => true) = true) (hm : P.follows .mixedOrders = true) (m : Nat) (hs : sane l.toArray = true) (ht : tailOk3 l.toArray m = true)
    (E Z : World → World → Prop) (mu : Nat) (hE0 : ∀ w, E w w) (hZ0 : ∀ w, Z w w) (hZ : ∀ {a b c}, Z a b → Z b c → Z a c) (hE : ∀ {a b c}, E a b → E b c → E a c)
    (R : Nat → World → Value → Prop) (h : Rely4 P l.toArray E Z mu R w.drew Q (l.drop m) 0 (fun _ => a) (l.take m)) : (Code.region id l.toArray true).wpIn F n P Q a w := by
  obtain ⟨ro, rfl⟩ := hF
  refine wpIn_region_any hm (wpAny_in ro hQ (fun i o ho c e => ?_) _ _ _ _ (wpAny_rely4 m hs ht E Z mu hE0 hZ0 hZ hE R h))
  rw [List.all_eq_true] at hnd
  have := hnd o (List.mem_of_getElem? (by simpa using ho))
  rw [e] at this
  cases this
section
variable {f : (Nat → Value) → Act} {i : Nat} {o : Oper} {E Z : World → World → Prop} {mu : Nat} {R : Nat → World → Value → Prop}
theorem step4_plain (hZE : ∀ {a b}, Z a b → E a b) (hi : i ≠ mu) (hg : o.guard = none) (h : ∀ vs w, E w0 w → Deps R vs w o.after.toList → Gives P o (f vs).eval w (fun v w' => Z w w' ∧ ∀ w'', E w' w'' → R i w'' v)) :
    StepOk4 P ops E Z mu R w0 f i o := fun vs w hE _ hd => by
  have hw : Region.wanted o (yielded ops (f vs).tmps) = true := by simp [Region.wanted, hg]
  rw [if_pos hw]
  exact (h vs w hE hd).mono4 fun v w' hh => ⟨hZE hh.1, fun _ => hh.1, fun w'' h2 => hh.2 w'' (by rw [if_neg hi] at h2; exact h2)⟩
theorem step4_mut (hi : i = mu) (hg : o.guard = none) (h : ∀ vs w, Z w0 w → Deps R vs w o.after.toList → Gives P o (f vs).eval w (fun v w' => E w w' ∧ ∀ w'', Z w' w'' → R i w'' v)) :
    StepOk4 P ops E Z mu R w0 f i o := fun vs w _ hz hd => by
  have hw : Region.wanted o (yielded ops (f vs).tmps) = true := by simp [Region.wanted, hg]
  rw [if_pos hw]
  exact (h vs w (hz hi) hd).mono4 fun v w' hh => ⟨hh.1, fun e => absurd hi e, fun w'' h2 => hh.2 w'' (by rw [if_pos hi] at h2; exact h2)⟩
end
end
end Go.Proofs.YtideopnblhbngaaDoor
