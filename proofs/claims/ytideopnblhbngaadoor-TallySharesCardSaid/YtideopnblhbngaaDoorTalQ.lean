/- What a tally's keys have: plain; steps on pairs that calls answer. -/
import Derived.Test.YtideopnblhbngaaDoorTalP
import Derived.Test.YtideopnblhbngaaDoorEnough
import Derived.Test.YtideopnblhbngaaDoorRely2
import Derived.Test.YtideopnblhbngaaDoorRelyMore
namespace Go.Proofs.YtideopnblhbngaaDoor
open Go.RowKit Go.Shelf

theorem gives_extract {P : Program} {o : Oper} {ρ : Operand → Value} {w : World} {S : Value → World → Prop} (x : Operand) (i : Nat) (ho : o.op = .extract x i) (xs : Array Value) (v : Value) (hx : ρ x = .tuple xs) (hv : xs[i]? = some v) (h : S v w) : Gives P o ρ w S := by
  refine gives_val v (w' := w) ?_ h
  unfold execOp
  simp only [ho, hx]
  simp [Instr.extract, hv, Sem.run_pure]

section
variable {K : Type}
theorem sel_sorted (q : K → Bool) (ws : List (Wd K)) : ∀ j, ((sel q ws j).map (·.1)).Pairwise (· < ·)
  | 0 => by simp [sel_zero]
  | j + 1 => by
    have ih := sel_sorted q ws j
    cases h : selAt q ws j with
    | none => rw [sel_no h]; exact ih
    | some y =>
      have hs : sel q ws (j + 1) = sel q ws j ++ [y] := by
        unfold sel
        rw [List.range_succ, List.filterMap_append]
        simp [h]
      have hy : y.1 = j := by
        unfold selAt at h
        split at h
        · split at h
          · cases h; rfl
          · cases h
        · cases h
      rw [hs, List.map_append, List.pairwise_append]
      refine ⟨ih, by simp, fun a ha b hb => ?_⟩
      obtain ⟨z, hz, rfl⟩ := List.mem_map.1 ha
      have := (sel_range q ws j z hz).2
      simp only [List.map_cons, List.map_nil, List.mem_singleton] at hb
      omega
/-- The places of those that said a key. -/
def whoOf [DecidableEq K] (ws : List (Wd K)) (k : K) : List Int := (sel (fun x => decide (x = k)) ws ws.length).map (·.1)
def thingsOf [DecidableEq K] (ws : List (Wd K)) (k : K) : List Int := (sel (fun x => decide (x = k)) ws ws.length).map (·.2)
theorem whoOf_good [DecidableEq K] {vs : List Va} {ws : List (Wd K)} (k : K) (hv : validB vs = true) (hl : ws.length = vs.length) : goodW vs (whoOf ws k) = true := by
  unfold goodW
  rw [hv, Bool.true_and, Bool.and_eq_true]
  constructor
  · unfold inR
    rw [List.all_eq_true]
    intro i hi
    obtain ⟨y, hy, rfl⟩ := List.mem_map.1 hi
    have := sel_range _ ws ws.length y hy
    rw [← hl]
    simpa using this
  · refine decide_eq_true ?_
    exact (sel_sorted (fun x => decide (x = k)) ws ws.length).imp (fun h => by omega)
theorem whoOf_len [DecidableEq K] (ws : List (Wd K)) (k : K) : (whoOf ws k).length ≤ ws.length := by
  unfold whoOf
  rw [List.length_map]
  exact sel_len _ ws ws.length
/-- Their power. -/
def powOf [DecidableEq K] (vs : List Va) (ws : List (Wd K)) (k : K) : Int := (powAt vs (whoOf ws k)).sum

/-- May a word be put? -/
def freeAt (ws : List (Wd K)) (who : Int) : Bool := decide (0 ≤ who) && match ws[who.toNat]? with
  | some (false, _) => true
  | _ => false
def putW (ws : List (Wd K)) (k : K) (who x : Int) : List (Wd K) := if freeAt ws who then ws.set who.toNat (true, k, x) else ws
def putE (ws : List (Wd K)) (who : Int) (aR aT : Addr) : Value := if 0 ≤ who ∧ who < ws.length then (if freeAt ws who then .nilIface else errV aT) else errV aR
def putB [DecidableEq K] (vs : List Va) (ws : List (Wd K)) (k : K) (who x : Int) : Bool := freeAt ws who && !enoughB vs (whoOf ws k) && enoughB vs (whoOf (putW ws k who x) k)
theorem freeAt_out {ws : List (Wd K)} {who : Int} (h : ¬ (0 ≤ who ∧ who < ws.length)) : freeAt ws who = false := by
  unfold freeAt
  by_cases h0 : 0 ≤ who
  · rw [List.getElem?_eq_none (by omega)]
    simp
  · simp [h0]
theorem put_out [DecidableEq K] {vs : List Va} {ws : List (Wd K)} {k : K} {who x : Int} {aR aT : Addr} (h : ¬ (0 ≤ who ∧ who < ws.length)) : putB vs ws k who x = false ∧ putE ws who aR aT = errV aR ∧ putW ws k who x = ws := by
  have hf := freeAt_out h
  refine ⟨by unfold putB; rw [hf]; simp, by unfold putE; rw [if_neg h], by unfold putW; rw [hf]; simp⟩
theorem put_said [DecidableEq K] {vs : List Va} {ws : List (Wd K)} {k kk : K} {i : Nat} {x xx : Int} {aR aT : Addr} (h : ws[i]? = some (true, kk, xx)) : putB vs ws k i x = false ∧ putE ws i aR aT = errV aT ∧ putW ws k i x = ws := by
  have hf : freeAt ws i = false := by unfold freeAt; simp [h]
  have hl := (List.getElem?_eq_some_iff.1 h).1
  refine ⟨by unfold putB; rw [hf]; simp, by unfold putE; rw [if_pos ⟨by omega, by omega⟩, hf]; simp, by unfold putW; rw [hf]; simp⟩
theorem put_free [DecidableEq K] {vs : List Va} {ws : List (Wd K)} {k kk : K} {i : Nat} {x xx : Int} {aR aT : Addr} (h : ws[i]? = some (false, kk, xx)) :
    putB vs ws k i x = (!enoughB vs (whoOf ws k) && enoughB vs (whoOf (putW ws k i x) k)) ∧ putE ws i aR aT = .nilIface ∧ putW ws k i x = ws.set i (true, k, x) := by
  have hf : freeAt ws i = true := by unfold freeAt; simp [h]
  have hl := (List.getElem?_eq_some_iff.1 h).1
  refine ⟨by unfold putB; rw [hf]; simp, by unfold putE; rw [if_pos ⟨by omega, by omega⟩, hf]; simp, by unfold putW; rw [hf]; simp⟩
theorem putW_len (ws : List (Wd K)) (k : K) (who x : Int) : (putW ws k who x).length = ws.length := by
  unfold putW
  split <;> simp
end
theorem below_drewN (w : World) (n : Nat) : Below w.heap.size w (w.drewN n) := ⟨rfl, rfl, rfl, Nat.le_refl _, fun _ _ => rfl⟩
end Go.Proofs.YtideopnblhbngaaDoor
