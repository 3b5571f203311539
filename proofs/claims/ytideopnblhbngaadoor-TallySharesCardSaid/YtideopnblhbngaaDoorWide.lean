/- Plain steps within a fence that shuts nothing out, and within a round. -/
import Derived.RangeFuncNested
import Derived.RangeFuncBound
import Derived.RangeFuncCalls
import Derived.RangeFuncLeaves
import Derived.Shelf.Abstract
import Derived.Shelf.RegionOpen
import Derived.WalkKit
import Derived.OwnWalkIn
import Derived.TacticsInMore
import Derived.LoopNIn
import Derived.LoopIn
import Derived.Test.YtideopnblhbngaaDoorOps
namespace Go.Proofs.YtideopnblhbngaaDoor
open Go.RowKit

/-- A fence that shuts nothing out, in a round or in none. -/
def AtRound (ro : Option Nat) : Fence := { Fence.wide with round := ro }
theorem atRound_none : AtRound none = Fence.wide := rfl
theorem atRound_some (l : Nat) : AtRound (some l) = Fence.wide.inRound l := rfl
theorem wideF : ∃ ro, Fence.wide = AtRound ro := ⟨none, rfl⟩
theorem roundF (l : Nat) : ∃ ro, Fence.wide.inRound l = AtRound ro := ⟨some l, rfl⟩

section
variable {n : Nat} {P : Program} {ops : Array Oper} {Q : Exit → Act → World → Prop} {a : Act} {w : World} {rest : List Oper} {o : Oper}

theorem operIn_of (ro : Option Nat) {next : Act → World → Prop} (hnd : ∀ c, o.op ≠ .defer c) (h : o.wp P a w next Q) : o.wpIn (AtRound ro) n P a w next Q := by
  have hsem : o.semAt ro a.eval = execOp a.eval o := Oper.semAt_eq ro a.eval o hnd
  refine ⟨fun _ _ => trivial, ?_⟩
  show o.uponIn (AtRound ro) n P a next Q ((o.semAt ro a.eval).run P w)
  rw [hsem]
  unfold Oper.wp at h
  generalize (execOp a.eval o).run P w = r at h ⊢
  unfold Oper.upon at h
  split at h
  · exact h
  · exact h
  · exact h
  · exact ⟨fun hd => (by cases hd), callsIn_wide.2 h⟩
  · exact ⟨fun hd => (by cases hd), fun c cs _ => let ⟨v, w', r, s⟩ := h c cs; ⟨v, w', r, stepsIn_wide.2 s⟩⟩
  · exact h
  · exact h.elim

/-- One operation that is wanted, by a plain step. -/
theorem wpListIn_op (ro : Option Nat) (hw : Region.wanted o (yielded ops a.tmps) = true) (hnd : ∀ c, o.op ≠ .defer c)
    (h : ∀ K : Act → World → Prop, (∀ a w, wpListIn (AtRound ro) n P ops Q rest a w → K a w) → o.wp P a w K Q) : wpListIn (AtRound ro) n P ops Q (o :: rest) a w := by
  simp only [wpListIn, hw, if_true]
  exact operIn_of ro hnd (h _ (fun _ _ h => h))

/-- A list of operations, by plain steps. -/
theorem wpListIn_of (ro : Option Nat) (hQ : ¬ LetsOut Q) : ∀ (l : List Oper), (∀ o ∈ l, ∀ c, o.op ≠ .defer c) → ∀ (a : Act) (w : World), wpList P ops Q l a w → wpListIn (AtRound ro) n P ops Q l a w
  | [], _, a, w, h => h
  | o :: rest, hl, a, w, h => by
    have ih := wpListIn_of ro hQ rest (fun x hx => hl x (List.mem_cons_of_mem _ hx))
    simp only [wpList] at h
    simp only [wpListIn]
    split at h
    · rename_i hw
      rw [if_pos hw]
      rcases h with h | h
      · exact operIn_of ro (hl o (by simp)) (Oper.wp_mono ih h)
      · exact absurd h.2 hQ
    · rename_i hw
      rw [if_neg hw]
      exact ⟨fun _ _ => trivial, ih _ _ h⟩

theorem wpListIn_plainly {F : Fence} (hF : ∃ ro, F = AtRound ro) (hQ : ¬ LetsOut Q) (l : List Oper) (hl : ∀ o ∈ l, ∀ c, o.op ≠ .defer c) (a : Act) (w : World) (h : wpList P ops Q l a w) : wpListIn F n P ops Q l a w := by
  obtain ⟨ro, rfl⟩ := hF
  exact wpListIn_of ro hQ l hl a w h

theorem wpListIn_load_g {F : Fence} (hF : ∃ ro, F = AtRound ro) (hw : Region.wanted o (yielded ops a.tmps) = true) (ty : TypeId) (x : Operand) (ho : o.op = .load ty x)
    (b f : Nat) (hx : a.eval x = .pointer (some ⟨b, f, none⟩)) (cs : List Value) (d : TypeDesc) (hc : w.rangeAt b f cs)
    (hu : P.underlying ty = some d) (hd : d.isRow = true) (hi : (P.info? ty).map (·.size) = some cs.length)
    (h : wpListIn F n P ops Q rest (a.put o.dst (.agg cs.toArray)) w) : wpListIn F n P ops Q (o :: rest) a w := by
  obtain ⟨ro, rfl⟩ := hF
  exact wpListIn_op ro hw (fun c e => by rw [ho] at e; cases e) fun _ hK => wp_load_mid ty x ho b f hx cs d hc hu hd hi (hK _ _ h)

theorem wpListIn_store_row {F : Fence} (hF : ∃ ro, F = AtRound ro) (hw : Region.wanted o (yielded ops a.tmps) = true) (ty : TypeId) (x y : Operand) (ho : o.op = .store ty x y)
    (b : Nat) (hx : a.eval x = .pointer (some ⟨b, 0, none⟩)) (cs : List Value) (hy : a.eval y = .agg cs.toArray) (t : Nat) (hb : Has w b t cs.length)
    (hi : (P.info? ty).map (·.size) = some cs.length) (h1 : ∀ v ∈ cs, v.oneCell' = true)
    (h : ∀ w1, Put w b t cs w1 → wpListIn F n P ops Q rest (a.put o.dst undef) w1) : wpListIn F n P ops Q (o :: rest) a w := by
  obtain ⟨Z, hz, hZ⟩ := hb
  obtain ⟨ro, rfl⟩ := hF
  refine wpListIn_op ro hw (fun c e => by rw [ho] at e; cases e) fun K hK => ?_
  have hr := run_storeVar_row (P := P) w b t ty Z cs.toArray hZ (by simpa using hi) (by simpa using hz) (Array.all_eq_true_iff_forall_mem.2 (fun v hv => h1 v (by simpa using hv)))
  unfold Oper.wp execOp
  simp only [ho, hx, hy, Instr.storeAt, Instr.sureAddr, Sem.run_bind, Sem.run_pure, Result.andThen_ok, hr]
  refine hK _ _ (h _ ⟨setRow_heap w b Z _ t _ hZ, fun k hk => setRow_other w b k _ hk, by simp, rfl, rfl, rfl⟩)
end
end Go.Proofs.YtideopnblhbngaaDoor
