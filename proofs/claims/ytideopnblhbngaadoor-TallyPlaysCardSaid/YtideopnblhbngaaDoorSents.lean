/- All sentinels of a list that is laid: where they lie, and that no two are one. -/
import Derived.Stop.LaidTwo
import Derived.Test.YtideopnblhbngaaDoorKit
namespace Go.Proofs.YtideopnblhbngaaDoor
open Go.RowKit

def sentL (nm : String) (L : List (String × List UInt8)) : List (String × DataW Unit) := L.map fun x => (x.1, .iface nm (.ptr (.agg [.lit (.string x.2)])))
theorem laid_all {P : Program} {nm : String} {W : World} {ti tp te ts : TypeId} {ms : Array (String × TypeId)} {f : Field}
    (hi : P.underlying ti = some (.interface ms)) (hrow : ∀ u, P.typeName? 3 u = some nm → u = tp)
    (hp : P.underlying tp = some (.pointer te)) (he : P.underlying te = some (.struct #[f])) (hft : f.type = ts) (hfo : f.offset = 0) (hs : P.underlying ts = some .string) (hc : P.cellsOf te = 1) (hcs : P.cellsOf ts = 1) :
    ∀ (L : List (String × List UInt8)) (gs : List Nat) (ps : List MemPlace), L.map (fun x => P.globalNamed x.1) = gs.map some → (∀ g ∈ gs, (P.globals[g]?).map (·.type) = some ti) →
      DataW.LaidVars P W (sentL nm L) ps → (∀ b off, MemPlace.cell b off ∈ ps → ∀ u v, W.cell? ⟨b, off, none⟩ = some (.iface u v) → Value.okWide P W .any 0 u v) →
      ∃ al : List Addr, al.length = gs.length ∧ (∀ (i g : Nat) (a : Addr), gs[i]? = some g → al[i]? = some a → W.cell? ⟨g, 0, none⟩ = some (.iface tp (.pointer (some a)))) ∧ (al.map fun a => MemPlace.cell a.block a.off).Sublist ps
  | [], gs, ps, hg, _, hl, _ => by
    have : gs = [] := by cases gs with | nil => rfl | cons => simp at hg
    subst this
    exact ⟨[], rfl, fun i g a h => by simp at h, List.nil_sublist _⟩
  | (n, text) :: L, gs, ps, hg, ht, hl, hok => by
    cases gs with
    | nil => simp at hg
    | cons g gs =>
      simp only [List.map_cons, List.cons.injEq] at hg
      obtain ⟨hg0, hg1⟩ := hg
      obtain ⟨g', t', cs, fu, p, q, hg', ht', hv, hd, hrest, e⟩ := hl
      obtain rfl := Option.some.inj (hg0.symm.trans hg')
      obtain rfl := Option.some.inj ((ht g (by simp)).symm.trans ht')
      subst e
      obtain ⟨l⟩ := cs
      have ok0 : ∀ u v, l = [.iface u v] → Value.okWide P W .any 0 u v := fun u v e => by
        subst e
        exact hok g 0 (by simp [MemPlace.row]) u v (by simpa using World.var?_cell hg' hv 0)
      obtain ⟨a, s, rfl, hca, hsa, hza, rfl⟩ := errorString_of_trod hi hrow hp he hft hfo hs hc hcs hd ok0
      obtain ⟨al, h1, h2, h3⟩ := laid_all hi hrow hp he hft hfo hs hc hcs L gs q hg1 (fun x hx => ht x (List.mem_cons_of_mem _ hx)) hrest (fun b off hb => hok b off (List.mem_append_right _ hb))
      refine ⟨a :: al, by simp [h1], fun i g2 a2 hg2 ha2 => ?_, ?_⟩
      · cases i with
        | zero =>
          simp only [List.getElem?_cons_zero, Option.some.injEq] at hg2 ha2
          subst hg2 ha2
          exact World.var?_cell hg' hv 0
        | succ i => exact h2 i g2 a2 (by simpa using hg2) (by simpa using ha2)
      · rw [List.map_cons]
        have hsub : [MemPlace.cell a.block a.off].Sublist (MemPlace.row ⟨g, 0, none⟩ 1 ++ MemPlace.row a 1) := by simp [MemPlace.row]
        first
          | exact hsub.append h3
          | (rw [List.append_assoc]; exact hsub.append h3)
end Go.Proofs.YtideopnblhbngaaDoor
