/- Worlds that go on. -/
import Derived.Test.YtideopnblhbngaaDoorRelyMore
namespace Go.Proofs.YtideopnblhbngaaDoor
open Go.RowKit
theorem cell_on {w w' : World} {p : Addr} {v : Value} (h : Ext w w') (hc : w.cell? p = some v) : w'.cell? p = some v := (h.cell (World.block_lt_of_cell? w p hc)).trans hc
theorem ext_of_drew {w w' : World} (h : Ext w.drew w') : Ext w w' := (Below.refl w.heap.size w).drew.trans (Below.mono h (Nat.le_refl _))
end Go.Proofs.YtideopnblhbngaaDoor
