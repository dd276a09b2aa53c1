/-
  THE WALK of the law AuthApart.
-/
import Derived.Test.YtpheiojmcafolaaGreatDoorAw16
import Derived.Test.YtpheiojmcafolaaGreatDoorAw11
import Derived.Maps.AppendAt
import Derived.Deep.RegionHeld3
namespace Go.Proofs.YtpheiojmcafolaaGreatDoor
set_option maxRecDepth 100000
open Go.RowKit Go.Sort
theorem pol_info : (Tryz.prog.info? 47).map (fun i => (i.zero, i.size, i.bytes)) = some (some (.agg #[.string ⟨#[]⟩, .bool false, .int .i64 0, .string ⟨#[]⟩, .string ⟨#[]⟩, .string ⟨#[]⟩, .int .i64 0, .string ⟨#[]⟩, .string ⟨#[]⟩, .string ⟨#[]⟩, .int .i64 0, .string ⟨#[]⟩, .string ⟨#[]⟩, .string ⟨#[]⟩, .slice none 0 0]), 15, 216) := by kernel_rfl
theorem cells_new_at (w : World) (l : List Value) (cs : Array Value) (t : TypeId) (h : cs.toList = l) : ∀ j u, l[j]? = some u → (w.alloc (.cells cs t)).cell? ((⟨w.heap.size, 0, none⟩ : Addr).add j) = some u := by
 intro j u hu
 rw [add_none, Nat.zero_add, World.cell?_alloc_new, ← hu, ← h, Array.getElem?_toList]
end Go.Proofs.YtpheiojmcafolaaGreatDoor
