/-
  PLAIN WORDS: tokens in memory.
-/
import Derived.Test.YtbommoefpekalaaGreatDoorGen
import Derived.Test.YtbommoefpekalaaGreatDoorWPlain
namespace Go.Proofs.YtbommoefpekalaaGreatDoor
open Go.RowKit

def Tk.cells (x : Tk) : List Value := [.int .i64 x.kind, .string x.s, .int .i64 x.at_]
theorem tk_ok : EncOk Tk.cells 3 := ⟨fun _ => rfl, by omega, fun x u hu => by
  simp only [Tk.cells, List.mem_cons, List.not_mem_nil, or_false] at hu
  rcases hu with rfl | rfl | rfl <;> rfl⟩
abbrev TkSl := SlG Tk.cells 3
structure TkAt (w : World) (b o : Nat) (x : Tk) : Prop where
  c0 : w.cell? ⟨b, o, none⟩ = some (.int .i64 x.kind)
  c1 : w.cell? ⟨b, o + 1, none⟩ = some (.string x.s)
  c2 : w.cell? ⟨b, o + 2, none⟩ = some (.int .i64 x.at_)
theorem tkAt {w : World} {b o : Nat} {x : Tk} (h : AtG Tk.cells w b o x) : TkAt w b o x := ⟨h 0 _ rfl, h 1 _ rfl, h 2 _ rfl⟩
theorem tkSl_at {w : World} {B : Nat} {A : Option Addr} {xs : List Tk} (h : TkSl w B A xs) {i : Nat} {x : Tk} (hx : xs[i]? = some x) : ∃ b o, A = some ⟨b, o, none⟩ ∧ b < B ∧ TkAt w b (o + i * 3) x := by
  obtain ⟨b, o, h1, h2, h3⟩ := h.at_ (List.getElem?_eq_some_iff.1 hx).1
  exact ⟨b, o, h1, h2, tkAt (h3 i x hx)⟩
end Go.Proofs.YtbommoefpekalaaGreatDoor
