/-
  THE WALKS: strings.NewReplacer.
-/
import Derived.Test.YtbommoefpekalaaGreatDoorStrs0
import Derived.Test.YtbommoefpekalaaGreatDoorNames
import Derived.Test.YtbommoefpekalaaGreatDoorGen
namespace Go.Proofs.YtbommoefpekalaaGreatDoor
open Go.RowKit Go.Sort

theorem string_infoQ : (Tryz.prog.info? 9).map (fun i => (i.zero, i.size, i.bytes)) = some (some (.string ⟨#[]⟩), 1, 16) := by kernel_rfl
def quoL : List (List UInt8) := [[92], [92, 92], [34], [92, 34]]
theorem own_strsQ {w : World} {base : Nat} {v : Value} {n : Nat} {ss : List (List UInt8)} (h : w.ownsRow base 9 1 v n (ss.map encStr)) (hn : n = ss.length) :
    ∃ A c, v = .slice A n c ∧ n ≤ c ∧ c ≤ 9223372036854775807 ∧ StrSl w w.heap.size A ss := by
  subst hn
  rcases h.2 with ⟨hv, h0⟩ | ⟨g, cap, cur, hv, hbase, hb, h1, h2, h3, h4⟩
  · have : ss = [] := List.eq_nil_of_length_eq_zero h0
    subst this
    exact ⟨none, 0, hv, by simp, by omega, StrSl.nil _ _ _⟩
  · subst hv
    unfold maxLen at h2
    refine ⟨_, cap, rfl, h1, h2, fun _ => ⟨g, 0, rfl, (Array.getElem?_eq_some_iff.1 hb).1, fun i l hl => ?_⟩⟩
    have hi := (List.getElem?_eq_some_iff.1 hl).1
    rw [Nat.zero_add, h.cellAt i (by omega), List.getElem?_map, hl]; rfl
/-- A fresh replacer in block r: once not done, the pairs at hand. -/
def RepNew (w : World) (r : Nat) : Prop :=
  ∃ A c, Blk w r 169 #[.int .u32 0, .int .i32 0, .int .u32 0, .nilIface, .slice A 4 c] ∧ StrSl w r A quoL
set_option maxRecDepth 100000 in
set_option maxHeartbeats 1600000 in
theorem rep_New (b : Nat) (w : World) (hb : b < w.heap.size) (hc : ∀ i l, quoL[i]? = some l → w.cell? ⟨b, i, none⟩ = some (encStr l)) :
    Calls Tryz.prog 75 #[.slice (some ⟨b, 0, none⟩) 4 4] w fun e w' => ∃ r, e = .returned (.pointer (some ⟨r, 0, none⟩)) ∧ w.heap.size ≤ r ∧ RepNew w' r ∧ Below w.heap.size w w' := by
  obtain ⟨i0, hi, hz0, hz1, hz2⟩ := info_parts string_infoQ
  have hnews : ∀ j u, (quoL.map encStr)[j]? = some u → w.cell? ((⟨b, 0, none⟩ : Addr).add j) = some u := by
    intro j u hu
    rw [List.getElem?_map] at hu
    cases hq : quoL[j]? with
    | none => rw [hq] at hu; simp at hu
    | some l =>
      rw [hq] at hu; simp at hu; subst hu
      have := hc j l hq
      unfold Addr.add; split
      · rename_i h0; subst h0; exact this
      · rw [Nat.zero_add]; exact this
  have hone : ∀ u ∈ quoL.map encStr, u.oneCell' = true := by
    intro u hu
    obtain ⟨l, _, rfl⟩ := List.mem_map.1 hu
    rfl
  go_enter Tryz.func75, Tryz.ntmps75
  go_wp2_with (at_builtin; refine wpList_append_own _ rfl (.const (.slice none 0 0)) (.tmp 8) 46 rfl w.heap.size 9 i0 _ 1 16 Tryz.underlying46 hi hz0 hz1 hz2 rfl (by omega) (.slice none 0 0) 0 [] rfl (World.ownsRow_nil _ _ _ _) ⟨b, 0, none⟩ 4 4 (quoL.map encStr) rfl rfl hnews hone (by unfold maxLen; omega) (by omega) (by omega) ?_)
  intro v1 w1 hown1 hgrow1 _
  obtain ⟨A, c, hv, _, _, hs⟩ := own_strsQ hown1 rfl
  subst hv
  go_outline
  go_wp2_with fail
  go_ret
  refine ⟨w1.heap.size, rfl, hgrow1.size, ⟨A, c, ?_, ?_⟩, ?_⟩
  · exact Blk.new _ _ _
  · exact hs.below (Below.alloc (Below.refl w1.heap.size w1) (Nat.le_refl _) _)
  · exact ((Below.refl w.heap.size w).grown hgrow1 (Nat.le_refl _) (fun k hk => by cases hk)).alloc hgrow1.size _
end Go.Proofs.YtbommoefpekalaaGreatDoor
