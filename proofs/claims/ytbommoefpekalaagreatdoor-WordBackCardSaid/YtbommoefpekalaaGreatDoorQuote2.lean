/-
  THE WALKS: (*strings.Replacer).build.
-/
import Derived.Test.YtbommoefpekalaaGreatDoorQuote1
import Derived.LoopN
import Derived.WalkSpells
import Derived.Laws.IdiomStrings
import Derived.Deep.WholeRow
namespace Go.Proofs.YtbommoefpekalaaGreatDoor
open Go.RowKit Go.Sort

theorem one257 (v : Value) (hv : v.oneCell' = true) : (Tryz.zeroCells212.setIfInBounds 256 v).all (·.oneCell') = true := by
  rw [Array.all_eq_true_iff_forall_mem]
  intro x hx
  rcases Array.mem_or_eq_of_mem_setIfInBounds hx with h | h
  · exact (Array.all_eq_true_iff_forall_mem.1 (by decide +kernel : Tryz.zeroCells212.all (·.oneCell') = true)) x h
  · rw [h]; exact hv
theorem store257 (w : World) (v : Value) (hv : v.oneCell' = true) (g : Nat) (hg : g = w.heap.size) :
    Sem.run Tryz.prog (storeCells ⟨g, 0, none⟩ (Tryz.zeroCells212.toList.set 256 v)) (w.alloc (.cells Tryz.zeroCells212 212)) = .ok () (w.alloc (.cells (Tryz.zeroCells212.setIfInBounds 256 v) 212)) := by
  subst hg
  have h := run_storeCells_new (P := Tryz.prog) w 212 Tryz.zeroCells212 (Tryz.zeroCells212.setIfInBounds 256 v) (by rw [Array.size_setIfInBounds]; kernel_rfl) (by simp) (one257 v hv)
  rw [Array.toList_setIfInBounds] at h
  exact h
/-- The table of the replacer, in block g, all of it below B: at 34 and 92 the two bytes that stand for it. -/
structure RepTab (w : World) (lo B g : Nat) : Prop where
  ge : lo ≤ g
  lt : g < B
  le : B ≤ w.heap.size
  no : ∀ i, i < 256 → i ≠ 34 → i ≠ 92 → w.cell? ⟨g, i, none⟩ = some (.slice none 0 0)
  q : ∃ a c, w.cell? ⟨g, 34, none⟩ = some (.slice (some ⟨a, 0, none⟩) 2 c) ∧ (lo ≤ a ∧ a < B) ∧ w.cell? ⟨a, 0, none⟩ = some (.int .u8 92) ∧ w.cell? ⟨a, 1, none⟩ = some (.int .u8 34)
  s : ∃ a c, w.cell? ⟨g, 92, none⟩ = some (.slice (some ⟨a, 0, none⟩) 2 c) ∧ (lo ≤ a ∧ a < B) ∧ w.cell? ⟨a, 0, none⟩ = some (.int .u8 92) ∧ w.cell? ⟨a, 1, none⟩ = some (.int .u8 92)
  t : ∃ a, w.cell? ⟨g, 256, none⟩ = some (.slice (some ⟨a, 0, none⟩) 2 2) ∧ (lo ≤ a ∧ a < B) ∧ w.cell? ⟨a, 0, none⟩ = some (.string ⟨#[34]⟩) ∧ w.cell? ⟨a, 1, none⟩ = some (.string ⟨#[92]⟩)
theorem RepTab.keep {w w' : World} {lo B g : Nat} (h : RepTab w lo B g) (hs : w.heap.size ≤ w'.heap.size) (e : ∀ g i, lo ≤ g → g < B → w'.cell? ⟨g, i, none⟩ = w.cell? ⟨g, i, none⟩) : RepTab w' lo B g := by
  obtain ⟨h0, h1, h2, h3, ⟨a, c, q1, q2, q5, q6⟩, ⟨a', c', s1, s2, s5, s6⟩, ⟨a'', t1, t2, t3, t4⟩⟩ := h
  exact ⟨h0, h1, Nat.le_trans h2 hs, fun i hi n1 n2 => (e _ _ h0 h1).trans (h3 i hi n1 n2), ⟨a, c, (e _ _ h0 h1).trans q1, q2, (e _ _ q2.1 q2.2).trans q5, (e _ _ q2.1 q2.2).trans q6⟩,
    ⟨a', c', (e _ _ h0 h1).trans s1, s2, (e _ _ s2.1 s2.2).trans s5, (e _ _ s2.1 s2.2).trans s6⟩, ⟨a'', (e _ _ h0 h1).trans t1, t2, (e _ _ t2.1 t2.2).trans t3, (e _ _ t2.1 t2.2).trans t4⟩⟩
theorem RepTab.below {w w' : World} {lo B g : Nat} (h : RepTab w lo B g) (hb : Below B w w') : RepTab w' lo B g := h.keep hb.size fun g i _ hg => hb.cell (p := ⟨g, i, none⟩) hg
theorem Blk.grown {w w' : World} {g : Nat} {t : TypeId} {cs : Array Value} {row : Option Nat} (h : Blk w g t cs) (hg : w.grownBy w' row) (hn : some g ≠ row) : Blk w' g t cs := (hg.block g h.lt hn).trans h
theorem own_far {w : World} {base : Nat} {e : TypeId} {size : Nat} {v : Value} {n : Nat} {xs : List Value} (h : w.ownsRow base e size v n xs) {p : Addr} (hp : v.ownBlock ≠ some p.block) (u : Value) : (w.setCell p u).ownsRow base e size v n xs :=
  h.kept (row := some p.block) ⟨rfl, rfl, rfl, by simp [World.setCell], fun k _ hk => Below.heap_setCell _ _ _ _ (fun e => hk (by rw [e]))⟩ (.inr hp)
theorem zero150l : Tryz.zeroCells212 = (List.replicate 257 (.slice none 0 0)).toArray := by kernel_rfl
theorem zero150 (i : Nat) (hi : i < 256) : Tryz.zeroCells212[i]? = some (.slice none 0 0) := by
  rw [zero150l, List.getElem?_toArray, List.getElem?_replicate, if_pos (by omega)]
theorem bytes_one (W : World) (g : Nat) (hg : g = W.heap.size) (v : UInt8) :
    (convert 104 9 (.slice (some ⟨g, 0, none⟩) 1 1)).run Tryz.prog (W.alloc (.cells #[.int .u8 v.toNat] 5)) = .ok (.string ⟨#[v]⟩) (W.alloc (.cells #[.int .u8 v.toNat] 5)) := by
  subst hg
  exact run_convert_bytes_back (P := Tryz.prog) _ 104 9 5 ⟨W.heap.size, 0, none⟩ 1 [v] Tryz.underlying104 Tryz.underlying5 Tryz.underlying9 (fun j hj => by
    obtain rfl : j = 0 := by simp at hj; omega
    rw [add_none, Nat.zero_add, World.cell?_alloc_new]; rfl)
set_option maxRecDepth 100000 in
set_option maxHeartbeats 1600000 in
theorem rep_build (r : Nat) (w : World) (A : Option Addr) (c : Nat) (x0 x1 x2 x3 : Value) (hr : Blk w r 169 #[x0, x1, x2, x3, .slice A 4 c]) (hs : StrSl w w.heap.size A quoL) :
    Calls Tryz.prog 117 #[.pointer (some ⟨r, 0, none⟩)] w fun e w' => ∃ g, e = .returned (.iface 213 (.pointer (some ⟨g, 0, none⟩))) ∧ RepTab w' w.heap.size w'.heap.size g ∧ Below w.heap.size w w' := by
  obtain ⟨i0, hi, hz0, hz1, hz2⟩ := info_parts string_infoQ
  obtain ⟨b, o, rfl, hb, hc⟩ := hs (by decide)
  have c4 : w.cell? ⟨r, 4, none⟩ = some (.slice (some ⟨b, o, none⟩) 4 c) := (hr.cell 4).trans rfl
  have d0 : w.cell? ⟨b, o, none⟩ = some (.string ⟨#[92]⟩) := hc 0 _ rfl
  have d1 : w.cell? ⟨b, o + 1, none⟩ = some (.string ⟨#[92, 92]⟩) := hc 1 _ rfl
  have d2 : w.cell? ⟨b, o + 2, none⟩ = some (.string ⟨#[34]⟩) := hc 2 _ rfl
  have d3 : w.cell? ⟨b, o + 3, none⟩ = some (.string ⟨#[92, 34]⟩) := hc 3 _ rfl
  have hmk : ∀ w, (Instr.makeSlice 46 (.int .i64 0) (.int .i64 2)).run Tryz.prog w = .ok (.slice (some ⟨w.heap.size, 0, none⟩) 0 2) (w.alloc (.cells #[.string ⟨#[]⟩, .string ⟨#[]⟩] 9)) := fun _ => by kernel_rfl
  obtain ⟨Z, hZ, hst⟩ : ∃ Z : Array Value, Z = Tryz.zeroCells212.setIfInBounds 256 (.slice (some ⟨w.heap.size, 0, none⟩) 0 2) ∧
      Sem.run Tryz.prog (storeCells ⟨w.heap.size + 1, 0, none⟩ (Tryz.zeroCells212.toList.set 256 (.slice (some ⟨w.heap.size, 0, none⟩) 0 2))) ((w.alloc (.cells #[.string ⟨#[]⟩, .string ⟨#[]⟩] 9)).alloc (.cells Tryz.zeroCells212 212)) = .ok () ((w.alloc (.cells #[.string ⟨#[]⟩, .string ⟨#[]⟩] 9)).alloc (.cells Z 212)) :=
    ⟨_, rfl, store257 _ _ rfl _ (by simp)⟩
  have zno : ∀ i, i < 256 → Z[i]? = some (.slice none 0 0) := fun i hi => by rw [hZ, Array.getElem?_setIfInBounds_ne (by omega)]; exact zero150 i hi
  have ZNO := Lib.hid zno
  clear zno
  have z92 : Z[92]? = some (.slice none 0 0) := by rw [hZ]; kernel_rfl
  have z34 : Z[34]? = some (.slice none 0 0) := by rw [hZ]; kernel_rfl
  have z256 : Z[256]? = some (.slice (some ⟨w.heap.size, 0, none⟩) 0 2) := by rw [hZ]; kernel_rfl
  have i34 : (({ data := #[34] } : ByteArray)[0]'(by decide)).toNat = 34 := rfl
  have i92 : (({ data := #[92] } : ByteArray)[0]'(by decide)).toNat = 92 := rfl
  clear hZ
  go_enter Tryz.func117, Tryz.ntmps117
  go_wp2_with fail
  refine wp_loop_rounds 3 ?_
  rw [rounds_succ]
  go_wp2_with fail
  rw [rounds_succ]
  go_wp2_with fail
  rw [rounds_succ]
  go_wp2_with fail
  clear hst hmk
  have hown0 : ((w.alloc (.cells #[.string ⟨#[]⟩, .string ⟨#[]⟩] 9)).alloc (.cells Z 212)).ownsRow w.heap.size 9 1 (.slice (some ⟨w.heap.size, 0, none⟩) 0 2) 0 [] :=
    (World.ownsRow_made w #[.string ⟨#[]⟩, .string ⟨#[]⟩] 2 (Nat.le_refl _) (by unfold maxLen; omega) rfl).alloc _
  have hblk0 : Blk ((w.alloc (.cells #[.string ⟨#[]⟩, .string ⟨#[]⟩] 9)).alloc (.cells Z 212)) (w.heap.size + 1) 212 Z := by
    have := Blk.new (w.alloc (.cells #[.string ⟨#[]⟩, .string ⟨#[]⟩] 9)) 212 Z
    simpa using this
  have hbel0 : Below w.heap.size w ((w.alloc (.cells #[.string ⟨#[]⟩, .string ⟨#[]⟩] 9)).alloc (.cells Z 212)) := by (repeat (first | assumption | exact Below.refl _ _ | apply Below.drew | apply below_drewN | (refine Below.alloc ?_ (by first | exact Nat.le_refl _ | omega | (simp; done) | (simp; omega)) _)))
  have hsz0 : ((w.alloc (.cells #[.string ⟨#[]⟩, .string ⟨#[]⟩] 9)).alloc (.cells Z 212)).heap.size = w.heap.size + 2 := by simp
  generalize hW : ((w.alloc (.cells #[.string ⟨#[]⟩, .string ⟨#[]⟩] 9)).alloc (.cells Z 212)) = W at hown0 hblk0 hbel0 hsz0 ⊢
  clear hW
  have e0 := hbel0.cell (p := ⟨b, o, none⟩) hb
  have e1 := hbel0.cell (p := ⟨b, o + 1, none⟩) hb
  have e2 := hbel0.cell (p := ⟨b, o + 2, none⟩) hb
  have e3 := hbel0.cell (p := ⟨b, o + 3, none⟩) hb
  rw [d0] at e0
  rw [d1] at e1
  rw [d2] at e2
  rw [d3] at e3
  have HZ := Lib.hid hsz0
  clear hsz0
  have q34 : W.cell? ⟨w.heap.size + 1, 34, none⟩ = some (.slice none 0 0) := (hblk0.cell 34).trans z34
  have q256 : W.cell? ⟨w.heap.size + 1, 256, none⟩ = some (.slice (some ⟨w.heap.size, 0, none⟩) 0 2) := (hblk0.cell 256).trans z256
  have f0 := hblk0.frozen
  have heq := fun (W : World) (a : Option Addr) (n c : Nat) => Lib.run_eql_slice_nil (P := Tryz.prog) W 104 5 a n c 0 0 Tryz.underlying104
  have hbs34 : ∀ W : World, (convert 104 9 (.slice (some ⟨W.heap.size, 0, none⟩) 1 1)).run Tryz.prog (W.alloc (.cells #[.int .u8 34] 5)) = .ok (.string ⟨#[34]⟩) (W.alloc (.cells #[.int .u8 34] 5)) := fun W => bytes_one W _ rfl 34
  have hbs92 : ∀ W : World, (convert 104 9 (.slice (some ⟨W.heap.size, 0, none⟩) 1 1)).run Tryz.prog (W.alloc (.cells #[.int .u8 92] 5)) = .ok (.string ⟨#[92]⟩) (W.alloc (.cells #[.int .u8 92] 5)) := fun W => bytes_one W _ rfl 92
  refine wp_loop_rounds 3 ?_
  rw [rounds_succ]
  go_wp2_with (at_builtin; refine wpList_append_fits _ rfl (.tmp 119) (.tmp 123) 46 rfl w.heap.size 9 i0 1 Tryz.underlying46 hi hz1 w.heap.size 0 2 [] rfl ((hown0.alloc _).alloc _) ⟨W.heap.size + 1, 0, none⟩ 1 1 [.string ⟨#[34]⟩] rfl rfl (new_one (W.alloc _) _ _ _ (by simp)) (by simp [Value.oneCell']) (by omega) ?_)
  intro w1 hown1 hgrow1
  have hb1 : Blk w1 (w.heap.size + 1) 212 Z := ((hblk0.alloc _).alloc _).grown hgrow1 (by simp)
  have hbel1 : Below w.heap.size w w1 := (((hbel0.alloc (by have := HZ.out; omega) _).alloc (by have := HZ.out; simp; omega) _)).grown hgrow1 (by have := HZ.out; simp; omega) (by rintro k ⟨⟩; omega)
  clear hgrow1 hown0 hblk0 hbel0 q34 q256 f0 e0 e1 e2 e3
  obtain ⟨cp1, w2, hr1, hcl1, hbl1⟩ := bytes_conv (P := Tryz.prog) (w1.setCell ⟨w.heap.size + 1, 256, none⟩ (.slice (some ⟨w.heap.size, 0, none⟩) 1 2)) 9 104 5 ⟨#[92, 34]⟩ Tryz.underlying9 Tryz.underlying104 Tryz.underlying5
  have q256 : w1.cell? ⟨w.heap.size + 1, 256, none⟩ = some (.slice (some ⟨w.heap.size, 0, none⟩) 0 2) := (hb1.cell 256).trans z256
  have f0 := hb1.frozen
  have hb2 : Blk w2 (w.heap.size + 1) 212 (Z.setIfInBounds 256 (.slice (some ⟨w.heap.size, 0, none⟩) 1 2)) := (hb1.set 256 _).below hbl1 (hb1.set 256 _).lt
  have z34' : (Z.setIfInBounds 256 (.slice (some ⟨w.heap.size, 0, none⟩) 1 2))[34]? = some (.slice none 0 0) := by rw [Array.getElem?_setIfInBounds_ne (by omega)]; exact z34
  have z92' : (Z.setIfInBounds 256 (.slice (some ⟨w.heap.size, 0, none⟩) 1 2))[92]? = some (.slice none 0 0) := by rw [Array.getElem?_setIfInBounds_ne (by omega)]; exact z92
  have p34 : w2.cell? ⟨w.heap.size + 1, 34, none⟩ = some (.slice none 0 0) := (hb2.cell 34).trans z34'
  have f2 := hb2.frozen
  have HC1 := Lib.hid hcl1
  have HB1 := Lib.hid hbl1
  clear hcl1 hbl1
  have HO1 := Lib.hid hown1
  clear hown1
  have hr1' : (convert 9 104 (.string ⟨#[92, 34]⟩)).run Tryz.prog (w1.setCell ⟨w.heap.size + 1, 256, none⟩ (.slice (some ⟨w.heap.size, 0, none⟩) 1 2)) = .ok (.slice (some ⟨w1.heap.size, 0, none⟩) 2 cp1) w2 := by
    have := hr1
    simp only [World.size_setCell] at this
    exact this
  clear hr1
  go_wp2_with fail
  have hsz1 : w.heap.size + 1 < w1.heap.size := hb1.lt
  have hb3 : Blk (w2.setCell ⟨w.heap.size + 1, 34, none⟩ (.slice (some ⟨w1.heap.size, 0, none⟩) 2 cp1)) (w.heap.size + 1) 212 ((Z.setIfInBounds 256 (.slice (some ⟨w.heap.size, 0, none⟩) 1 2)).setIfInBounds 34 (.slice (some ⟨w1.heap.size, 0, none⟩) 2 cp1)) := hb2.set 34 _
  have hown3 : (w2.setCell ⟨w.heap.size + 1, 34, none⟩ (.slice (some ⟨w1.heap.size, 0, none⟩) 2 cp1)).ownsRow w.heap.size 9 1 (.slice (some ⟨w.heap.size, 0, none⟩) 1 2) 1 [.string ⟨#[34]⟩] :=
    own_far (p := ⟨w.heap.size + 1, 34, none⟩) (own_keep (own_far (p := ⟨w.heap.size + 1, 256, none⟩) HO1.out (by simp [Value.ownBlock]) _) HB1.out) (by simp [Value.ownBlock]) _
  have hbel3 : Below w.heap.size w (w2.setCell ⟨w.heap.size + 1, 34, none⟩ (.slice (some ⟨w1.heap.size, 0, none⟩) 2 cp1)) :=
    ((hbel1.setCell (p := ⟨w.heap.size + 1, 256, none⟩) (by simp) _).trans (HB1.out.mono (by rw [World.size_setCell]; omega))).setCell (by simp) _
  have hk0 : w2.cell? ⟨w1.heap.size, 0, none⟩ = some (.int .u8 92) := by
    have := HC1.out 0 (by decide)
    rw [World.size_setCell] at this
    exact this
  have hk1 : w2.cell? ⟨w1.heap.size, 1, none⟩ = some (.int .u8 34) := by
    have := HC1.out 1 (by decide)
    rw [World.size_setCell] at this
    exact this
  have hd0 := (World.cell?_setCell_other w2 ⟨w.heap.size + 1, 34, none⟩ ⟨w1.heap.size, 0, none⟩ (.slice (some ⟨w1.heap.size, 0, none⟩) 2 cp1) (by simp)).trans hk0
  have hd1 := (World.cell?_setCell_other w2 ⟨w.heap.size + 1, 34, none⟩ ⟨w1.heap.size, 1, none⟩ (.slice (some ⟨w1.heap.size, 0, none⟩) 2 cp1) (by simp)).trans hk1
  have hs2 : w1.heap.size < (w2.setCell ⟨w.heap.size + 1, 34, none⟩ (.slice (some ⟨w1.heap.size, 0, none⟩) 2 cp1)).heap.size := by
    rw [World.size_setCell]
    exact World.block_lt_of_cell? _ _ hk0
  generalize hW3 : w2.setCell ⟨w.heap.size + 1, 34, none⟩ (.slice (some ⟨w1.heap.size, 0, none⟩) 2 cp1) = W3 at hb3 hown3 hbel3 hd0 hd1 hs2 ⊢
  clear hW3 hk0 hk1 HC1 HB1 HO1 hr1' f2 p34 hb2 f0 q256 hbel1 hb1
  have e0 : W3.cell? ⟨b, o, none⟩ = some (.string ⟨#[92]⟩) := (hbel3.cell (p := ⟨b, o, none⟩) hb).trans d0
  have e1 : W3.cell? ⟨b, o + 1, none⟩ = some (.string ⟨#[92, 92]⟩) := (hbel3.cell (p := ⟨b, o + 1, none⟩) hb).trans d1
  obtain ⟨Z3, hZ3, zz34, zz92, zz256, zzno⟩ : ∃ Z3 : Array Value, Z3 = (Z.setIfInBounds 256 (.slice (some ⟨w.heap.size, 0, none⟩) 1 2)).setIfInBounds 34 (.slice (some ⟨w1.heap.size, 0, none⟩) 2 cp1) ∧
      Z3[34]? = some (.slice (some ⟨w1.heap.size, 0, none⟩) 2 cp1) ∧ Z3[92]? = some (.slice none 0 0) ∧ Z3[256]? = some (.slice (some ⟨w.heap.size, 0, none⟩) 1 2) ∧ (∀ i, i < 256 → i ≠ 34 → Z3[i]? = some (.slice none 0 0)) := by
    have hn : ∀ i, i < 256 → i ≠ 34 → ((Z.setIfInBounds 256 (.slice (some ⟨w.heap.size, 0, none⟩) 1 2)).setIfInBounds 34 (.slice (some ⟨w1.heap.size, 0, none⟩) 2 cp1))[i]? = some (.slice none 0 0) := fun i hi hne => by
      rw [Array.getElem?_setIfInBounds_ne (by omega), Array.getElem?_setIfInBounds_ne (by omega)]
      exact ZNO.out i hi
    refine ⟨_, rfl, ?_, hn 92 (by omega) (by omega), ?_, hn⟩
    · rw [Array.getElem?_setIfInBounds_self]
      have := (Array.getElem?_eq_some_iff.1 z34).1
      simpa using this
    · rw [Array.getElem?_setIfInBounds_ne (by omega), Array.getElem?_setIfInBounds_self]
      have := (Array.getElem?_eq_some_iff.1 z256).1
      simpa using this
  rw [← hZ3] at hb3
  have ZN3 := Lib.hid zzno
  clear hZ3 zzno z34' z92' z34 z92 z256 ZNO
  have q92 : W3.cell? ⟨w.heap.size + 1, 92, none⟩ = some (.slice none 0 0) := (hb3.cell 92).trans zz92
  have q256 : W3.cell? ⟨w.heap.size + 1, 256, none⟩ = some (.slice (some ⟨w.heap.size, 0, none⟩) 1 2) := (hb3.cell 256).trans zz256
  have f3 := hb3.frozen
  have HD0 := Lib.hid hd0
  have HD1 := Lib.hid hd1
  clear hd0 hd1
  rw [rounds_succ]
  go_wp2_with (at_builtin; refine wpList_append_fits _ rfl (.tmp 119) (.tmp 123) 46 rfl w.heap.size 9 i0 1 Tryz.underlying46 hi hz1 w.heap.size 1 2 [.string ⟨#[34]⟩] rfl ((hown3.alloc _).alloc _) ⟨W3.heap.size + 1, 0, none⟩ 1 1 [.string ⟨#[92]⟩] rfl rfl (new_one (W3.alloc _) _ _ _ (by simp)) (by simp [Value.oneCell']) (by omega) ?_)
  intro w4 hown4 hgrow4
  have hlt3 := hb3.lt
  have hb4 : Blk w4 (w.heap.size + 1) 212 Z3 := ((hb3.alloc _).alloc _).grown hgrow4 (by simp)
  have hbel4 : Below w.heap.size w w4 := (((hbel3.alloc (by omega) _).alloc (by simp; omega) _)).grown hgrow4 (by simp; omega) (by rintro k ⟨⟩; omega)
  have hd0 : w4.cell? ⟨w1.heap.size, 0, none⟩ = some (.int .u8 92) := hgrow4.cell ((World.cell?_alloc_lt _ _ _ (by simp; omega)).trans ((World.cell?_alloc_lt _ _ _ (by simp; omega)).trans HD0.out)) (by simp; omega)
  have hd1 : w4.cell? ⟨w1.heap.size, 1, none⟩ = some (.int .u8 34) := hgrow4.cell ((World.cell?_alloc_lt _ _ _ (by simp; omega)).trans ((World.cell?_alloc_lt _ _ _ (by simp; omega)).trans HD1.out)) (by simp; omega)
  clear hgrow4 hown3 hb3 hbel3 q92 q256 f3 e0 e1 HD0 HD1
  obtain ⟨cp2, w5, hr2, hcl2, hbl2⟩ := bytes_conv (P := Tryz.prog) (w4.setCell ⟨w.heap.size + 1, 256, none⟩ (.slice (some ⟨w.heap.size, 0, none⟩) 2 2)) 9 104 5 ⟨#[92, 92]⟩ Tryz.underlying9 Tryz.underlying104 Tryz.underlying5
  have hr2' : (convert 9 104 (.string ⟨#[92, 92]⟩)).run Tryz.prog (w4.setCell ⟨w.heap.size + 1, 256, none⟩ (.slice (some ⟨w.heap.size, 0, none⟩) 2 2)) = .ok (.slice (some ⟨w4.heap.size, 0, none⟩) 2 cp2) w5 := by
    have := hr2
    simp only [World.size_setCell] at this
    exact this
  clear hr2
  have q256 : w4.cell? ⟨w.heap.size + 1, 256, none⟩ = some (.slice (some ⟨w.heap.size, 0, none⟩) 1 2) := (hb4.cell 256).trans zz256
  have f4 := hb4.frozen
  have hb5 : Blk w5 (w.heap.size + 1) 212 (Z3.setIfInBounds 256 (.slice (some ⟨w.heap.size, 0, none⟩) 2 2)) := (hb4.set 256 _).below hbl2 (hb4.set 256 _).lt
  have p92 : w5.cell? ⟨w.heap.size + 1, 92, none⟩ = some (.slice none 0 0) := (hb5.cell 92).trans (by rw [Array.getElem?_setIfInBounds_ne (by omega)]; exact zz92)
  have f5 := hb5.frozen
  have hlt4 := hb4.lt
  have hbel5 : Below w.heap.size w w5 := (hbel4.setCell (p := ⟨w.heap.size + 1, 256, none⟩) (by simp) _).trans (hbl2.mono (by rw [World.size_setCell]; omega))
  have hk0 : w5.cell? ⟨w4.heap.size, 0, none⟩ = some (.int .u8 92) := by
    have := hcl2 0 (by decide)
    rw [World.size_setCell] at this
    exact this
  have hk1 : w5.cell? ⟨w4.heap.size, 1, none⟩ = some (.int .u8 92) := by
    have := hcl2 1 (by decide)
    rw [World.size_setCell] at this
    exact this
  have hl4 : w1.heap.size < w4.heap.size := World.block_lt_of_cell? _ _ hd0
  have hf : ∀ g i, g < w4.heap.size → g ≠ w.heap.size + 1 → w5.cell? ⟨g, i, none⟩ = w4.cell? ⟨g, i, none⟩ := fun g i hg hne =>
    (hbl2.cell (p := ⟨g, i, none⟩) (by rw [World.size_setCell]; exact hg)).trans (World.cell?_setCell_other w4 ⟨w.heap.size + 1, 256, none⟩ ⟨g, i, none⟩ _ (by simp))
  have hr4 := hown4.cells (g := w.heap.size) rfl
  have hg0 : w4.cell? ⟨w.heap.size, 0, none⟩ = some (.string ⟨#[34]⟩) := by have := hr4 0 _ rfl; rwa [add_none] at this
  have hg1 : w4.cell? ⟨w.heap.size, 1, none⟩ = some (.string ⟨#[92]⟩) := by have := hr4 1 _ rfl; rwa [add_none] at this
  have hs5 : w4.heap.size < w5.heap.size := World.block_lt_of_cell? _ _ hk0
  have fin : RepTab (w5.setCell ⟨w.heap.size + 1, 92, none⟩ (.slice (some ⟨w4.heap.size, 0, none⟩) 2 cp2)) w.heap.size w5.heap.size (w.heap.size + 1) := by
    have hb6 := hb5.set 92 (.slice (some ⟨w4.heap.size, 0, none⟩) 2 cp2)
    have hs : ∀ g i, g ≠ w.heap.size + 1 → (w5.setCell ⟨w.heap.size + 1, 92, none⟩ (.slice (some ⟨w4.heap.size, 0, none⟩) 2 cp2)).cell? ⟨g, i, none⟩ = w5.cell? ⟨g, i, none⟩ := fun g i hne => World.cell?_setCell_other w5 _ _ _ (by simp)
    have n92 := (Array.getElem?_eq_some_iff.1 zz92).1
    have n256 := (Array.getElem?_eq_some_iff.1 zz256).1
    refine ⟨by omega, by omega, by rw [World.size_setCell]; exact Nat.le_refl _, fun i hi n1 n2 => ?_, ⟨w1.heap.size, cp1, ?_, by omega, ?_, ?_⟩, ⟨w4.heap.size, cp2, ?_, by omega, ?_, ?_⟩, ⟨w.heap.size, ?_, by omega, ?_, ?_⟩⟩
    · rw [hb6.cell, Array.getElem?_setIfInBounds_ne (by omega), Array.getElem?_setIfInBounds_ne (by omega)]; exact ZN3.out i hi n1
    · rw [hb6.cell, Array.getElem?_setIfInBounds_ne (by omega), Array.getElem?_setIfInBounds_ne (by omega)]; exact zz34
    · rw [hs _ _ (by omega), hf _ _ (by omega) (by omega)]; exact hd0
    · rw [hs _ _ (by omega), hf _ _ (by omega) (by omega)]; exact hd1
    · rw [hb6.cell, Array.getElem?_setIfInBounds_self]; simp [n92]
    · rw [hs _ _ (by omega)]; exact hk0
    · rw [hs _ _ (by omega)]; exact hk1
    · rw [hb6.cell, Array.getElem?_setIfInBounds_ne (by omega), Array.getElem?_setIfInBounds_self]; simp [n256]
    · rw [hs _ _ (by omega), hf _ _ (by omega) (by omega)]; exact hg0
    · rw [hs _ _ (by omega), hf _ _ (by omega) (by omega)]; exact hg1
  have FIN := Lib.hid fin
  have HB5 := Lib.hid hbel5
  clear fin hf hr4 hg0 hg1 hd0 hd1 hk0 hk1 hcl2 hbl2 hown4 hbel4 hbel5 hs hc hr
  go_wp2_with fail
  rw [rounds_succ]
  go_wp2_with fail
  go_ret
  refine ⟨_, rfl, ?_, HB5.out.setCell (by simp) _⟩
  have := FIN.out
  rw [World.size_setCell]
  exact this
end Go.Proofs.YtbommoefpekalaaGreatDoor
