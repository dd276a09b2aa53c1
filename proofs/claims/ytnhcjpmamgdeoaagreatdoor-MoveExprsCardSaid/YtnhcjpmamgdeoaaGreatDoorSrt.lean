/-
  SORTED BY A FUNCTION: a row of a call's own that slices.SortFunc has sorted.
-/
import Derived.Test.YtnhcjpmamgdeoaaGreatDoorOff
import Derived.Test.YtnhcjpmamgdeoaaGreatDoorVxM
import Derived.Sort.OwnSorted
import Derived.Shelf.SlSortCmp.Whole1
import Derived.Shelf.SlSortCmp.NoneTotal
namespace Go.Proofs.YtnhcjpmamgdeoaaGreatDoor
open Go.RowKit Go.Sort

section
variable {α : Type} [Inhabited α] {enc : α → Value}
theorem holds_blockG {w : World} {g : Nat} {cur : Array Value} {e : TypeId} {ss : List α} (hb : w.heap[g]? = some (.cells cur e (0, 0))) (ht : cur.toList.take ss.length = ss.map enc) : Holds enc w g 0 ss.toArray := by
  intro j hj
  have hj' : j < ss.length := by simpa using hj
  refine ⟨?_, by simp [World.frozen?, hb]⟩
  have h1 : (cur.toList.take ss.length)[j]? = (ss.map enc)[j]? := by rw [ht]
  rw [List.getElem?_take_of_lt hj'] at h1
  simp only [World.cell?, hb, Nat.zero_add]
  simp only [Option.isSome_none, Bool.false_eq_true, if_false]
  rw [← Array.getElem?_toList, h1]
  simp [hj']
theorem heap_sortedG {w : World} {g n : Nat} {os : Array Obj} {cur : Array Value} {e : TypeId} {fr : Nat × Nat} (d : Array α) (hb : w.heap[g]? = some (.cells cur e fr)) :
    (sortWorld enc w g 0 n d os).heap[g]? = some (.cells (putCells enc 0 d cur) e fr) := by
  have hg : g < w.heap.size := (Array.getElem?_eq_some_iff.1 hb).1
  unfold sortWorld
  rw [heap_grow_old _ _ (by simpa using hg)]
  simp [putRow, mapBlock, Sort.ahead, Array.getElem?_modify, hb, onCells]
theorem grownBy_sortedG {w : World} {g n : Nat} {os : Array Obj} (d : Array α) : w.grownBy (sortWorld enc w g 0 n d os) (some g) := by
  refine ⟨rfl, rfl, rfl, by simp [sortWorld], fun k hk hne => ?_⟩
  unfold sortWorld
  rw [heap_grow_old _ _ (by simpa using hk)]
  have : g ≠ k := fun e => hne (by rw [e])
  simp [putRow, mapBlock, Sort.ahead, Array.getElem?_modify, this]
theorem take_putCellsG (cur : Array Value) (ts : List α) (h : ts.length ≤ cur.size) : (putCells enc 0 ts.toArray cur).toList.take ts.length = ts.map enc := by
  apply List.ext_getElem?
  intro j
  by_cases hj : j < ts.length
  · rw [List.getElem?_take_of_lt hj, Array.getElem?_toList]
    simp [putCells, hj, show j < cur.size by omega]
  · rw [List.getElem?_take_eq_none (by omega), List.getElem?_eq_none (by simp; omega)]
theorem ownsRow_sortedG {w : World} {base g cap n : Nat} {e : TypeId} {os : Array Obj} {cur : Array Value} {ts : List α} {m : Nat} (hl : ts.length = m) (hbase : base ≤ g) (hb : w.heap[g]? = some (.cells cur e (0, 0)))
    (h1 : m ≤ cap) (h2 : cap ≤ maxLen) (h3 : cur.size = cap * 1) :
    (sortWorld enc w g 0 n ts.toArray os).ownsRow base e 1 (.slice (some ⟨g, 0, none⟩) m cap) m (ts.map enc) :=
  ⟨by simp [hl], .inr ⟨g, cap, _, rfl, hbase, heap_sortedG _ hb, h1, h2, by simp [putCells, h3], by rw [Nat.mul_one, ← hl]; exact take_putCellsG cur ts (by omega)⟩⟩
end

def encN (x : NsM) : Value := .slice x.A x.e.length x.c
theorem flat_encN (xs : List NsM) : flatG NsM.cells xs = xs.map encN := by
  induction xs with
  | nil => rfl
  | cons x r ih => show NsM.cells x ++ flatG NsM.cells r = _; rw [ih]; rfl
theorem lift_sub {α : Type} {P : α → Prop} : ∀ (xs : List α), (∀ x ∈ xs, P x) → ∃ L : List {x : α // P x}, L.map Subtype.val = xs
  | [], _ => ⟨[], rfl⟩
  | x :: xs, h => by
    obtain ⟨L, hL⟩ := lift_sub xs fun y hy => h y (by simp [hy])
    exact ⟨⟨x, h x (by simp)⟩ :: L, by simp [hL]⟩
/-- A row of lists of nodes, sorted by a function of them: any closure that compares so. -/
theorem sort_lists {sf cf : Nat} {ρ : Shelf.Ren} (L : SlLaysF.n6 Tryz.prog ρ) (hsf : ρ.f 6 = sf) (eg : ∀ args w, (callFunc cf args).run Tryz.prog w = .ok (.enter cf args) w) (cmp : List Nd → List Nd → Int)
    {w : World} {base : Nat} {v : Value} {ms : List NsM} (h : w.ownsRow base 24 1 v ms.length (flatG NsM.cells ms)) (hl : ms.length < 4611686018427387904) (Q : NsM → Prop) (hQ : ∀ y ∈ ms, Q y) (hof : ∀ y ∈ ms, NsOff w v.ownBlock y)
    (hO : SWO (ltOf fun x y : {x : NsM // Q x} => cmp x.1.e y.1.e))
    (hcmp : ∀ (x y : NsM) (W : World), Q x → Q y → NsGood W W.heap.size x → NsGood W W.heap.size y → Calls Tryz.prog cf #[.slice x.A x.e.length x.c, .slice y.A y.e.length y.c] W fun r w' => r = .returned (.int .i64 (cmp x.e y.e)) ∧ ∃ q os', w' = grow (W.drewN q) os') :
    Calls Tryz.prog sf #[v, .func (.func cf) #[] #[]] w fun r w' => r = .returned (.tuple #[]) ∧ ∃ ds : List NsM, ds.Perm ms ∧ (∀ (i j : Nat) (a b : NsM), ds[i]? = some a → ds[j]? = some b → i < j → ¬ cmp b.e a.e < 0) ∧
      w'.ownsRow base 24 1 v ms.length (flatG NsM.cells ds) ∧ (∀ y ∈ ds, NsOff w' v.ownBlock y) ∧ w.grownBy w' v.ownBlock := by
  subst hsf
  rcases h.2 with ⟨hv, h0⟩ | ⟨g, cap, cur, hv, hbase, hb, h1, h2, h3, h4⟩
  · subst hv
    refine (AnyF.slices_SortFunc_none { L with } none 0 _ w).mono ?_
    rintro r w' ⟨rfl, rfl⟩
    obtain rfl : ms = [] := List.eq_nil_of_length_eq_zero h0
    exact ⟨rfl, [], .refl _, by simp, World.ownsRow_nil _ base 24 1, by simp, World.grownBy.refl _ _⟩
  · subst hv
    have hg : g < w.heap.size := (Array.getElem?_eq_some_iff.1 hb).1
    cases hms : ms with
    | nil =>
      subst hms
      refine (AnyF.slices_SortFunc_none { L with } (some ⟨g, 0, none⟩) cap _ w).mono ?_
      rintro r w' ⟨rfl, rfl⟩
      exact ⟨rfl, [], .refl _, by simp, h, by simp, World.grownBy.refl _ _⟩
    | cons m0 mr =>
      rw [← hms]
      have hm0 : m0 ∈ ms := by rw [hms]; simp
      obtain ⟨Lx, hLx⟩ := lift_sub (P := fun x => Q x ∧ NsOff w (some g) x) ms (fun y hy => ⟨hQ y hy, hof y hy⟩)
      haveI : Inhabited {x : NsM // Q x ∧ NsOff w (some g) x} := ⟨⟨m0, hQ _ hm0, hof _ hm0⟩⟩
      obtain ⟨enc, henc⟩ : ∃ enc : {x : NsM // Q x ∧ NsOff w (some g) x} → Value, enc = fun x => encN x.1 := ⟨_, rfl⟩
      have hlen : Lx.length = ms.length := by rw [← hLx, List.length_map]
      have hmap : Lx.map enc = flatG NsM.cells ms := by rw [flat_encN, ← hLx, List.map_map, henc]; rfl
      have hH : Holds enc w g 0 Lx.toArray := holds_blockG hb (by rw [hmap, hlen]; simpa using h4)
      have hO' : SWO (ltOf fun x y : {x : NsM // Q x ∧ NsOff w (some g) x} => cmp x.1.e y.1.e) :=
        ⟨fun x => hO.irrefl ⟨x.1, x.2.1⟩, fun x y z => hO.trans ⟨x.1, x.2.1⟩ ⟨y.1, y.2.1⟩ ⟨z.1, z.2.1⟩, fun x y z => hO.ntrans ⟨x.1, x.2.1⟩ ⟨y.1, y.2.1⟩ ⟨z.1, z.2.1⟩⟩
      have hC : CmpLays1 Tryz.prog cf #[] enc (fun x y => cmp x.1.e y.1.e) g 0 Lx.toArray.size w := by
        intro m os dk hs x y
        rw [henc]
        have hgr : w.grownBy (sortWorld enc w g 0 m dk os) (some g) := grownBy_sortedG dk
        have gx := (x.2.2.grown hgr (.inl rfl)).good
        have gy := (y.2.2.grown hgr (.inl rfl)).good
        rw [henc] at gx gy
        exact hcmp x.1 y.1 _ x.2.1 y.2.1 gx gy
      have hcon := Any.slices_SortFunc L enc (fun x => by rw [henc]; rfl) (fun x y => cmp x.1.e y.1.e) hO' cf #[] g 0 cap Lx.toArray w eg hC hH hg (by simpa [hlen] using hl)
      rw [List.size_toArray, hlen] at hcon
      refine hcon.mono ?_
      rintro r w' ⟨rfl, d', n, os, hp, hs, rfl⟩
      have hd : d'.size = ms.length := by rw [hp.1]; simpa using hlen
      have hperm : d'.toList.Perm Lx := by
        have := hp.2.2
        rw [show d'.extract 0 ms.length = d' from by rw [← hd]; simp, show Lx.toArray.extract 0 ms.length = Lx.toArray from by rw [← hlen]; simp] at this
        simpa using this
      refine ⟨rfl, d'.toList.map Subtype.val, (hperm.map _).trans (by rw [hLx]), ?_, ?_, ?_, grownBy_sortedG d'⟩
      · intro i j a b ha hb' hij
        rw [List.getElem?_map] at ha hb'
        obtain ⟨a', ha1, rfl⟩ := Option.map_eq_some_iff.1 ha
        obtain ⟨b', hb1, rfl⟩ := Option.map_eq_some_iff.1 hb'
        obtain ⟨ki, ei⟩ := List.getElem?_eq_some_iff.1 ha1
        obtain ⟨kj, ej⟩ := List.getElem?_eq_some_iff.1 hb1
        simp only [Array.length_toList] at ki kj
        have := hs i j (Nat.zero_le _) hij (by omega)
        rw [getElem!_pos d' i ki, getElem!_pos d' j kj] at this
        simp only [Array.getElem_toList] at ei ej
        rw [ei, ej] at this
        unfold ltOf at this
        simpa using this
      · have := ownsRow_sortedG (enc := enc) (n := n) (os := os) (ts := d'.toList) (m := ms.length) (by simpa using hd) hbase hb h1 h2 h3
        rw [flat_encN, List.map_map]
        rw [henc] at this ⊢
        simpa using this
      · intro y hy
        obtain ⟨y', _, rfl⟩ := List.mem_map.1 hy
        exact y'.2.2.grown (grownBy_sortedG d') (.inl rfl)
end Go.Proofs.YtnhcjpmamgdeoaaGreatDoor
