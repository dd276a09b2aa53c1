/-
  A REGION THAT DRAWS ITS ORDER, walked in the order of the text: reads of cells that one condition S on the world gives; calls that keep S and that come up alone.
  A REGION THAT DRAWS ITS ORDER, walked in the order of the text: an append to a row of the call's own that comes up alone.
-/
import Derived.Deep.RegionHeld3
import Derived.KernelRfl
import Derived.Maps.AppendAt
import Derived.Laws.OwnMore
import Derived.Laws.AppendOwnNone
namespace Go.Proofs.YtnhcjpmamgdeoaaGreatDoor

section
variable {P : Program} {ops : Array Oper} {Q : Exit → Act → World → Prop} {S : World → Prop}

/-- The first k have come up. -/
def pre (n k : Nat) : Array Bool := (List.replicate k true ++ List.replicate (n - k) false).toArray
theorem pre_size {n k : Nat} (h : k ≤ n) : (pre n k).size = n := by simp [pre]; omega
theorem pre_get {n k : Nat} (h : k ≤ n) (i : Nat) (hi : i < n) : (pre n k)[i]'(by rw [pre_size h]; exact hi) = decide (i < k) := by
  simp only [pre, List.getElem_toArray]
  by_cases hik : i < k
  · rw [List.getElem_append_left (by simpa using hik)]; simp [hik]
  · rw [List.getElem_append_right (by simpa using hik)]; simp [hik]
theorem pre_set {n k : Nat} (h : k < n) : (pre n k).setIfInBounds k true = pre n (k + 1) := by
  apply Array.ext
  · rw [Array.size_setIfInBounds, pre_size (by omega), pre_size (by omega)]
  · intro i h1 h2
    rw [pre_size (by omega)] at h2
    rw [Array.getElem_setIfInBounds, pre_get (by omega) i h2, pre_get (by omega) i h2]
    · by_cases hik : k = i
      · subst hik; simp
      · simp [hik]; omega
    · rw [pre_size (by omega)]; exact h2
theorem pre_zero (n : Nat) : Array.replicate n false = pre n 0 := by simp [pre]

/-- What is asked of the region's order alone. -/
def heldOk (ops : Array Oper) (fl : List Bool) : Bool :=
  Region.noSelect ops && (Region.ready .any ops (pre ops.size ops.size)).isEmpty && fl.length == ops.size &&
  (List.range ops.size).all fun k => match fl[k]? with
    | some true => Region.ready .any ops (pre ops.size k) == [k]
    | _ => Region.free .any ops (pre ops.size k) k && (Region.ready .any ops (pre ops.size k)).contains k

/-- The region, in the order of the text; at a mark 'true': an operation that comes up alone. -/
def wpHd (P : Program) (ops : Array Oper) (Q : Exit → Act → World → Prop) (S : World → Prop) : List (Oper × Bool) → Act → World → Prop
  | [], a, w => Q .normal a w
  | (o, false) :: rest, a, w => ∃ v, YieldsIf P ops S o v a ∧ wpHd P ops Q S rest (a.put o.dst v) w
  | (o, true) :: rest, a, w => ∀ K : Act → World → Prop, (∀ a w, S w → wpHd P ops Q S rest a w → K a w) → if Region.wanted o (yielded ops a.tmps) = true then Oper.wp P o a w K Q else K (a.put o.dst undef) w

theorem hd_nil {a : Act} {w : World} (h : Q .normal a w) : wpHd P ops Q S [] a w := h
theorem hd_take {o : Oper} {v : Value} {rest : List (Oper × Bool)} {a : Act} {w : World} (hw : Region.wanted o (yielded ops a.tmps) = true)
    (hy : ∀ w, S w → (execOp a.eval o).run P w = .ok (.value v) w) (h : wpHd P ops Q S rest (a.put o.dst v) w) : wpHd P ops Q S ((o, false) :: rest) a w :=
  ⟨v, .inl ⟨hw, hy⟩, h⟩
theorem hd_skip {o : Oper} {rest : List (Oper × Bool)} {a : Act} {w : World} (hw : Region.wanted o (yielded ops a.tmps) = false)
    (h : wpHd P ops Q S rest (a.put o.dst undef) w) : wpHd P ops Q S ((o, false) :: rest) a w := ⟨undef, .inr ⟨hw, rfl⟩, h⟩
theorem hd_call {o : Oper} {rest : List (Oper × Bool)} {a : Act} {w : World}
    (h : ∀ K : Act → World → Prop, (∀ a w, S w → wpHd P ops Q S rest a w → K a w) → if Region.wanted o (yielded ops a.tmps) = true then Oper.wp P o a w K Q else K (a.put o.dst undef) w) :
    wpHd P ops Q S ((o, true) :: rest) a w := h
theorem hd_pass {o : Oper} {rest : List (Oper × Bool)} {a : Act} {w : World} (hS : S w) (hw : Region.wanted o (yielded ops a.tmps) = false)
    (h : wpHd P ops Q S rest (a.put o.dst undef) w) : wpHd P ops Q S ((o, true) :: rest) a w := fun K hK => by
  rw [if_neg (by simp [hw])]; exact hK _ _ hS h

theorem any_of_hd {l : List Oper} {fl : List Bool} (hok : heldOk l.toArray fl = true) (hQ : ∀ c (d : Tmp) v a w, Q (.panic c) (Act.put a (some d) v) w → Q (.panic c) a w) :
    ∀ (m k : Nat) (a : Act) (w : World), k + m = l.length → S w → wpHd P l.toArray Q S ((l.zip fl).drop k) a w → wpAnyH P .any l.toArray Q S m (pre l.length k) a w := by
  have hok' := hok
  unfold heldOk at hok'
  simp only [Bool.and_eq_true, List.all_eq_true, List.mem_range, List.size_toArray, beq_iff_eq, List.isEmpty_iff] at hok'
  obtain ⟨⟨⟨hsel, hend⟩, hlen⟩, hall⟩ := hok'
  intro m
  induction m with
  | zero =>
    intro k a w hk _ h
    obtain rfl : k = l.length := by omega
    rw [List.drop_eq_nil_of_le (by rw [List.length_zip]; omega)] at h
    exact ⟨hend, h⟩
  | succ m ih =>
    intro k a w hk hS h
    have hkl : k < l.length := by omega
    have hkf : k < fl.length := by omega
    rw [List.drop_eq_getElem_cons (by simp; omega)] at h
    simp only [List.getElem_zip] at h
    have hi : l.toArray[k]? = some l[k] := by simp [hkl]
    have hc := hall k hkl
    rw [List.getElem?_eq_getElem hkf] at hc
    cases hf : fl[k] with
    | false =>
      rw [hf] at h hc
      obtain ⟨v, hy, hr⟩ := h
      simp only [Bool.and_eq_true] at hc
      exact wpAnyH_take hi hsel hc.1 hc.2 (fun c a w q => by
        cases hd : l[k].dst with
        | none => rw [hd] at q; exact q
        | some d => rw [hd] at q; exact hQ c _ _ a w q) hy hS (by rw [pre_set hkl]; exact ih (k + 1) _ w (by omega) hS hr)
    | true =>
      rw [hf] at h hc
      have hc : Region.ready .any l.toArray (pre l.length k) = [k] := by simpa using hc
      refine wpAnyH_ready hc (by simp) (AllReadyH.cons hi (fun K' hK => h K' (fun a' w' hS' hr => hK.out a' w' hS' (fun _ => ?_))) AllReadyH.nil)
      rw [pre_set hkl]
      exact ih (k + 1) a' w' (by omega) hS' hr

theorem wp_region_hd {l : List Oper} (fl : List Bool) {id : Nat} {a : Act} {w : World} (hm : P.follows .mixedOrders = true) (hok : heldOk l.toArray fl = true)
    (hQ : ∀ c (d : Tmp) v a w, Q (.panic c) (Act.put a (some d) v) w → Q (.panic c) a w) (hS : S w.drew) (h : S w.drew → wpHd P l.toArray Q S (l.zip fl) a w.drew) : (Code.region id l.toArray true).wp P Q a w :=
  wp_region_held_drew (S := S) hm hS (fun _ => by
    rw [List.size_toArray, pre_zero]
    exact any_of_hd hok hQ l.length 0 a w.drew (by omega) hS (by simpa using h hS))
end
end Go.Proofs.YtnhcjpmamgdeoaaGreatDoor
namespace Go.Proofs.YtnhcjpmamgdeoaaGreatDoor

section
variable {P : Program} {ops : Array Oper} {Q : Exit → Act → World → Prop} {S : World → Prop}
theorem hd_append_own_at {o : Oper} {rest : List (Oper × Bool)} {a : Act} {w : World} (hw : Region.wanted o (yielded ops a.tmps) = true) (s x : Operand) (t : TypeId)
    (ho : o.op = .call { callee := .builtin .append, args := #[s, x], argTypes := #[t, t] })
    (base : Nat) (e : TypeId) (i : TypeInfo) (z : Value) (size bytes : Nat) (ht : P.underlying t = some (.slice e)) (hi : P.info? e = some i) (hz : i.zero = some z)
    (hsize : i.size = size) (hby : i.bytes = bytes) (hzs : z.cells.size = size) (hsz : 0 < size)
    (v : Value) (n : Nat) (xs : List Value) (hs : a.eval s = v) (hown : w.ownsRow base e size v n xs)
    (ad : Addr) (m c : Nat) (news : List Value) (hx : a.eval x = .slice (some ad) m c) (hl : news.length = m * size) (hnews : ∀ j u, news[j]? = some u → w.cell? (ad.add j) = some u) (h1 : ∀ u ∈ news, u.oneCell' = true)
    (h63 : n + m ≤ maxLen) (hbytes : (n + m) * bytes ≤ 140737488355328) (hbase : base ≤ w.heap.size)
    (h : ∀ v' w', w'.ownsRow base e size v' (n + m) (xs ++ news) → w.grownBy w' v.ownBlock → (v' = .slice none 0 0 ↔ v = .slice none 0 0 ∧ m = 0) → (v'.ownBlock = v.ownBlock ∨ v'.ownBlock = some w.heap.size) → S w' ∧ wpHd P ops Q S rest (a.put o.dst v') w') :
    wpHd P ops Q S ((o, true) :: rest) a w := by
  refine hd_call (fun K hK => ?_)
  rw [if_pos hw]
  obtain ⟨v', w', hr, h2, h3, h4, h5⟩ := run_append_own_at (P := P) w base t o.type e i z size bytes ht hi hz hsize hby hzs hsz v n xs hown ad m c news hl hnews h1 h63 hbytes hbase
  unfold Oper.wp execOp
  simp only [ho, resolve, invoke, builtin, Sem.run_bind, Sem.run_pure, Result.andThen_ok, List.map_toArray, List.map_cons, List.map_nil, hs, hx, hr]
  exact hK _ _ (h v' w' h2 h3 h4 h5).1 (h v' w' h2 h3 h4 h5).2
end
/-- Nothing is appended. -/
theorem run_append_zero {P : Program} {w : World} (base : Nat) (t ty e : TypeId) (i : TypeInfo) (size : Nat) (ht : P.underlying t = some (.slice e)) (hi : P.info? e = some i)
    (v : Value) (n : Nat) (xs : List Value) (hown : w.ownsRow base e size v n xs) (c : Nat) :
    (Builtin.append_ #[t, t] ty #[v, .slice none 0 c]).run P w = .ok v w := by
  rcases hown.2 with ⟨rfl, rfl⟩ | ⟨g, cap, cur, rfl, _, _, hnc, _⟩
  · simp [Builtin.append_, run_underlying ht, sizeOf, typeInfo, hi, Builtin.lenOf, Builtin.firstCells]
  · simp [Builtin.append_, run_underlying ht, sizeOf, typeInfo, hi, Builtin.lenOf, Builtin.firstCells, hnc, storeCells]
theorem wpList_append_zero {P : Program} {w : World} {ops : Array Oper} {rest : List Oper} {o : Oper} {a : Act} {Q : Exit → Act → World → Prop} (hgd : o.guard = none) (s x : Operand) (t : TypeId)
    (ho : o.op = .call { callee := .builtin .append, args := #[s, x], argTypes := #[t, t] })
    (base : Nat) (e : TypeId) (i : TypeInfo) (size : Nat) (ht : P.underlying t = some (.slice e)) (hi : P.info? e = some i)
    (v : Value) (n : Nat) (xs : List Value) (hs : a.eval s = v) (hown : w.ownsRow base e size v n xs) (c : Nat) (hx : a.eval x = .slice none 0 c)
    (h : wpList P ops Q rest (a.put o.dst v) w) : wpList P ops Q (o :: rest) a w := by
  refine wpList_plain hgd fun K hK => ?_
  have hrun := run_append_zero (P := P) (w := w) base t o.type e i size ht hi v n xs hown c
  unfold Oper.wp
  simp [execOp, ho, resolve, invoke, builtin, hs, hx, hrun, Result.andThen]
  exact hK _ _ h
end Go.Proofs.YtnhcjpmamgdeoaaGreatDoor
