/-
 UIDS AS A MAP's KEYS.
 ENTITIES IN MEMORY: their headers, and what these lead to.
 PLAIN LAWS: those above one in a store.
 MAPS KEYED BY UIDS: those that were met; a store by uid.
 THE WALKS: comparing two uids; slices.Index and Contains of uids.
 PLAIN LAWS: values are never empty, and their strings are short.
 THE WALKS: ent.Check$1, slices.IndexFunc and ContainsFunc over entities; ent.one.
 THE WALKS: ent.one.
 THE WALKS: ent.stored, (ent.store).above.
 THE WALKS: ent.Check.
 LISTS OF NODES IN MEMORY: in none of some blocks; lists of such lists.
 THE WALKS: slices.Equal of nodes; comparing nodes.
 THE WALKS: slices.Clone of nodes, and of conditions.
-/
import Derived.Test.YtpheiojmcafolaaGreatDoorSy01
import Derived.Test.YtpheiojmcafolaaGreatDoorSy08
import Derived.DeepKeys5
import Derived.Maps.OwnSet
import Derived.Maps.Views
import Derived.Maps.OwnOps
import Derived.Maps.RangeWalk
import Derived.Laws.StructEq
import Derived.Test.YtpheiojmcafolaaGreatDoorSy06
import Derived.Lib.SliceRun
import Derived.Laws.OwnMore
import Derived.LoopN
namespace Go.Proofs.YtpheiojmcafolaaGreatDoor
set_option maxRecDepth 100000
open Go.RowKit Go.Sort Go.Maps
def udC (u : Ud) : List Value := [.string u.ty, .string u.id]
theorem udC_ok : EncOk udC 2 := ⟨fun _ => rfl, by omega, fun x u hu => by
 simp only [udC, List.mem_cons, List.not_mem_nil, or_false] at hu;rcases hu with rfl | rfl <;> rfl⟩
abbrev UdSl := SlG udC 2
def udV (u : Ud) : Value := .agg #[.string u.ty, .string u.id]
theorem ud_deep : Tryz.prog.keyType 34 = true := by kernel_rfl
theorem ud_cells : Tryz.prog.cellsOf 34 = 2 := by kernel_rfl
theorem str_cells : Tryz.prog.cellsOf 9 = 1 := by kernel_rfl
theorem ud_wide : (match Tryz.prog.underlying 34 with | some (.array _ _) | some (.struct _) => true | _ => false) = true := by rw [Tryz.underlying34]
theorem ud_laid : laidOutB Tryz.prog = true := by kernel_rfl
theorem ud_size : 1 ≤ Tryz.prog.types.size := of_decide_eq_true (by kernel_rfl)
theorem ud_law : Maps.Keyed Tryz.prog 34 := Maps.Keyed.of_law (deep_law_gate ud_laid (of_decide_eq_true (by kernel_rfl)) (of_decide_eq_true (by kernel_rfl)) ud_deep ud_wide)
structure UdSm (u : Ud) : Prop where
 ty : u.ty.size ≤ maxLen
 id : u.id.size ≤ maxLen
theorem lits_str {P : Program} {d t : Nat} {s : ByteArray} (hu : P.underlying t = some .string) (hl : s.size ≤ maxLen) : P.keyLits (d + 1) t [.string s] = some [.string s.data.toList] := by
 simp [Program.keyLits, hu, hl]
theorem ud_keyed {c : Ud} (h : UdSm c) : ∃ l, keyOf Tryz.prog 34 (udV c) = some l := by
 obtain ⟨m, hm⟩ : ∃ m, Tryz.prog.types.size + 1 = m + 1 + 1 := ⟨Tryz.prog.types.size - 1, by have := ud_size; omega⟩;have f : (udV c).formed Tryz.prog 34 = true := by simp [udV, Value.formed, Tryz.underlying34, ud_cells]
 have e1 := lits_str (P := Tryz.prog) (d := m) (t := 9) Tryz.underlying9 h.ty;have e2 := lits_str (P := Tryz.prog) (d := m) (t := 9) Tryz.underlying9 h.id;unfold keyOf;rw [Tryz.underlying34];simp only [ud_deep, f, Bool.and_self, if_true, hm];unfold Program.keyLits;rw [Tryz.underlying34];simp [ud_cells, str_cells, udV, Value.cells, e1, e2]
noncomputable def udK (c : Ud) : Lit := (keyOf Tryz.prog 34 (udV c)).getD (.bool true)
theorem udK_eq {c : Ud} (h : UdSm c) : keyOf Tryz.prog 34 (udV c) = some (udK c) := by
 obtain ⟨l, hl⟩ := ud_keyed h;unfold udK; rw [hl]; rfl
theorem udK_inj {c d : Ud} (hc : UdSm c) (hd : UdSm d) (e : udK c = udK d) : c = d := by
 have h1 := udK_eq hc;have h2 := udK_eq hd;rw [← e] at h2;have := ud_law.inj h1 h2;cases c; cases d
 simp [udV] at this;obtain ⟨rfl, rfl⟩ := this;rfl
end Go.Proofs.YtpheiojmcafolaaGreatDoor
namespace Go.Proofs.YtpheiojmcafolaaGreatDoor
set_option maxRecDepth 100000
open Go.RowKit
structure Eh where
 u : Ud
 ua : Option Addr
 un : Nat
 uc : Nat
 aa : Option Addr
 an : Nat
 ac : Nat
def ehC (e : Eh) : List Value := [.string e.u.ty, .string e.u.id, .slice e.ua e.un e.uc, .slice e.aa e.an e.ac]
theorem ehC_ok : EncOk ehC 4 := ⟨fun _ => rfl, by omega, fun x u hu => by
 simp only [ehC, List.mem_cons, List.not_mem_nil, or_false] at hu;rcases hu with rfl | rfl | rfl | rfl <;> rfl⟩
abbrev EhSl := SlG ehC 4
structure EhOk (w : World) (B : Nat) (h : Eh) (e : En) : Prop where
 u : h.u = e.u
 un : h.un = e.up.length
 uc : h.un ≤ h.uc ∧ h.uc ≤ 9223372036854775807
 up : UdSl w B h.ua e.up
 an : h.an = e.at_.length
 ac : h.an ≤ h.ac ∧ h.ac ≤ 9223372036854775807
 at_ : NdSl w B h.aa e.at_
theorem EhOk.below {w w' : World} {B : Nat} {h : Eh} {e : En} (k : EhOk w B h e) (hb : Below B w w') : EhOk w' B h e :=
 ⟨k.u, k.un, k.uc, k.up.below hb, k.an, k.ac, k.at_.below hb⟩
theorem EhOk.more {w : World} {B B' : Nat} {h : Eh} {e : En} (k : EhOk w B h e) (hb : B ≤ B') : EhOk w B' h e :=
 ⟨k.u, k.un, k.uc, k.up.more hb, k.an, k.ac, k.at_.more hb⟩
structure Ens (w : World) (B : Nat) (hs : List Eh) (es : List En) : Prop where
 len : hs.length = es.length
 at_ : ∀ (i : Nat) (h : Eh) (e : En), hs[i]? = some h → es[i]? = some e → EhOk w B h e
theorem Ens.below {w w' : World} {B : Nat} {hs : List Eh} {es : List En} (k : Ens w B hs es) (hb : Below B w w') : Ens w' B hs es :=
 ⟨k.len, fun i h e h1 h2 => (k.at_ i h e h1 h2).below hb⟩
theorem Ens.more {w : World} {B B' : Nat} {hs : List Eh} {es : List En} (k : Ens w B hs es) (hb : B ≤ B') : Ens w B' hs es :=
 ⟨k.len, fun i h e h1 h2 => (k.at_ i h e h1 h2).more hb⟩
end Go.Proofs.YtpheiojmcafolaaGreatDoor
namespace Go.Proofs.YtpheiojmcafolaaGreatDoor
def unm (es : List En) (met : List Ud) : Nat := ((es.flatMap En.up).filter fun p => decide (p ∉ met)).length
theorem filter_len_le {α : Type} (p q : α → Bool) : ∀ l : List α, (∀ x ∈ l, p x = true → q x = true) → (l.filter p).length ≤ (l.filter q).length
 | [], _ => by simp
 | x :: l, h => by
  have ih := filter_len_le p q l fun y hy => h y (by simp [hy]);have hx := h x (by simp);cases hp : p x <;> cases hq : q x <;> simp [hp, hq]
  · exact ih
  · omega
  · rw [hp, hq] at hx; exact absurd (hx rfl) (by simp)
  · exact ih
theorem filter_len_lt {α : Type} (p q : α → Bool) : ∀ l : List α, (∀ x ∈ l, p x = true → q x = true) → ∀ x ∈ l, p x = false → q x = true → (l.filter p).length < (l.filter q).length
 | y :: l, h, x, hx, hp, hq => by
  have h' := fun z (hz : z ∈ l) => h z (by simp [hz]);rcases List.mem_cons.1 hx with rfl | hx
  · have := filter_len_le p q l h';simp [hp, hq]; omega
  · have ih := filter_len_lt p q l h' x hx hp hq;have hy := h y (by simp);cases hpy : p y <;> cases hqy : q y <;> simp [hpy, hqy]
    · exact ih
    · omega
    · rw [hpy, hqy] at hy; exact absurd (hy rfl) (by simp)
    · exact ih
theorem unm_le {es : List En} {m m' : List Ud} (h : ∀ x ∈ m, x ∈ m') : unm es m' ≤ unm es m :=
 filter_len_le _ _ _ fun x _ hx => by simp only [decide_eq_true_eq] at hx ⊢; exact fun hm => hx (h x hm)
theorem unm_lt {es : List En} {m : List Ud} {p : Ud} (hp : p ∈ es.flatMap En.up) (hm : p ∉ m) : unm es (m ++ [p]) < unm es m :=
 filter_len_lt _ _ _ (fun x _ hx => by simp only [decide_eq_true_eq, List.mem_append, not_or] at hx ⊢; exact hx.1) p hp (by simp) (by simpa using hm)
theorem upOf_mem {es : List En} {u p : Ud} (h : p ∈ upOf es u) : p ∈ es.flatMap En.up := by
 unfold upOf at h;split at h
 · simp at h
 · rename_i e he;exact List.mem_flatMap.2 ⟨e, List.mem_of_find?_eq_some he, h⟩
theorem unm_small {es : List En} (h16 : es.length ≤ 16) (h6 : ∀ e ∈ es, e.up.length ≤ 6) (m : List Ud) : unm es m ≤ 96 := by
 unfold unm;refine Nat.le_trans (List.length_filter_le _ _) ?_;have : ∀ l : List En, (∀ e ∈ l, e.up.length ≤ 6) → (l.flatMap En.up).length ≤ 6 * l.length := by
  intro l;induction l with
  | nil => simp
  | cons e r ih =>
   intro h;have h1 := h e (by simp);have h2 := ih fun x hx => h x (by simp [hx]);rw [List.flatMap_cons, List.length_append, List.length_cons]; omega
 have := this es h6;omega
def abvF (es : List En) (k : Nat) (m : List Ud) (ps : List Ud) : List Ud := ps.foldl (fun m p => if p ∈ m then m else abv es k p (m ++ [p])) m
theorem abv_succ (es : List En) (k : Nat) (u : Ud) (met : List Ud) : abv es (k + 1) u met = abvF es k met (upOf es u) := rfl
theorem abvF_snoc (es : List En) (k : Nat) (m ps : List Ud) (p : Ud) : abvF es k m (ps ++ [p]) = if p ∈ abvF es k m ps then abvF es k m ps else abv es k p (abvF es k m ps ++ [p]) := by
 unfold abvF;rw [List.foldl_append]; rfl
theorem abv_more (es : List En) : ∀ (k : Nat) (u : Ud) (m : List Ud), ∀ x ∈ m, x ∈ abv es k u m
 | 0, _, _, x, hx => hx
 | k + 1, u, m, x, hx => by
  rw [abv_succ];have : ∀ (ps m : List Ud), x ∈ m → x ∈ abvF es k m ps := by
   intro ps;induction ps with
   | nil => intro m h; exact h
   | cons p r ih =>
    intro m h;show x ∈ abvF es k (if p ∈ m then m else abv es k p (m ++ [p])) r;refine ih _ ?_;split
    · exact h
    · exact abv_more es k p _ x (by simp [h])
  exact this _ _ hx
theorem abvF_more (es : List En) (k : Nat) : ∀ (ps m : List Ud), ∀ x ∈ m, x ∈ abvF es k m ps
 | [], m, x, h => h
 | p :: r, m, x, h => by
  show x ∈ abvF es k (if p ∈ m then m else abv es k p (m ++ [p])) r;refine abvF_more es k r _ x ?_;split
  · exact h
  · exact abv_more es k p _ x (by simp [h])
end Go.Proofs.YtpheiojmcafolaaGreatDoor
namespace Go.Proofs.YtpheiojmcafolaaGreatDoor
set_option maxRecDepth 100000
open Go.RowKit Go.Sort Go.Maps
theorem lits_str_inv {P : Program} {d t : Nat} {v : Value} {ls : List Lit} (hu : P.underlying t = some .string) (h : P.keyLits (d + 1) t [v] = some ls) : ∃ s, v = .string s ∧ s.size ≤ maxLen := by
 unfold Program.keyLits at h;rw [hu] at h;cases v <;> simp at h
 exact ⟨_, rfl, h.1⟩
theorem udV_inv {v : Value} {l : Lit} (h : keyOf Tryz.prog 34 v = some l) : ∃ u, v = udV u ∧ UdSm u ∧ l = udK u := by
 suffices hs : ∃ u, v = udV u ∧ UdSm u by
  obtain ⟨u, rfl, hu⟩ := hs;refine ⟨u, rfl, hu, ?_⟩;have := udK_eq hu;rw [this] at h;injection h with h
  exact h.symm
 obtain ⟨m, hm⟩ : ∃ m, Tryz.prog.types.size + 1 = m + 1 + 1 := ⟨Tryz.prog.types.size - 1, by have := ud_size; omega⟩;unfold keyOf at h;rw [Tryz.underlying34] at h;simp only [ud_deep, Bool.true_and, hm] at h;split at h
 · rename_i hf;cases v with
   | agg cs =>
    have hc : cs.size = 2 := by
     have := hf;unfold Value.formed at this;rw [Tryz.underlying34] at this;simpa [ud_cells] using this
    obtain ⟨c0, c1, rfl⟩ : ∃ c0 c1, cs = #[c0, c1] := by
     obtain ⟨l⟩ := cs;match l, hc with
     | [c0, c1], _ => exact ⟨c0, c1, rfl⟩
    simp only [Option.map_eq_some_iff] at h;obtain ⟨ls, h, -⟩ := h;unfold Program.keyLits at h;rw [Tryz.underlying34] at h;simp [ud_cells, str_cells, Value.cells] at h;cases e0 : Tryz.prog.keyLits (m + 1) 9 [c0] with
    | none => simp [e0] at h
    | some l0 =>
     cases e1 : Tryz.prog.keyLits (m + 1) 9 [c1] with
     | none => simp [e0, e1] at h
     | some l1 =>
      obtain ⟨a, rfl, ha⟩ := lits_str_inv Tryz.underlying9 e0;obtain ⟨b, rfl, hb⟩ := lits_str_inv Tryz.underlying9 e1;exact ⟨⟨a, b⟩, rfl, ha, hb⟩
   | _ => simp [Value.formed, Tryz.underlying34] at hf
 · cases h
def MetOk (met : List Ud) (D : DataW Unit) : Prop := ∀ u, UdSm u → Maps.has D (udK u) = decide (u ∈ met) ∧ (u ∈ met → ∀ z, D.atKey (udK u) z = .lit (.int .i64 1))
theorem metOk_nil : MetOk [] (.map [] : DataW Unit) := fun u _ => ⟨by simp [Maps.has], fun h => by simp at h⟩
theorem metOk_put {met : List Ud} {D : DataW Unit} (h : MetOk met D) (hD : Maps.IsMap D) {u : Ud} (hu : UdSm u) : MetOk (met ++ [u]) (D.put (udK u) (.lit (.int .i64 1))) := by
 intro d hd;by_cases e : d = u
 · subst e;rw [has_put_same hD (ud_law.key (udK_eq hd))];exact ⟨by simp, fun _ z => atKey_put_same hD (ud_law.key (udK_eq hd)) _ _⟩
 · have hk : udK d ≠ udK u := fun hh => e (udK_inj hd hu hh);rw [has_put_other hk];refine ⟨by rw [(h d hd).1]; simp [e], fun hm z => ?_⟩;rcases List.mem_append.1 hm with h' | h'
   · rw [atKey_put_other hk, (h d hd).2 h' z]
   · simp at h'; exact absurd h' e
def MetAt (w : World) (mb : Nat) (met : List Ud) : Prop := ∃ D, w.ownsMap Tryz.prog 34 (plainElem (H := Unit) Tryz.prog 3) mb met.length D ∧ MetOk met D
theorem MetAt.kept {w w' : World} {mb : Nat} {met : List Ud} (h : MetAt w mb met) {row : Option Nat} (hg : w.grownBy w' row) (hne : some mb ≠ row) : MetAt w' mb met := by
 obtain ⟨D, h1, h2⟩ := h;exact ⟨D, h1.kept hg hne, h2⟩
theorem MetAt.lt {w : World} {mb : Nat} {met : List Ud} (h : MetAt w mb met) : mb < w.heap.size := by
 obtain ⟨D, h1, _⟩ := h;exact h1.lt
theorem int_zero' (w : World) : (zeroValue 3).run Tryz.prog w = .ok (.int .i64 0) w := by kernel_rfl
theorem met_look {w : World} {mb : Nat} {met : List Ud} (h : MetAt w mb met) {u : Ud} (hu : UdSm u) :
 (Instr.lookup 118 (.map (some mb)) (.agg #[.string u.ty, .string u.id]) false).run Tryz.prog w = .ok (.int .i64 (if u ∈ met then 1 else 0)) w := by
 obtain ⟨D, h1, h2⟩ := h;obtain ⟨c, hr, hat, _⟩ := h1.lookup_int ud_law Tryz.underlying118 Tryz.underlying3 (int_zero' w) (udK_eq hu);show (Instr.lookup 118 (.map (some mb)) (udV u) false).run Tryz.prog w = _;rw [hr];by_cases hm : u ∈ met
 · rw [(h2 u hu).2 hm] at hat;injection hat with e; injection e with _ e
   rw [if_pos hm, ← e]
 · rw [atKey_of_not_has (by rw [(h2 u hu).1]; simpa using hm)] at hat;injection hat with e; injection e with _ e
   rw [if_neg hm, ← e]
theorem met_put {w : World} {mb : Nat} {met : List Ud} (h : MetAt w mb met) {u : Ud} (hu : UdSm u) (hl : met.length ≤ 1000) :
 ∃ w', (Instr.mapUpdate 118 (.map (some mb)) (.agg #[.string u.ty, .string u.id]) (.int .i64 1)).run Tryz.prog w = .ok () w' ∧ MetAt w' mb (met ++ [u]) ∧ w.grownBy w' (some mb) := by
 obtain ⟨D, h1, h2⟩ := h;have hv : plainElem (H := Unit) Tryz.prog 3 (.int .i64 1) = some (.lit (.int .i64 1), []) := plainElem_int Tryz.underlying3 (by decide);obtain ⟨w', hr, h3, h4⟩ := h1.update ud_law Tryz.underlying118 (by unfold maxLen; omega) (udK_eq hu) hv;refine ⟨w', hr, ⟨_, ?_, metOk_put h2 h1.isMap hu⟩, h4⟩;rw [List.length_append];exact h3
def ehR (v : Value) : Option (DataW Eh × List MemPlace) := match v with
 | .agg cs => match cs.toList with
  | [.string a, .string b, .slice ua un uc, .slice aa an ac] => some (.held ⟨⟨a, b⟩, ua, un, uc, aa, an, ac⟩, [])
  | _ => none
 | _ => none
def ehW (e : Eh) : Value := .agg #[.string e.u.ty, .string e.u.id, .slice e.ua e.un e.uc, .slice e.aa e.an e.ac]
theorem ehR_mk (e : Eh) : ehR (ehW e) = some (.held e, []) := rfl
theorem ehR_inv {v : Value} {z : DataW Eh × List MemPlace} (h : ehR v = some z) : ∃ e, v = ehW e ∧ z = (.held e, []) := by
 unfold ehR at h;split at h
 · rename_i cs;split at h
   · rename_i hcs;injection h with h
     refine ⟨_, ?_, h.symm⟩;obtain ⟨l⟩ := cs;simp only at hcs;subst hcs;rfl
   · cases h
 · cases h
def StoOk (hs : List Eh) (D : DataW Eh) : Prop := ∀ u, UdSm u → Maps.has D (udK u) = decide (u ∈ hs.map Eh.u) ∧ ∀ h, hs.find? (fun e => decide (e.u = u)) = some h → ∀ z, D.atKey (udK u) z = .held h
theorem stoOk_nil : StoOk [] (.map [] : DataW Eh) := fun u _ => ⟨by simp [Maps.has], fun h hh => by simp at hh⟩
theorem stoOk_put {hs : List Eh} {D : DataW Eh} (h : StoOk hs D) (hD : Maps.IsMap D) {e : Eh} (hu : UdSm e.u) (hn : e.u ∉ hs.map Eh.u) : StoOk (hs ++ [e]) (D.put (udK e.u) (.held e)) := by
 intro d hd;rw [List.map_append, List.find?_append];by_cases ee : d = e.u
 · subst ee;rw [has_put_same hD (ud_law.key (udK_eq hd))];refine ⟨by simp, fun x hx z => ?_⟩;have h0 : hs.find? (fun x => decide (x.u = e.u)) = none := by
    rw [List.find?_eq_none];intro y hy;have : e.u ∉ hs.map Eh.u := hn;simp only [decide_eq_true_eq];intro hh;exact this (List.mem_map.2 ⟨y, hy, hh⟩)
   rw [h0] at hx;simp at hx;subst hx;exact atKey_put_same hD (ud_law.key (udK_eq hd)) _ _
 · have hk : udK d ≠ udK e.u := fun hh => ee (udK_inj hd hu hh);rw [has_put_other hk];refine ⟨by rw [(h d hd).1]; simp [ee], fun x hx z => ?_⟩;have hx' : hs.find? (fun x => decide (x.u = d)) = some x := by
    cases hf : hs.find? (fun x => decide (x.u = d)) with
    | some y => rw [hf] at hx; simpa using hx
    | none =>
     rw [hf] at hx;have : ¬ e.u = d := fun hh => ee hh.symm;simp [this] at hx
   rw [atKey_put_other hk, (h d hd).2 x hx' z]
def StoAt (w : World) (sb : Nat) (hs : List Eh) : Prop := ∃ D, w.ownsMap Tryz.prog 34 ehR sb hs.length D ∧ StoOk hs D
theorem StoAt.kept {w w' : World} {sb : Nat} {hs : List Eh} (h : StoAt w sb hs) {row : Option Nat} (hg : w.grownBy w' row) (hne : some sb ≠ row) : StoAt w' sb hs := by
 obtain ⟨D, h1, h2⟩ := h;exact ⟨D, h1.kept hg hne, h2⟩
theorem StoAt.lt {w : World} {sb : Nat} {hs : List Eh} (h : StoAt w sb hs) : sb < w.heap.size := by
 obtain ⟨D, h1, _⟩ := h;exact h1.lt
def eh0 : Eh := ⟨⟨⟨#[]⟩, ⟨#[]⟩⟩, none, 0, 0, none, 0, 0⟩
theorem ent_zero (w : World) : (zeroValue 109).run Tryz.prog w = .ok (ehW eh0) w := by kernel_rfl
def atU (hs : List Eh) (u : Ud) : Eh := (hs.find? (fun e => decide (e.u = u))).getD eh0
theorem sto_look {w : World} {sb : Nat} {hs : List Eh} (h : StoAt w sb hs) {u : Ud} (hu : UdSm u) :
 (Instr.lookup 116 (.map (some sb)) (.agg #[.string u.ty, .string u.id]) false).run Tryz.prog w = .ok (ehW (atU hs u)) w := by
 obtain ⟨D, h1, h2⟩ := h;obtain ⟨v, ps, hr, hv⟩ := h1.lookup ud_law Tryz.underlying116 (ent_zero w) (ehR_mk eh0) (udK_eq hu);show (Instr.lookup 116 (.map (some sb)) (udV u) false).run Tryz.prog w = _;obtain ⟨e, rfl, he⟩ := ehR_inv hv;rw [hr];simp only [Prod.mk.injEq] at he;unfold atU;cases hf : hs.find? (fun e => decide (e.u = u)) with
 | some x =>
  rw [(h2 u hu).2 x hf] at he;have := he.1;injection this with this
  rw [this]; rfl
 | none =>
  have hn : u ∉ hs.map Eh.u := by
   intro hh;obtain ⟨y, hy, e⟩ := List.mem_map.1 hh;have := List.find?_eq_none.1 hf y hy;simp [e] at this
  rw [atKey_of_not_has (by rw [(h2 u hu).1]; simpa using hn)] at he;have := he.1;injection this with this
  rw [← this]; rfl
theorem sto_put {w : World} {sb : Nat} {hs : List Eh} (h : StoAt w sb hs) {e : Eh} (hu : UdSm e.u) (hn : e.u ∉ hs.map Eh.u) (hl : hs.length ≤ 1000) :
 ∃ w', (Instr.mapUpdate 116 (.map (some sb)) (.agg #[.string e.u.ty, .string e.u.id]) (ehW e)).run Tryz.prog w = .ok () w' ∧ StoAt w' sb (hs ++ [e]) ∧ w.grownBy w' (some sb) := by
 obtain ⟨D, h1, h2⟩ := h;obtain ⟨w', hr, h3, h4⟩ := h1.update ud_law Tryz.underlying116 (by unfold maxLen; omega) (udK_eq hu) (ehR_mk e);refine ⟨w', hr, ⟨_, ?_, stoOk_put h2 h1.isMap hu hn⟩, h4⟩;rw [List.length_append];exact h3
theorem sto_made (w : World) : StoAt (w.alloc (.map #[] 0)) w.heap.size [] := ⟨_, World.ownsMap_made _ _ _ _, stoOk_nil⟩
theorem met_made (w : World) : MetAt (w.alloc (.map #[] 0)) w.heap.size [] := ⟨_, World.ownsMap_made _ _ _ _, metOk_nil⟩
theorem abv_cnt (es : List En) : ∀ (k : Nat) (u : Ud) (m : List Ud), (abv es k u m).length + unm es (abv es k u m) ≤ m.length + unm es m
 | 0, _, _ => Nat.le_refl _
 | k + 1, u, m => by
  rw [abv_succ];have key : ∀ ps : List Ud, (∀ p ∈ ps, p ∈ es.flatMap En.up) → ∀ m : List Ud, (abvF es k m ps).length + unm es (abvF es k m ps) ≤ m.length + unm es m := by
   intro ps;induction ps with
   | nil => intro _ m; exact Nat.le_refl _
   | cons p ps ih =>
    intro hp m;have h1 := ih (fun q hq => hp q (by simp [hq])) (if p ∈ m then m else abv es k p (m ++ [p]));refine Nat.le_trans (by exact h1) ?_;split
    · exact Nat.le_refl _
    · rename_i hm;have h2 := abv_cnt es k p (m ++ [p]);have h3 := unm_lt (hp p (by simp)) hm;simp at h2;omega
  exact key _ (fun p hp => upOf_mem hp) m
theorem Ens.tail {w : World} {B : Nat} {h : Eh} {hs : List Eh} {e : En} {es : List En} (k : Ens w B (h :: hs) (e :: es)) : Ens w B hs es :=
 ⟨by have := k.len; simpa using this, fun i x y hx hy => k.at_ (i + 1) x y (by simpa using hx) (by simpa using hy)⟩
theorem ens_up {w : World} {B : Nat} : ∀ {hs : List Eh} {es : List En}, Ens w B hs es → ∀ u, (atU hs u).un = (upOf es u).length ∧ UdSl w B (atU hs u).ua (upOf es u) ∧ (atU hs u).un ≤ (atU hs u).uc ∧ (atU hs u).uc ≤ 9223372036854775807
 | [], [], _, u => ⟨rfl, SlG.nil _ _ _, Nat.le_refl _, by simp [atU, eh0]⟩
 | [], _ :: _, h, _ => by have := h.len; simp at this
 | _ :: _, [], h, _ => by have := h.len; simp at this
 | x :: hs, e :: es, h, u => by
  have h0 := h.at_ 0 x e rfl rfl;have ih := ens_up h.tail u;by_cases hu : e.u = u
  · have e1 : atU (x :: hs) u = x := (by simp [atU, h0.u, hu]);have e2 : upOf (e :: es) u = e.up := (by simp [upOf, hu]);rw [e1, e2];exact ⟨h0.un, h0.up, h0.uc.1, h0.uc.2⟩
  · have e1 : atU (x :: hs) u = atU hs u := (by simp [atU, h0.u, hu]);have e2 : upOf (e :: es) u = upOf es u := (by simp [upOf, hu]);rw [e1, e2];exact ih
end Go.Proofs.YtpheiojmcafolaaGreatDoor
namespace Go.Proofs.YtpheiojmcafolaaGreatDoor
set_option maxRecDepth 100000
open Go.RowKit Go.Sort
theorem bs_same (a b : ByteArray) : a.toList = b.toList ↔ a = b := by
 refine ⟨fun h => ?_, fun h => by rw [h]⟩;rw [ByteArray.toList_eq, ByteArray.toList_eq] at h;exact ByteArray.ext (Array.toList_inj.1 h)
theorem eq_ud (x y : Ud) (w : World) : (Op.equalIn 10000 34 (.agg #[.string x.ty, .string x.id]) (.agg #[.string y.ty, .string y.id])).run Tryz.prog w = .ok (decide (x = y)) w := by
 have u3 := Tryz.underlying9;have a3 := Tryz.isAgg9;have z3 := Tryz.sizeOf9;have hS : Tryz.prog.underlying 34 = some (.struct (Tryz.prog.fieldsOf 34)) := by kernel_rfl
 have hp : Tryz.prog.stoodInHeld 34 = false := by kernel_rfl
 rw [show (10000 : Nat) = 9999 + 1 from rfl, run_equalIn_agg w 9999 34 _ _ hS hp];simp only [Program.fieldsOf, Tryz.underlying34];go_simp
 obtain ⟨a, l⟩ := x;obtain ⟨a', l'⟩ := y;by_cases h1 : a = a' <;> by_cases h2 : l = l' <;> simp [bs_same, h1, h2]
theorem eql_ud (x y : Ud) (w : World) : (binOp .eql 34 (.agg #[.string x.ty, .string x.id]) (.agg #[.string y.ty, .string y.id])).run Tryz.prog w = .ok (.bool (decide (x = y))) w := by
 rw [run_eql_struct, eq_ud]; rfl
theorem udSl_at {w : World} {B : Nat} {A : Option Addr} {xs : List Ud} (h : UdSl w B A xs) {i : Nat} {x : Ud} (hx : xs[i]? = some x) : ∃ b o, A = some ⟨b, o, none⟩ ∧ b < B ∧ w.cell? ⟨b, o + i * 2, none⟩ = some (.string x.ty) ∧ w.cell? ⟨b, o + i * 2 + 1, none⟩ = some (.string x.id) := by
 obtain ⟨b, o, e, hb, hc⟩ := h.at_ (List.getElem?_eq_some_iff.1 hx).1;have := hc i x hx;exact ⟨b, o, e, hb, this 0 _ rfl, this 1 _ rfl⟩
def idxU (xs : List Ud) (x : Ud) : Int := if x ∈ xs then (xs.idxOf x : Int) else -1
theorem idx_hit {xs : List Ud} {x y : Ud} {k : Nat} (hx : xs[k]? = some y) (hn : x ∉ xs.take k) (h : x = y) : idxU xs x = k := by
 subst h;have hm := List.mem_of_getElem? hx;obtain ⟨hk, he⟩ := List.getElem?_eq_some_iff.1 hx;have e : xs = xs.take k ++ x :: xs.drop (k + 1) := by rw [← he, ← List.drop_eq_getElem_cons hk, List.take_append_drop]
 rw [idxU, if_pos hm];have : xs.idxOf x = k := by
  rw [e, List.idxOf_append, if_neg hn]; simp; omega
 rw [this]
set_option maxHeartbeats 1600000 in
theorem ud_index (xs : List Ud) (x : Ud) (A : Option Addr) (c : Nat) (w : World) (hl : xs.length ≤ 9223372036854775807) (hs : UdSl w w.heap.size A xs) :
 Calls Tryz.prog 128 #[.slice A xs.length c, .agg #[.string x.ty, .string x.id]] w fun r w' => r = .returned (.int .i64 (idxU xs x)) ∧ Below w.heap.size w w' := by
 have HS := Lib.hid hs;clear hs;go_enter Tryz.func128, Tryz.ntmps128
 go_wp2_with fail
 go_loopw [8] (fun kk wr => ∃ k : Nat, kk = .int .i64 k ∧ k ≤ xs.length ∧ Hid (x ∉ xs.take k) ∧ Below w.heap.size w wr ∧ wr.cell? ⟨w.heap.size, 0, none⟩ = some (.string x.ty) ∧ wr.cell? ⟨w.heap.size, 1, none⟩ = some (.string x.id)) (fun kk _ => xs.length - (intOf kk).toNat)
 case atStart => exact ⟨0, rfl, by omega, by simp [Hid], by (repeat (first | assumption | exact Below.refl _ _ | apply Below.drew | apply below_drewN | (refine Below.alloc ?_ (by first | exact Nat.le_refl _ | omega | (simp; done) | (simp; omega)) _))), by simp [World.cell?_alloc_new], by simp [World.cell?_alloc_new]⟩
 case round =>
  obtain ⟨k, rfl, hk, HK, hbr, v0, v1⟩ := hrel;have hzr := hbr.size;by_cases hlt : k < xs.length
  · obtain ⟨y, hy⟩ : ∃ y, xs[k]? = some y := ⟨_, List.getElem?_eq_getElem hlt⟩;obtain ⟨b1, o1, rfl, hb1, c0, c1⟩ := udSl_at (HS.out.below hbr) hy;have HX := Lib.hid hy;clear hy;have i1 : 0 ≤ (k : Int) := (by omega);have i2 : (k : Int) < (xs.length : Int) := (by omega);have heq : ∀ W, (binOp .eql 34 (.agg #[.string x.ty, .string x.id]) (.agg #[.string y.ty, .string y.id])).run Tryz.prog W = .ok (.bool (decide (x = y))) W := fun W => eql_ud x y W;have heq2 : ∀ W, (Op.equalIn 10000 34 (.agg #[.string x.ty, .string x.id]) (.agg #[.string y.ty, .string y.id])).run Tryz.prog W = .ok (decide (x = y)) W := fun W => eq_ud x y W;by_cases hh : x = y
    · have hd : decide (x = y) = true := (by simp [hh]);rw [hd] at heq heq2;have HH := Lib.hid hh;clear hh hd;go_wp2_with fail
      go_quiet (fail)
      go_wp2_with fail
      go_ret
      refine ⟨?_, below_drewN hbr _⟩;rw [idx_hit HX.out HK.out HH.out];rfl
    · have hd : decide (x = y) = false := (by simp [hh]);rw [hd] at heq heq2;have HH : Hid (x ∉ xs.take (k + 1)) := by
       show ¬ _;rw [List.take_add_one, HX.out];have := HK.out;simp [hh, this]
      clear hh hd;go_wp2_with fail
      go_quiet (fail)
      go_wp2_with fail
      exact ⟨⟨k + 1, by go_num, by omega, HH, below_drewN hbr _, by simpa using v0, by simpa using v1⟩, by simp [intOf]; omega⟩
  · have HE : Hid (idxU xs x = -1) := by
     have := HK.out;rw [List.take_of_length_le (by omega)] at this;show _ = _;simp [idxU, this]
    go_wp2_with fail
    go_ret
    rw [HE.out];exact ⟨rfl, hbr⟩
theorem idxU_mem {xs : List Ud} {x : Ud} : decide (0 ≤ idxU xs x) = decide (x ∈ xs) := by
 unfold idxU;by_cases h : x ∈ xs <;> simp [h]
set_option maxHeartbeats 1600000 in
theorem ud_contains (xs : List Ud) (x : Ud) (A : Option Addr) (c : Nat) (w : World) (hl : xs.length ≤ 9223372036854775807) (hs : UdSl w w.heap.size A xs) :
 Calls Tryz.prog 94 #[.slice A xs.length c, .agg #[.string x.ty, .string x.id]] w fun r w' => r = .returned (.bool (decide (x ∈ xs))) ∧ Below w.heap.size w w' := by
 have HB : Hid (Below w.heap.size w (w.alloc (.cells #[.string x.ty, .string x.id] 34))) := by show Below _ _ _; (repeat (first | assumption | exact Below.refl _ _ | apply Below.drew | apply below_drewN | (refine Below.alloc ?_ (by first | exact Nat.le_refl _ | omega | (simp; done) | (simp; omega)) _)))
 have HI := Lib.hid (ud_index xs x A c (w.alloc (.cells #[.string x.ty, .string x.id] 34)) hl (hs.later HB.out));have HK := Lib.hid (idxU_mem (xs := xs) (x := x));clear hs;generalize idxU xs x = v at HI HK;generalize decide (x ∈ xs) = q at HK ⊢;go_enter Tryz.func94, Tryz.ntmps94
 go_wp2_with fail
 refine HI.out.mono ?_;rintro r w1 ⟨rfl, hb1⟩;go_wp2_with fail
 go_ret
 exact ⟨ret_bool HK.out, HB.out.trans (hb1.mono HB.out.size)⟩
end Go.Proofs.YtpheiojmcafolaaGreatDoor
namespace Go.Proofs.YtpheiojmcafolaaGreatDoor
theorem bind_ok {α β : Type} {r : Rs α} {f : α → Rs β} {v : β} (h : r.bind f = .ok v) : ∃ u, r = .ok u ∧ f u = .ok v := by
 cases r with
 | ok u => exact ⟨u, rfl, h⟩
 | bad k => cases h
theorem must_ok {r : Rs (List Nd)} {op : Int} {v : List Nd} (h : mustV r op = .ok v) : r = .ok v ∧ opH v = op := by
 obtain ⟨u, h1, h2⟩ := bind_ok h;split at h2
 · injection h2 with h2; subst h2; exact ⟨h1, by assumption⟩
 · cases h2
theorem allR_ok {α : Type} : ∀ {rs : List (Rs α)} {vs : List α}, allR rs = .ok vs → vs.length = rs.length ∧ ∀ v ∈ vs, .ok v ∈ rs
 | [], vs, h => by injection h with h; subst h; simp
 | r :: rs, vs, h => by
  obtain ⟨v, h1, h2⟩ := bind_ok h;obtain ⟨us, h3, h4⟩ := bind_ok h2;injection h4 with h4
  subst h4;obtain ⟨i1, i2⟩ := allR_ok h3;refine ⟨by simp [i1], fun u hu => ?_⟩;rcases List.mem_cons.1 hu with rfl | hu
  · rw [h1]; simp
  · exact List.mem_cons_of_mem _ (i2 u hu)
theorem kids_sub : ∀ (k : Nat) (l p : List Nd), p ∈ kidsGo k l → ∀ x ∈ p, x ∈ l
 | 0, l, p, h => by simp [kidsGo] at h
 | k + 1, [], p, h => by simp [kidsGo] at h
 | k + 1, y :: l, p, h => by
  rw [kidsGo] at h;split at h
  · rename_i j hj;rcases List.mem_cons.1 h with rfl | h
    · exact fun x hx => List.mem_of_mem_take hx
    · exact fun x hx => List.mem_of_mem_drop (kids_sub k _ p h x hx)
  · simp at h
def GoodV (v : List Nd) : Prop := v ≠ [] ∧ NdOk v
def UdZ (u : Ud) : Prop := u.ty.size ≤ 140737488351232 ∧ u.id.size ≤ 140737488351232
theorem bN_good (b : Bool) : GoodV [bN b] := ⟨by simp, by intro x hx; simp at hx; subst hx; exact ⟨Nat.zero_le _, Nat.zero_le _⟩⟩
theorem nN_good (n : Int) : GoodV [nN n] := ⟨by simp, by intro x hx; simp at hx; subst hx; exact ⟨Nat.zero_le _, Nat.zero_le _⟩⟩
theorem eN_good {u : Ud} (h : UdZ u) : GoodV [eN u] := ⟨by simp, by intro x hx; simp at hx; subst hx; exact h⟩
theorem NdOk.sub {a b : List Nd} (h : NdOk b) (hs : ∀ x ∈ a, x ∈ b) : NdOk a := fun x hx => h x (hs x hx)
theorem setOfP_good {vs : List (List Nd)} {v : List Nd} (hv : ∀ p ∈ vs, NdOk p) (h : setR vs = .ok v) : GoodV v := by
 unfold setR at h;split at h
 · cases h
 · rename_i hk;injection h with h
   subst h;unfold setOfP at hk ⊢;split at hk
   · rename_i h1; exact absurd h1 hk
   · rename_i h1;rw [if_neg h1];split at hk
     · exact absurd (by decide) hk
     · rename_i h2;rw [if_neg h2];refine ⟨by simp [setNodes], fun x hx => ?_⟩;unfold setNodes at hx;rcases List.mem_cons.1 hx with rfl | hx
       · exact ⟨Nat.zero_le _, Nat.zero_le _⟩
       · obtain ⟨p, hp, hxp⟩ := List.mem_flatten.1 hx;exact hv p (mem_setParts hp) x hxp
theorem recR_good {fs : List (ByteArray × List Nd)} {v : List Nd} (hs : ∀ f ∈ fs, f.1.size ≤ 140737488351232) (hv : ∀ f ∈ fs, NdOk f.2) (h : recR fs = .ok v) : GoodV v := by
 unfold recR at h;split at h
 · cases h
 · split at h
   · cases h
   · injection h with h
     subst h;refine ⟨by simp [recNodes], fun x hx => ?_⟩;unfold recNodes at hx;rcases List.mem_cons.1 hx with rfl | hx
     · exact ⟨Nat.zero_le _, Nat.zero_le _⟩
     · obtain ⟨p, hp, hxp⟩ := List.mem_flatten.1 hx;have hp' := (sortN_perm _).mem_iff.1 hp;obtain ⟨f, hf, rfl⟩ := List.mem_map.1 hp';rcases List.mem_cons.1 hxp with rfl | hxp
       · exact ⟨hs f hf, Nat.zero_le _⟩
       · exact hv f hf x hxp
theorem vx_rec_parts {v : List Nd} (h : valErr v = 0) (h6 : opH v = 6) : ∀ p ∈ partsV v, ∃ f u, p = f :: u ∧ f.op = 7 ∧ Vx u := by
 have hv := ((val_iff v).1 h).2;cases hv with
 | leaf n hs h5 h6' h7 => exact absurd h6 h6'
 | set n ps hs h5 => have : n.op = 6 := h6; omega
 | rcd n ps hs h6' hn h1 h2 h3 hc =>
  intro p hp;have hk : partsV (n :: ps.flatten) = ps := kids_any ps (fun p hp => by
   obtain ⟨f, u, rfl⟩ := h1 p hp;exact ⟨true, fx_ex (h2 f u hp).1 (h2 f u hp).2 (vx_ex (h3 f u hp))⟩) _ (Nat.le_refl _)
  rw [hk] at hp;obtain ⟨f, u, rfl⟩ := h1 p hp;exact ⟨f, u, rfl, (h2 f u hp).1, h3 f u hp⟩
theorem vx_set_parts {v : List Nd} (h : valErr v = 0) (h5 : opH v = 5) : ∀ p ∈ partsV v, Vx p := by
 have hv := ((val_iff v).1 h).2;cases hv with
 | leaf n hs h5' h6' h7 => exact absurd h5 h5'
 | rcd n ps hs h6 => have : n.op = 5 := h5; omega
 | set n ps hs h5' hn hp hc =>
  intro p hpp;have hk : partsV (n :: ps.flatten) = ps := kids_any ps (fun p hp' => ⟨false, vx_ex (hp p hp')⟩) _ (Nat.le_refl _);rw [hk] at hpp;exact hp p hpp
theorem vx_good {v : List Nd} (h : Vx v) (hok : NdOk v) : GoodV v := by
 obtain ⟨x, r, e, _⟩ := h.ne;exact ⟨by rw [e]; simp, hok⟩
theorem parts_sub {v p : List Nd} (h : p ∈ partsV v) : ∀ x ∈ p, x ∈ v := fun x hx => List.mem_of_mem_tail (kids_sub _ _ p h x hx)
theorem getR_good {v w : List Nd} {s : ByteArray} (hv : NdOk v) (h : getR v s = .ok w) : GoodV w := by
 unfold getR at h;split at h
 · cases h
 · rename_i h0;have h0' : valErr v = 0 := Classical.not_not.1 h0;split at h
   · rename_i h6;split at h
     · rename_i p hp;injection h with h
       subst h;have hm := List.mem_of_find?_eq_some hp;obtain ⟨f, u, rfl, _, hu⟩ := vx_rec_parts h0' h6 p hm;exact vx_good hu (hv.sub fun x hx => parts_sub hm x (List.mem_cons_of_mem _ hx))
     · cases h
   · cases h
structure EsG (es : List En) : Prop where
 at_ : ∀ e ∈ es, GoodV e.at_
 uz : ∀ e ∈ es, UdZ e.u
 pz : ∀ e ∈ es, ∀ p ∈ e.up, UdZ p
structure RqG (q : Rq) : Prop where
 who : UdZ q.who
 act : UdZ q.act
 what : UdZ q.what
 ctx : GoodV q.ctx
theorem named_good {q : Rq} (hq : RqG q) {s : List UInt8} {v : List Nd} (h : namedR q s = .ok v) : GoodV v := by
 unfold namedR at h;split at h
 · injection h with h; subst h; exact eN_good hq.who
 · split at h
   · injection h with h; subst h; exact eN_good hq.act
   · split at h
     · injection h with h; subst h; exact eN_good hq.what
     · split at h
       · injection h with h; subst h; exact hq.ctx
       · cases h
theorem single_good {es : List En} (hes : EsG es) {x : Nd} {v w : List Nd} (hv : GoodV v) (h : singleR es x v = .ok w) : GoodV w := by
 unfold singleR at h;split at h
 · obtain ⟨u, _, h2⟩ := bind_ok h; injection h2 with h2; subst h2; exact bN_good _
 · split at h
   · obtain ⟨u, _, h2⟩ := bind_ok h; obtain ⟨n, _, h3⟩ := bind_ok h2; injection h3 with h3; subst h3; exact nN_good _
   · split at h
     · obtain ⟨u, _, h2⟩ := bind_ok h; obtain ⟨n, _, h3⟩ := bind_ok h2; injection h3 with h3; subst h3; exact bN_good _
     · split at h
       · obtain ⟨u, _, h2⟩ := bind_ok h; injection h2 with h2; subst h2; exact bN_good _
       · obtain ⟨r, h1, h2⟩ := bind_ok h;cases r with
         | none =>
          simp only at h2;split at h2
          · injection h2 with h2; subst h2; exact bN_good _
          · cases h2
         | some r =>
          simp only at h2;have hr : NdOk r := by
           unfold recOf at h1;split at h1
           · injection h1 with h1; injection h1 with h1; subst h1; exact hv.2
           · split at h1
             · injection h1 with h1
               obtain ⟨e, he, h1⟩ := Option.map_eq_some_iff.1 h1;subst h1;exact (hes.at_ e (List.mem_of_find?_eq_some he)).2
             · cases h1
          split at h2
          · split at h2 <;> (injection h2 with h2; subst h2; exact bN_good _)
          · exact getR_good hr h2
theorem double_good {es : List En} {op : Int} {a b w : List Nd} (h : doubleR es op a b = .ok w) : GoodV w := by
 unfold doubleR at h;split at h
 · injection h with h; subst h; exact bN_good _
 · split at h
   · obtain ⟨u, _, h2⟩ := bind_ok h; injection h2 with h2; subst h2; exact bN_good _
   · split at h
     · obtain ⟨u, _, h2⟩ := bind_ok h; injection h2 with h2; subst h2; exact bN_good _
     · split at h
       · obtain ⟨u, _, h2⟩ := bind_ok h; injection h2 with h2; subst h2; exact bN_good _
       · split at h
         · obtain ⟨u, _, h2⟩ := bind_ok h; injection h2 with h2; subst h2; exact bN_good _
         · obtain ⟨u, _, h2⟩ := bind_ok h;obtain ⟨u', _, h3⟩ := bind_ok h2;split at h3
           · injection h3 with h3; subst h3; exact bN_good _
           · split at h3
             · injection h3 with h3; subst h3; exact bN_good _
             · obtain ⟨n, _, h4⟩ := bind_ok h3; injection h4 with h4; subst h4; exact nN_good _
theorem evE_good {es : List En} {q : Rq} (hes : EsG es) (hq : RqG q) : ∀ (k : Nat) (xs : List Nd) {v : List Nd}, NdOk xs → evE es q k xs = .ok v → GoodV v
 | 0, xs, v, _, h => by cases h
 | k + 1, [], v, _, h => by cases h
 | k + 1, x :: body, v, hx, h => by
  have hxx : NdOk [x] := hx.sub (by intro y hy; simp at hy; simp [hy]);have hb : NdOk body := hx.sub fun y hy => List.mem_cons_of_mem _ hy;have hkid : ∀ p ∈ kidsGo body.length body, NdOk p := fun p hp => hb.sub (kids_sub _ _ p hp);have ih := fun p v (hp : NdOk p) (h : evE es q k p = .ok v) => evE_good hes hq k p hp h;rw [evE] at h;split at h
  · injection h with h; subst h; exact ⟨by simp, hxx⟩
  · split at h
    · exact named_good hq h
    · generalize kidsGo body.length body = ps at h hkid;split at h
      · obtain ⟨vs, h1, h2⟩ := bind_ok h;refine setOfP_good (fun p hp => ?_) h2;obtain ⟨y, hy, e⟩ := List.mem_map.1 ((allR_ok h1).2 p hp);exact (ih y p (hkid y hy) e).2
      · obtain ⟨vs, h1, h2⟩ := bind_ok h;refine recR_good (fun f hf => ?_) (fun f hf => ?_) h2
        · have hm := List.of_mem_zip hf;obtain ⟨p, hp, e⟩ := List.mem_map.1 hm.1;rw [← e];cases p with
          | nil => exact Nat.zero_le _
          | cons y r => exact (hkid _ hp y (by simp)).1
        · have hm := List.of_mem_zip hf;obtain ⟨y, hy, e⟩ := List.mem_map.1 ((allR_ok h1).2 f.2 hm.2);exact (ih y.tail f.2 ((hkid y hy).sub fun z hz => List.mem_of_mem_tail hz) e).2
      · rename_i a h5' h6';obtain ⟨u, h1, h2⟩ := bind_ok h;exact single_good hes (ih a u (hkid a (by simp)) h1) h2
      · rename_i a b h5' h6';split at h
        · unfold eitherR at h;obtain ⟨u, h1, h2⟩ := bind_ok h;split at h2
          · injection h2 with h2; subst h2; exact ih a _ (hkid a (by simp)) (must_ok h1).1
          · exact ih b v (hkid b (by simp)) (must_ok h2).1
        · obtain ⟨u, h1, h2⟩ := bind_ok h;obtain ⟨u', h3, h4⟩ := bind_ok h2;exact double_good h4
      · rename_i c a b h5' h6';unfold choiceR at h;obtain ⟨u, h1, h2⟩ := bind_ok h;split at h2
        · exact ih a v (hkid a (by simp)) h2
        · exact ih b v (hkid b (by simp)) h2
      · cases h
end Go.Proofs.YtpheiojmcafolaaGreatDoor
namespace Go.Proofs.YtpheiojmcafolaaGreatDoor
set_option maxRecDepth 100000
open Go.RowKit Go.Sort
structure UCap (u : Ud) (b : Nat) (W : World) : Prop where
 c0 : W.cell? ⟨b, 0, none⟩ = some (.string u.ty)
 c1 : W.cell? ⟨b, 1, none⟩ = some (.string u.id)
 lt : b < W.heap.size
theorem UCap.later {u : Ud} {b : Nat} {W W' : World} (h : UCap u b W) (hb : RowKit.Below W.heap.size W W') : UCap u b W' :=
 ⟨(hb.cell (p := ⟨b, 0, none⟩) h.lt).trans h.c0, (hb.cell (p := ⟨b, 1, none⟩) h.lt).trans h.c1, Nat.lt_of_lt_of_le h.lt hb.size⟩
set_option maxHeartbeats 1600000 in
theorem entchk_clo (u : Ud) (h : Eh) (b : Nat) (w : World) (hc : UCap u b w) :
 Calls Tryz.prog 59 #[.agg #[.string h.u.ty, .string h.u.id, .slice h.ua h.un h.uc, .slice h.aa h.an h.ac], .pointer (some ⟨b, 0, none⟩)] w fun r w' => r = .returned (.bool (decide (h.u = u))) ∧ RowKit.Below w.heap.size w w' := by
 have HC := Lib.hid (hc.later (by (repeat (first | assumption | exact Below.refl _ _ | apply Below.drew | apply below_drewN | (refine Below.alloc ?_ (by first | exact Nat.le_refl _ | omega | (simp; done) | (simp; omega)) _))) : RowKit.Below w.heap.size w (w.alloc (.cells #[.string h.u.ty, .string h.u.id, .slice h.ua h.un h.uc, .slice h.aa h.an h.ac] 109))));clear hc;have c0 := HC.out.c0;have c1 := HC.out.c1;have heq : ∀ W, (binOp .eql 34 (.agg #[.string h.u.ty, .string h.u.id]) (.agg #[.string u.ty, .string u.id])).run Tryz.prog W = .ok (.bool (decide (h.u = u))) W := fun W => eql_ud h.u u W;generalize decide (h.u = u) = q at heq ⊢;go_enter Tryz.func59, Tryz.ntmps59
 go_wp2_with fail
 go_ret
 exact ⟨rfl, by (repeat (first | assumption | exact Below.refl _ _ | apply Below.drew | apply below_drewN | (refine Below.alloc ?_ (by first | exact Nat.le_refl _ | omega | (simp; done) | (simp; omega)) _)))⟩
def anyU (hs : List Eh) (u : Ud) : Bool := hs.any fun h => decide (h.u = u)
theorem anyU_take {hs : List Eh} {u : Ud} {k : Nat} {x : Eh} (hx : hs[k]? = some x) (h : anyU (hs.take k) u = false) (hh : decide (x.u = u) = false) : anyU (hs.take (k + 1)) u = false := by
 unfold anyU at h ⊢;rw [List.take_add_one, hx, List.any_append, h];simp [hh]
theorem anyU_hit {hs : List Eh} {u : Ud} {k : Nat} {x : Eh} (hx : hs[k]? = some x) (hh : decide (x.u = u) = true) : anyU hs u = true := List.any_eq_true.2 ⟨x, List.mem_of_getElem? hx, hh⟩
theorem ehSl_at {w : World} {B : Nat} {A : Option Addr} {xs : List Eh} (h : EhSl w B A xs) {i : Nat} {x : Eh} (hx : xs[i]? = some x) : ∃ b o, A = some ⟨b, o, none⟩ ∧ b < B ∧ w.cell? ⟨b, o + i * 4, none⟩ = some (.string x.u.ty) ∧ w.cell? ⟨b, o + i * 4 + 1, none⟩ = some (.string x.u.id) ∧
 w.cell? ⟨b, o + i * 4 + 2, none⟩ = some (.slice x.ua x.un x.uc) ∧ w.cell? ⟨b, o + i * 4 + 3, none⟩ = some (.slice x.aa x.an x.ac) := by
 obtain ⟨b, o, e, hb, hc⟩ := h.at_ (List.getElem?_eq_some_iff.1 hx).1;have := hc i x hx;exact ⟨b, o, e, hb, this 0 _ rfl, this 1 _ rfl, this 2 _ rfl, this 3 _ rfl⟩
set_option maxHeartbeats 1600000 in
theorem ent_index (u : Ud) (hs : List Eh) (A : Option Addr) (c b : Nat) (w : World) (hc : UCap u b w) (hl : hs.length ≤ 9223372036854775807) (hsl : EhSl w w.heap.size A hs) :
 Calls Tryz.prog 93 #[.slice A hs.length c, .func (.func 59) #[] #[.pointer (some ⟨b, 0, none⟩)]] w fun r w' => (∃ k : Int, r = .returned (.int .i64 k) ∧ decide (0 ≤ k) = anyU hs u) ∧ RowKit.Below w.heap.size w w' := by
 have HM := Lib.hid hc;have HS := Lib.hid hsl;clear hc hsl;go_enter Tryz.func93, Tryz.ntmps93
 go_wp2_with fail
 go_loopw [8] (fun kk wr => ∃ k : Nat, kk = .int .i64 k ∧ k ≤ hs.length ∧ Hid (anyU (hs.take k) u = false) ∧ RowKit.Below w.heap.size w wr) (fun kk _ => hs.length - (intOf kk).toNat)
 case atStart => exact ⟨0, rfl, by omega, by simp [Hid, anyU], RowKit.Below.refl _ _⟩
 case round =>
  obtain ⟨k, rfl, hk, HK, hbr⟩ := hrel;have hzr := hbr.size;by_cases hlt : k < hs.length
  · obtain ⟨x, hx⟩ : ∃ x, hs[k]? = some x := ⟨_, List.getElem?_eq_getElem hlt⟩;obtain ⟨b1, o1, rfl, hb1, d0, d1, d2, d3⟩ := ehSl_at (HS.out.below hbr) hx;have HX := Lib.hid hx;have HC := Lib.hid (entchk_clo u x b wr (HM.out.later hbr));clear hx;cases hh : decide (x.u = u) with
    | true =>
     have HH := Lib.hid hh;rw [hh] at HC;clear hh;go_wp2_with fail
     refine HC.out.mono ?_;rintro r w1 ⟨rfl, hb2⟩;have hw1 := hbr.trans (hb2.mono hbr.size);clear hb2 d0 d1 d2 d3;go_wp2_with fail
     go_ret
     refine ⟨⟨k, rfl, ?_⟩, hw1⟩;rw [anyU_hit HX.out HH.out];simp
    | false =>
     have HH := Lib.hid hh;rw [hh] at HC;clear hh;go_wp2_with fail
     refine HC.out.mono ?_;rintro r w1 ⟨rfl, hb2⟩;have hw1 := hbr.trans (hb2.mono hbr.size);clear hb2 d0 d1 d2 d3;go_wp2_with fail
     exact ⟨⟨k + 1, by go_num, by omega, anyU_take HX.out HK.out HH.out, hw1⟩, by simp [intOf]; omega⟩
  · have HE : Hid (anyU hs u = false) := by
     have := HK.out;rw [List.take_of_length_le (by omega)] at this;exact this
    go_wp2_with fail
    go_ret
    exact ⟨⟨-1, rfl, by rw [HE.out]; rfl⟩, hbr⟩
set_option maxHeartbeats 1600000 in
theorem ent_contains (u : Ud) (hs : List Eh) (A : Option Addr) (c b : Nat) (w : World) (hc : UCap u b w) (hl : hs.length ≤ 9223372036854775807) (hsl : EhSl w w.heap.size A hs) :
 Calls Tryz.prog 58 #[.slice A hs.length c, .func (.func 59) #[] #[.pointer (some ⟨b, 0, none⟩)]] w fun r w' => r = .returned (.bool (anyU hs u)) ∧ RowKit.Below w.heap.size w w' := by
 have HI := Lib.hid (ent_index u hs A c b w hc hl hsl);clear hc hsl;generalize anyU hs u = q at HI ⊢;go_enter Tryz.func58, Tryz.ntmps58
 go_wp2_with fail
 refine HI.out.mono ?_;rintro r w1 ⟨⟨k, rfl, hk⟩, hb1⟩;have HK := Lib.hid hk;clear hk;go_wp2_with fail
 go_ret
 exact ⟨ret_bool HK.out, hb1⟩
end Go.Proofs.YtpheiojmcafolaaGreatDoor
namespace Go.Proofs.YtpheiojmcafolaaGreatDoor
set_option maxRecDepth 100000
open Go.RowKit Go.Sort
structure OneS (b0 b1 : Nat) (h : Eh) (p : Ud) (W : World) : Prop where
 s0 : W.cell? ⟨b0, 2, none⟩ = some (.slice h.ua h.un h.uc)
 s1 : W.cell? ⟨b1, 0, none⟩ = some (.string p.ty)
 s2 : W.cell? ⟨b1, 1, none⟩ = some (.string p.id)
theorem SlG.take {α : Type} {enc : α → List Value} {k : Nat} {w : World} {B : Nat} {A : Option Addr} {xs : List α} (h : SlG enc k w B A xs) (n : Nat) : SlG enc k w B A (xs.take n) := fun hne => by
 have hx : xs ≠ [] := by rintro rfl; simp at hne
 obtain ⟨b, o, e, hb, hc⟩ := h hx;refine ⟨b, o, e, hb, fun i x hi => hc i x ?_⟩;rw [List.getElem?_take] at hi;split at hi
 · exact hi
 · cases hi
theorem upAt_eq {ups : List Ud} {k : Nat} {p : Ud} (h : ups[k]? = some p) : upAt ups k = if udErr p ≠ 0 then udErr p else if p ∈ ups.take k then 6 else 0 := by unfold upAt; rw [h]
set_option maxHeartbeats 6400000 in
theorem ent_one (h : Eh) (e : En) (w : World) (hk : EhOk w w.heap.size h e) (hu : ∀ p ∈ e.up, UdOk p) (hok : NdOk e.at_) :
 Calls Tryz.prog 60 #[.agg #[.string h.u.ty, .string h.u.id, .slice h.ua h.un h.uc, .slice h.aa h.an h.ac]] w fun r w' => r = .returned (errV (entOne e)) ∧ RowKit.Below w.heap.size w w' := by
 obtain ⟨hh1, hun, huc, hup, han, hac, hat⟩ := hk;obtain ⟨v, hv⟩ : ∃ v, entOne e = v := ⟨_, rfl⟩;rw [hv];have HV := Lib.hid hv;clear hv hh1;obtain ⟨hu0, ua, un, uc, aa, an, ac⟩ := h;simp only at hun huc hup han hac hat ⊢;subst hun han;have hw0 : RowKit.Below w.heap.size w (w.alloc (.cells #[.string hu0.ty, .string hu0.id, .slice ua e.up.length uc, .slice aa e.at_.length ac] 109)) := by (repeat (first | assumption | exact Below.refl _ _ | apply Below.drew | apply below_drewN | (refine Below.alloc ?_ (by first | exact Nat.le_refl _ | omega | (simp; done) | (simp; omega)) _)))
 have g2 : (w.alloc (.cells #[.string hu0.ty, .string hu0.id, .slice ua e.up.length uc, .slice aa e.at_.length ac] 109)).cell? ⟨w.heap.size, 2, none⟩ = some (.slice ua e.up.length uc) := by rw [World.cell?_alloc_new]; rfl
 have g3 : (w.alloc (.cells #[.string hu0.ty, .string hu0.id, .slice ua e.up.length uc, .slice aa e.at_.length ac] 109)).cell? ⟨w.heap.size, 3, none⟩ = some (.slice aa e.at_.length ac) := by rw [World.cell?_alloc_new]; rfl
 have HU := Lib.hid hup;have HA := Lib.hid hat;have HUU := Lib.hid hu;have hac1 := hac.1;have hac2 := hac.2;have huc1 := huc.1;have huc2 := huc.2;clear hup hat hu hac huc;by_cases h6 : 6 < e.up.length
 · have HE : Hid (v = 4) := by show _ = _; rw [← HV.out]; unfold entOne; rw [if_pos h6]
   have t6 : decide ((6 : Int) < (e.up.length : Int)) = true := by simp; omega
   go_enter Tryz.func60, Tryz.ntmps60
   go_wp2_with fail
   go_ret
   rw [HE.out];exact ⟨rfl, hw0⟩
 · have t6 : decide ((6 : Int) < (e.up.length : Int)) = false := by simp; omega
   have HE : Hid (v = if upsErr e.up ≠ 0 then upsErr e.up else if valErr e.at_ ≠ 0 then valErr e.at_ else if opH e.at_ = 6 then 0 else 2) := by
    show _ = _; rw [← HV.out]; unfold entOne; rw [if_neg h6]
   clear HV h6;go_enter Tryz.func60, Tryz.ntmps60
   go_wp2_with fail
   obtain ⟨W, hW⟩ : ∃ W, w.alloc (.cells #[.string hu0.ty, .string hu0.id, .slice ua e.up.length uc, .slice aa e.at_.length ac] 109) = W := ⟨_, rfl⟩;have hWz : W.heap.size = w.heap.size + 1 := by rw [← hW]; simp
   have HWZ := Lib.hid hWz;rw [hW] at hw0 g2 g3 ⊢;clear hW hWz t6;have hWlt : w.heap.size < W.heap.size := by have := HWZ.out; omega
   go_loopw [16] (fun kk wr => ∃ k : Nat, kk = .int .i64 k ∧ k ≤ e.up.length ∧ Hid (∀ j, j < k → upAt e.up j = 0) ∧ RowKit.Below W.heap.size W wr) (fun kk _ => e.up.length - (intOf kk).toNat)
   case atStart => exact ⟨0, rfl, by omega, by intro j hj; omega, RowKit.Below.refl _ _⟩
   case round =>
    obtain ⟨k, rfl, hk, HK, hbr⟩ := hrel;have hzr := hbr.size;have f2 := (hbr.cell (p := ⟨w.heap.size, 2, none⟩) hWlt).trans g2;have f3 := (hbr.cell (p := ⟨w.heap.size, 3, none⟩) hWlt).trans g3;have hbw : RowKit.Below w.heap.size w wr := hw0.trans (hbr.mono (by omega));by_cases hlt : k < e.up.length
    · obtain ⟨p, hp⟩ : ∃ p, e.up[k]? = some p := ⟨_, List.getElem?_eq_getElem hlt⟩;obtain ⟨b1, o1, rfl, hb1, d0, d1⟩ := udSl_at (HU.out.below hbw) hp;have HP := Lib.hid hp;have HW := Lib.hid (fun W => name_Write p W (HUU.out p (List.mem_of_getElem? hp)));clear hp;by_cases he : udErr p = 0
      · have te : (udErr p != 0) = false := (by simp [he]);have HEP := Lib.hid he;clear he;go_wp2_with fail
        refine (HW.out _).mono ?_;rintro r w1 ⟨rfl, hb1'⟩;obtain ⟨hcc1, hff1⟩ := bcell hb1';have hw1 : RowKit.Below W.heap.size W w1 := (hbr.alloc hzr _).trans (hb1'.mono (by simp; omega));have hz1 := hw1.size;have hz1' : wr.heap.size < w1.heap.size := (by have := hb1'.size; simp at this; omega);have e2 := (hw1.cell (p := ⟨w.heap.size, 2, none⟩) hWlt).trans g2;clear hb1';have q : ∀ (W : World), (Instr.slice 107 (.slice (some ⟨b1, o1, none⟩) e.up.length uc) none (some (.int .i64 (k : Int))) none).run Tryz.prog W = .ok (.slice (some ⟨b1, o1, none⟩) k uc) W := by
         intro W;go_simp
         intro h; omega
        have hb1w : b1 < w.heap.size := hb1;have HCO := Lib.hid (fun W' (hW' : RowKit.Below w.heap.size w W') => by
         have h := ud_contains (e.up.take k) p (some ⟨b1, o1, none⟩) uc W' (by rw [List.length_take]; omega) (SlG.take ((HU.out.below hW').more hW'.size) k);rw [List.length_take, Nat.min_eq_left (by omega)] at h;exact h)
        have ev0 : w1.cell? ⟨wr.heap.size, 0, none⟩ = some (.string p.ty) := (by rw [hcc1 _ _ (by simp)]; simp [World.cell?_alloc_new]);have ev1 : w1.cell? ⟨wr.heap.size, 1, none⟩ = some (.string p.id) := (by rw [hcc1 _ _ (by simp)]; simp [World.cell?_alloc_new]);clear hcc1 hff1 d0 d1;cases hm : decide (p ∈ e.up.take k) with
        | true =>
         rw [hm] at HCO;have HM := Lib.hid hm;clear hm;go_wp2_with fail
         refine wp_region_hd (S := OneS w.heap.size wr.heap.size ⟨hu0, some ⟨b1, o1, none⟩, e.up.length, uc, aa, e.at_.length, ac⟩ p) [false, false, false, false, false, true] (by kernel_rfl) (by kernel_rfl) (fun _ _ _ _ _ h => h) ⟨e2, ev0, ev1⟩ (fun hW' => ?_);simp only [List.zip_cons_cons, List.zip_nil_left];(repeat (first | (refine hd_take (v := ?_) (by rfl) ?_ ?_; rotate_left; (focus (intro W hW; obtain ⟨s0, s1, s2⟩ := hW; go_simp; try with_reducible rfl)); simp only [Act.put, List.setIfInBounds_toArray, List.set_cons_zero, List.set_cons_succ]) | (refine hd_skip (by rfl) ?_; simp only [Act.put, List.setIfInBounds_toArray, List.set_cons_zero, List.set_cons_succ])))
         refine hd_call (fun K hK => ?_);go_simp
         refine (HCO.out w1.drew (hw0.trans (hw1.drew.mono (by omega)))).mono ?_;rintro r w2 ⟨rfl, hb2'⟩;have hb2 := below_of_drew hb2';obtain ⟨hcc2, -⟩ := bcell hb2;have hw2 : RowKit.Below W.heap.size W w2 := hw1.trans (hb2.mono hz1);refine hK _ _ ⟨(hcc2 _ _ (by omega)).trans e2, (hcc2 _ _ hz1').trans ev0, (hcc2 _ _ hz1').trans ev1⟩ ?_;clear hK K hcc2 hb2';refine hd_nil ?_;go_wp2_with fail
         go_ret
         have h1 : upAt e.up k = 6 := by
          have := HM.out;rw [upAt_eq HP.out, if_neg (by simp [HEP.out]), if_pos (by simpa using this)]
         have h2 : upsErr e.up = 6 := (by unfold upsErr; rw [fnz_at (k := k) HK.out (by rw [h1]; omega) hlt, h1]);rw [HE.out, h2];exact ⟨rfl, hw0.trans (hw2.mono (by omega))⟩
        | false =>
         rw [hm] at HCO;have HM := Lib.hid hm;clear hm;go_wp2_with fail
         refine wp_region_hd (S := OneS w.heap.size wr.heap.size ⟨hu0, some ⟨b1, o1, none⟩, e.up.length, uc, aa, e.at_.length, ac⟩ p) [false, false, false, false, false, true] (by kernel_rfl) (by kernel_rfl) (fun _ _ _ _ _ h => h) ⟨e2, ev0, ev1⟩ (fun hW' => ?_);simp only [List.zip_cons_cons, List.zip_nil_left];(repeat (first | (refine hd_take (v := ?_) (by rfl) ?_ ?_; rotate_left; (focus (intro W hW; obtain ⟨s0, s1, s2⟩ := hW; go_simp; try with_reducible rfl)); simp only [Act.put, List.setIfInBounds_toArray, List.set_cons_zero, List.set_cons_succ]) | (refine hd_skip (by rfl) ?_; simp only [Act.put, List.setIfInBounds_toArray, List.set_cons_zero, List.set_cons_succ])))
         refine hd_call (fun K hK => ?_);go_simp
         refine (HCO.out w1.drew (hw0.trans (hw1.drew.mono (by omega)))).mono ?_;rintro r w2 ⟨rfl, hb2'⟩;have hb2 := below_of_drew hb2';obtain ⟨hcc2, -⟩ := bcell hb2;have hw2 : RowKit.Below W.heap.size W w2 := hw1.trans (hb2.mono hz1);refine hK _ _ ⟨(hcc2 _ _ (by omega)).trans e2, (hcc2 _ _ hz1').trans ev0, (hcc2 _ _ hz1').trans ev1⟩ ?_;clear hK K hcc2 hb2';refine hd_nil ?_;go_wp2_with fail
         have HK2 : Hid (∀ j, j < k + 1 → upAt e.up j = 0) := by
          intro j hj;rcases Nat.lt_or_ge j k with h | h
          · exact HK.out j h
          · obtain rfl : j = k := (by omega);have := HM.out;rw [upAt_eq HP.out, if_neg (by simp [HEP.out]), if_neg (by simpa using this)]
         exact ⟨⟨k + 1, by go_num, by omega, HK2, hw2⟩, by simp [intOf]; omega⟩
      · have te : (udErr p != 0) = true := (by simp [he]);have HEP : Hid (v = udErr p) := by
         have h1 : upAt e.up k = udErr p := (by rw [upAt_eq HP.out, if_pos he]);have h2 : upsErr e.up = udErr p := (by unfold upsErr; rw [fnz_at (k := k) HK.out (by rw [h1]; exact he) hlt, h1]);show _ = _;rw [HE.out, h2, if_pos he]
        clear he;go_wp2_with fail
        refine (HW.out _).mono ?_;rintro r w1 ⟨rfl, hb1'⟩;have hw1 : RowKit.Below w.heap.size w w1 := (hbw.alloc (by omega) _).trans (hb1'.mono (by simp; omega));clear hb1';go_wp2_with fail
        go_ret
        rw [HEP.out];exact ⟨rfl, hw1⟩
    · have HU0 : Hid (upsErr e.up = 0) := by
       show _ = _;exact fnz_zero fun j hj => HK.out j (by omega)
      have HVC := Lib.hid (val_Check e.at_ aa ac wr hac1 hac2 hok ((HA.out.below hbw).more hbw.size));clear g2 f2;by_cases hve : valErr e.at_ = 0
      · have te : (valErr e.at_ != 0) = false := (by simp [hve]);have hne : e.at_ ≠ [] := by
         have := ((val_iff e.at_).1 hve).2;obtain ⟨x, r, hx, _⟩ := this.ne;rw [hx]; simp
        obtain ⟨x, xs, hxs⟩ : ∃ x xs, e.at_ = x :: xs := by
         cases hh : e.at_ with
         | nil => exact absurd hh hne
         | cons x xs => exact ⟨x, xs, rfl⟩
        obtain ⟨b2, o2, rfl, hb2, hcs⟩ := HA.out hne;have d0 := (hcs 0 x (by rw [hxs]; rfl)).c0;rw [Nat.zero_mul, Nat.add_zero] at d0;have HO : Hid (opH e.at_ = x.op) := (by show _ = _; rw [hxs]; rfl);have hl0 : 0 < e.at_.length := (by rw [hxs]; simp);have hl0' : (0 : Int) < (e.at_.length : Int) := (by omega);have HVE := Lib.hid hve;clear hcs hxs hve hne;go_wp2_with fail
        refine HVC.out.mono ?_;rintro r w1 ⟨rfl, hb1⟩;have hw1 : RowKit.Below w.heap.size w w1 := hbw.trans (hb1.mono (by omega));have e3 := (hb1.cell (p := ⟨w.heap.size, 3, none⟩) (by show w.heap.size < _; omega)).trans f3;have e0 := (hw1.cell (p := ⟨b2, o2, none⟩) hb2).trans d0;clear hb1 f3 d0 g3;by_cases h6 : x.op = 6
        · have t6 : (x.op != 6) = false := (by simp [h6]);have HR : Hid (v = 0) := (by show _ = _; rw [HE.out, HU0.out, HVE.out, HO.out]; simp [h6]);clear h6;go_wp2_with fail
          go_ret
          rw [HR.out];exact ⟨rfl, hw1⟩
        · have t6 : (x.op != 6) = true := (by simp [h6]);have HR : Hid (v = 2) := (by show _ = _; rw [HE.out, HU0.out, HVE.out, HO.out]; simp [h6]);clear h6;go_wp2_with fail
          go_ret
          rw [HR.out];exact ⟨rfl, hw1⟩
      · have te : (valErr e.at_ != 0) = true := (by simp [hve]);have HR : Hid (v = valErr e.at_) := (by show _ = _; rw [HE.out, HU0.out]; simp [hve]);clear hve;go_wp2_with fail
        refine HVC.out.mono ?_;rintro r w1 ⟨rfl, hb1⟩;have hw1 : RowKit.Below w.heap.size w w1 := hbw.trans (hb1.mono (by omega));clear hb1;go_wp2_with fail
        go_ret
        rw [HR.out];exact ⟨rfl, hw1⟩
end Go.Proofs.YtpheiojmcafolaaGreatDoor
namespace Go.Proofs.YtpheiojmcafolaaGreatDoor
set_option maxRecDepth 100000
open Go.RowKit Go.Sort
theorem abvF_cnt (es : List En) (k : Nat) : ∀ ps : List Ud, (∀ p ∈ ps, p ∈ es.flatMap En.up) → ∀ m : List Ud, (abvF es k m ps).length + unm es (abvF es k m ps) ≤ m.length + unm es m := by
 intro ps;induction ps with
 | nil => intro _ m; exact Nat.le_refl _
 | cons p ps ih =>
  intro hp m;have h1 := ih (fun q hq => hp q (by simp [hq])) (if p ∈ m then m else abv es k p (m ++ [p]));refine Nat.le_trans (by exact h1) ?_;split
  · exact Nat.le_refl _
  · rename_i hm;have h2 := abv_cnt es k p (m ++ [p]);have h3 := unm_lt (hp p (by simp)) hm;simp at h2;omega
set_option maxHeartbeats 3200000 in
theorem ent_stored (hs : List Eh) (A : Option Addr) (c : Nat) (w : World) (hl : hs.length ≤ 100) (hsl : EhSl w w.heap.size A hs) (hz : ∀ h ∈ hs, UdSm h.u) (hn : (hs.map Eh.u).Nodup) :
 Calls Tryz.prog 61 #[.slice A hs.length c] w fun r w' => ∃ b, r = .returned (.map (some b)) ∧ w.heap.size ≤ b ∧ StoAt w' b hs ∧ RowKit.Below w.heap.size w w' := by
 have hmm := @run_makeMap Tryz.prog;have HS := Lib.hid hsl;have HZ := Lib.hid hz;have HN := Lib.hid hn;have hw0 : RowKit.Below w.heap.size w (w.alloc (.map #[] 0)) := by (repeat (first | assumption | exact Below.refl _ _ | apply Below.drew | apply below_drewN | (refine Below.alloc ?_ (by first | exact Nat.le_refl _ | omega | (simp; done) | (simp; omega)) _)))
 have HST0 := Lib.hid (sto_made w);clear hsl hz hn;go_enter Tryz.func61, Tryz.ntmps61
 go_wp2_with fail
 go_loopw [9] (fun kk wr => ∃ k : Nat, kk = .int .i64 k ∧ k ≤ hs.length ∧ Hid (StoAt wr w.heap.size (hs.take k)) ∧ RowKit.Below w.heap.size w wr) (fun kk _ => hs.length - (intOf kk).toNat)
 case atStart => exact ⟨0, rfl, by omega, HST0.out, hw0⟩
 case round =>
  obtain ⟨k, rfl, hk, HST, hbr⟩ := hrel;have hzr := hbr.size;by_cases hlt : k < hs.length
  · obtain ⟨x, hx⟩ : ∃ x, hs[k]? = some x := ⟨_, List.getElem?_eq_getElem hlt⟩;obtain ⟨b1, o1, rfl, hb1, d0, d1, d2, d3⟩ := ehSl_at (HS.out.below hbr) hx;have hnm : x.u ∉ (hs.take k).map Eh.u := by
     have h1 := HN.out;rw [← List.take_append_drop k hs, List.map_append, List.nodup_append] at h1;intro hm;have h2 : x.u ∈ (hs.drop k).map Eh.u := List.mem_map.2 ⟨x, List.mem_of_getElem? (i := 0) (by rw [List.getElem?_drop]; exact hx), rfl⟩;exact h1.2.2 _ hm _ h2 rfl
    obtain ⟨w', hr, hst, hg⟩ := sto_put ((HST.out.kept (World.grownBy_alloc wr (.cells #[.string x.u.ty, .string x.u.id, .slice x.ua x.un x.uc, .slice x.aa x.an x.ac] 109) none) (by simp))) (HZ.out x (List.mem_of_getElem? hx)) hnm (by rw [List.length_take]; omega);have HST2 : Hid (StoAt w' w.heap.size (hs.take (k + 1))) := (by show StoAt _ _ _; rw [List.take_add_one, hx]; exact hst);have hb2 : RowKit.Below w.heap.size w w' := (hbr.alloc hzr _).grown hg (by simp; omega) (fun j hj => by injection hj with hj; omega);clear hst hg hx hnm;unfold ehW at hr;go_wp2_with fail
    exact ⟨⟨k + 1, by go_num, by omega, HST2, hb2⟩, by simp [intOf]; omega⟩
  · have HE : Hid (hs.take k = hs) := (by show _ = _; rw [List.take_of_length_le (by omega)]);rw [HE.out] at HST;go_wp2_with fail
    go_ret
    exact ⟨_, rfl, Nat.le_refl _, HST.out, hbr⟩
structure AbvIn (w : World) (B sb mb : Nat) (hs : List Eh) (es : List En) (met : List Ud) : Prop where
 sto : StoAt w sb hs
 met : MetAt w mb met
 ens : Ens w B hs es
 bs : B ≤ sb
 bm : B ≤ mb
 ne : sb ≠ mb
theorem below_of_grown {w w' : World} {B mb : Nat} (hg : w.grownBy w' (some mb)) (hB : B ≤ w.heap.size) (hm : B ≤ mb) : RowKit.Below B w w' :=
 ⟨hg.os, hg.tape, hg.output, hg.size, fun k hk => hg.block k (by omega) (by intro h; injection h with h; omega)⟩
theorem AbvIn.step {w w' : World} {B sb mb : Nat} {hs : List Eh} {es : List En} {met met' : List Ud} (h : AbvIn w B sb mb hs es met) (hg : w.grownBy w' (some mb)) (hm : MetAt w' mb met') : AbvIn w' B sb mb hs es met' :=
 ⟨h.sto.kept hg (by intro e; injection e with e; exact h.ne e), hm, h.ens.below (below_of_grown hg (by have := h.sto.lt; have := h.bs; omega) h.bm), h.bs, h.bm, h.ne⟩
def AbvOk (es : List En) (k : Nat) : Prop := ∀ (hs : List Eh) (u : Ud) (met : List Ud) (w : World) (B sb mb : Nat), AbvIn w B sb mb hs es met → UdSm u → unm es met < k → met.length + unm es met ≤ 1000 →
 Calls Tryz.prog 62 #[.map (some sb), .agg #[.string u.ty, .string u.id], .map (some mb)] w fun r w' => r = .returned (.tuple #[]) ∧ MetAt w' mb (abv es k u met) ∧ w.grownBy w' (some mb)
set_option maxHeartbeats 6400000 in
theorem above_step (es : List En) (hp : ∀ p ∈ es.flatMap En.up, UdSm p) (k : Nat) (ih : AbvOk es k) : AbvOk es (k + 1) := by
 intro hs u met w B sb mb hI hu hk hl;have hI0 : AbvIn (w.alloc (.cells #[.string u.ty, .string u.id] 34)) B sb mb hs es met := hI.step (World.grownBy_alloc _ _ _) (hI.met.kept (World.grownBy_alloc w (.cells #[.string u.ty, .string u.id] 34) none) (by simp));have hlook := sto_look hI0.sto hu;obtain ⟨e1, e2, e3, e4⟩ := ens_up hI.ens u;have HP : Hid (∀ p ∈ upOf es u, p ∈ es.flatMap En.up) := fun p hp => upOf_mem hp;have HA : Hid (abv es (k + 1) u met = abvF es k met (upOf es u)) := abv_succ es k u met;rw [HA.out];obtain ⟨⟨v0, ua, un, uc, aa, an, ac⟩, hh0⟩ : ∃ h0, atU hs u = h0 := ⟨_, rfl⟩;rw [hh0] at hlook e1 e2 e3 e4;simp only at e1 e2 e3 e4;subst e1;unfold ehW at hlook;simp only at hlook;generalize upOf es u = ps at *;have hfd : ∀ W : World, (Instr.field 109 (.agg #[.string v0.ty, .string v0.id, .slice ua ps.length uc, .slice aa an ac]) 1).run Tryz.prog W = .ok (.slice ua ps.length uc) W := fun _ => by kernel_rfl
 have HI := Lib.hid hI;have HU := Lib.hid e2;have HIH := Lib.hid ih;have HPP := Lib.hid hp;have hmb := hI.met.lt;have hbm := hI.bm;have hB : B ≤ w.heap.size := by have := hI.sto.lt; have := hI.bs; omega
 clear hI hI0 hh0 e2 ih hp HA;go_enter Tryz.func62, Tryz.ntmps62
 go_wp2_with fail
 go_loopw [13] (fun kk wr => ∃ j : Nat, kk = .int .i64 j ∧ j ≤ ps.length ∧ Hid (MetAt wr mb (abvF es k met (ps.take j))) ∧ Hid (w.grownBy wr (some mb))) (fun kk _ => ps.length - (intOf kk).toNat)
 case atStart => exact ⟨0, rfl, by omega, HI.out.met.kept (World.grownBy_alloc w _ none) (by simp), World.grownBy_alloc _ _ _⟩
 case round =>
  obtain ⟨j, rfl, hj, HM, HG⟩ := hrel;have hzr := HG.out.size;by_cases hlt : j < ps.length
  · obtain ⟨p, hp⟩ : ∃ p, ps[j]? = some p := ⟨_, List.getElem?_eq_getElem hlt⟩;obtain ⟨b1, o1, rfl, hb1, d0, d1⟩ := udSl_at (HU.out.below (below_of_grown HG.out hB hbm)) hp;have hpm := HP.out p (List.mem_of_getElem? hp);have HPS := HPP.out p hpm;have HT : Hid (ps.take (j + 1) = ps.take j ++ [p]) := (by show _ = _; rw [List.take_add_one, hp]; rfl);have HMK : Hid (∀ x ∈ met, x ∈ abvF es k met (ps.take j)) := abvF_more es k _ _;have HCN : Hid ((abvF es k met (ps.take j)).length + unm es (abvF es k met (ps.take j)) ≤ met.length + unm es met) := abvF_cnt es k _ (fun q hq => HP.out q (List.mem_of_mem_take hq)) met;have HSN : Hid (abvF es k met (ps.take (j + 1)) = if p ∈ abvF es k met (ps.take j) then abvF es k met (ps.take j) else abv es k p (abvF es k met (ps.take j) ++ [p])) := (by show _ = _; rw [HT.out, abvF_snoc]);have HSM := Lib.hid HPS;have HPM := Lib.hid hpm;clear HPS hpm hp HT;generalize abvF es k met (ps.take j) = m at HM HMK HCN HSN;have hM1 : MetAt (wr.alloc (.cells #[.string p.ty, .string p.id] 34)) mb m := HM.out.kept (World.grownBy_alloc wr _ none) (by simp);have hlk := met_look hM1 HSM.out;have HM1 := Lib.hid hM1;clear hM1;have HG1 : Hid (w.grownBy (wr.alloc (.cells #[.string p.ty, .string p.id] 34)) (some mb)) := HG.out.trans (World.grownBy_alloc _ _ _);by_cases hm : p ∈ m
    · rw [if_pos hm] at hlk;have HH := Lib.hid hm;clear hm;go_wp2_with fail
      refine ⟨⟨j + 1, by go_num, by omega, ?_, HG1⟩, by simp [intOf]; omega⟩;show MetAt _ _ _;rw [HSN.out, if_pos HH.out];exact HM1.out
    · rw [if_neg hm] at hlk;obtain ⟨w2, hr2, hM2, hg2⟩ := met_put HM1.out HSM.out (by have := HCN.out; omega);have hsz2 : wr.heap.size < w2.heap.size := (by have := hg2.size; simp at this; omega);have g0 : w2.cell? ⟨wr.heap.size, 0, none⟩ = some (.string p.ty) := by
       rw [World.cell?_of_block (hg2.block wr.heap.size (by simp) (by intro e; injection e with e; omega))];simp [World.cell?_alloc_new]
      have g1 : w2.cell? ⟨wr.heap.size, 1, none⟩ = some (.string p.id) := by
       rw [World.cell?_of_block (a := ⟨wr.heap.size, 1, none⟩) (hg2.block wr.heap.size (by simp) (by intro e; injection e with e; omega))];simp [World.cell?_alloc_new]
      have HG2 : Hid (w.grownBy w2 (some mb)) := HG1.out.trans hg2;have hun : unm es (m ++ [p]) < unm es m := unm_lt HPM.out hm;have hum : unm es m ≤ unm es met := unm_le HMK.out;have HC := Lib.hid (HIH.out hs p (m ++ [p]) w2 B sb mb (HI.out.step HG2.out hM2) HSM.out (by omega) (by have := HCN.out; simp; omega));have HH := Lib.hid hm;clear hm hg2 hM2 hun hum;go_wp2_with fail
      refine HC.out.mono ?_;rintro r w3 ⟨rfl, hM3, hg3⟩;have HM3 := Lib.hid hM3;have HG3 : Hid (w.grownBy w3 (some mb)) := HG2.out.trans hg3;clear hM3 hg3 hr2 g0 g1 hlk;go_wp2_with fail
      refine ⟨⟨j + 1, by go_num, by omega, ?_, HG3⟩, by simp [intOf]; omega⟩;show MetAt _ _ _;rw [HSN.out, if_neg HH.out];exact HM3.out
  · have HE : Hid (ps.take j = ps) := (by show _ = _; rw [List.take_of_length_le (by omega)]);rw [HE.out] at HM;go_wp2_with fail
    simp [bodyPost, results, Tryz.results62, go_sem];exact ⟨HM.out, HG.out⟩
theorem above_all (es : List En) (hp : ∀ p ∈ es.flatMap En.up, UdSm p) : ∀ k, AbvOk es k
 | 0 => fun _ _ _ _ _ _ _ _ _ h => by omega
 | k + 1 => above_step es hp k (above_all es hp k)
end Go.Proofs.YtpheiojmcafolaaGreatDoor
namespace Go.Proofs.YtpheiojmcafolaaGreatDoor
set_option maxRecDepth 100000
open Go.RowKit Go.Sort Go.Maps
structure EntsIn (w : World) (A : Option Addr) (hs : List Eh) (es : List En) : Prop where
 sl : EhSl w w.heap.size A hs
 ens : Ens w w.heap.size hs es
 uz : ∀ e ∈ es, UdOk e.u
 pz : ∀ e ∈ es, ∀ p ∈ e.up, UdOk p
 az : ∀ e ∈ es, NdOk e.at_
theorem EntsIn.later {w w' : World} {A : Option Addr} {hs : List Eh} {es : List En} (h : EntsIn w A hs es) (hb : RowKit.Below w.heap.size w w') : EntsIn w' A hs es :=
 ⟨h.sl.later hb, (h.ens.below hb).more hb.size, h.uz, h.pz, h.az⟩
theorem ens_us {w : World} {B : Nat} : ∀ {hs : List Eh} {es : List En}, Ens w B hs es → hs.map Eh.u = es.map En.u
 | [], [], _ => rfl
 | [], _ :: _, h => by have := h.len; simp at this
 | _ :: _, [], h => by have := h.len; simp at this
 | x :: hs, e :: es, h => by
  have h0 := h.at_ 0 x e rfl rfl;rw [List.map_cons, List.map_cons, ens_us h.tail, h0.u]
theorem anyU_mem (hs : List Eh) (u : Ud) : anyU hs u = decide (u ∈ hs.map Eh.u) := by
 unfold anyU;rw [Bool.eq_iff_iff];simp
theorem ens_any {w : World} {B : Nat} {hs : List Eh} {es : List En} (h : Ens w B hs es) (k : Nat) (u : Ud) : anyU (hs.take k) u = decide (u ∈ (es.take k).map En.u) := by
 rw [anyU_mem, List.map_take, List.map_take, ens_us h]
theorem sm_of_ok {u : Ud} (h : UdOk u) : UdSm u := ⟨by have := h.1; unfold maxLen; omega, by have := h.2; unfold maxLen; omega⟩
theorem entAt_eq {es : List En} {k : Nat} {e : En} (h : es[k]? = some e) : entAt es k = if udErr e.u ≠ 0 then udErr e.u else if e.u ∈ (es.take k).map En.u then 6 else entOne e := by unfold entAt; rw [h]
theorem entAt_zero {es : List En} {k : Nat} {e : En} (h : es[k]? = some e) (h0 : entAt es k = 0) : udErr e.u = 0 ∧ e.u ∉ (es.take k).map En.u ∧ entOne e = 0 := by
 rw [entAt_eq h] at h0;by_cases h1 : udErr e.u = 0
 · rw [if_neg (by simp [h1])] at h0;by_cases h2 : e.u ∈ (es.take k).map En.u
   · rw [if_pos h2] at h0; omega
   · rw [if_neg h2] at h0; exact ⟨h1, h2, h0⟩
 · rw [if_pos h1] at h0; exact absurd h0 h1
theorem ents_nodup {es : List En} : ∀ n, (∀ j, j < n → entAt es j = 0) → ((es.take n).map En.u).Nodup
 | 0, _ => by simp
 | n + 1, h => by
  have ih := ents_nodup n (fun j hj => h j (by omega));cases hx : es[n]? with
  | none => rw [List.take_add_one, hx]; simpa using ih
  | some e =>
   have := (entAt_zero hx (h n (by omega))).2.1;rw [List.take_add_one, hx, List.map_append, List.nodup_append];refine ⟨ih, by simp, ?_⟩;intro a ha b hb;simp at hb;subst hb;intro hab;subst hab;exact this ha
theorem entOne_up {e : En} (h : entOne e = 0) : e.up.length ≤ 6 := by
 unfold entOne at h;split at h
 · omega
 · omega
theorem udK_of {x : Ud} {kl : Lit} (h : keyOf Tryz.prog 34 (udV x) = some kl) : UdSm x ∧ kl = udK x := by
 obtain ⟨u, e, h1, h2⟩ := udV_inv h;have : x = u := by
  cases x; cases u
  simp [udV] at e;obtain ⟨rfl, rfl⟩ := e;rfl
 subst this;exact ⟨h1, h2⟩
set_option maxHeartbeats 6400000 in
theorem ent_Check (hs : List Eh) (es : List En) (A : Option Addr) (c : Nat) (w : World) (hI : EntsIn w A hs es) (hc : hs.length ≤ c) :
 Calls Tryz.prog 22 #[.slice A hs.length c] w fun r w' => r = .returned (errV (entErr es)) ∧ RowKit.Below w.heap.size w w' := by
 have hlen := hI.ens.len;obtain ⟨v, hv⟩ : ∃ v, entErr es = v := ⟨_, rfl⟩;rw [hv];have HV := Lib.hid hv;have HI := Lib.hid hI;clear hv hI;by_cases h16 : 16 < hs.length
 · have HE : Hid (v = 4) := by show _ = _; rw [← HV.out]; unfold entErr; rw [if_pos (by omega)]
   have t16 : decide ((16 : Int) < (hs.length : Int)) = true := by simp; omega
   clear hlen;go_enter Tryz.func22, Tryz.ntmps22
   go_wp2_with fail
   go_ret
   rw [HE.out];exact ⟨rfl, RowKit.Below.refl _ _⟩
 · have t16 : decide ((16 : Int) < (hs.length : Int)) = false := by simp; omega
   have HE : Hid (v = if fnz (entAt es) es.length ≠ 0 then fnz (entAt es) es.length else if cycB es = true then 7 else 0) := by
    show _ = _; rw [← HV.out]; unfold entErr; rw [if_neg (by omega)]
   have HLN := Lib.hid hlen;have h16' : hs.length ≤ 16 := by omega
   clear HV h16 hlen;have hmm := @run_makeMap Tryz.prog;go_enter Tryz.func22, Tryz.ntmps22
   go_wp2_with fail
   go_loopw [17] (fun kk wr => ∃ k : Nat, kk = .int .i64 k ∧ k ≤ hs.length ∧ Hid (∀ j, j < k → entAt es j = 0) ∧ RowKit.Below w.heap.size w wr) (fun kk _ => hs.length - (intOf kk).toNat)
   case atStart => exact ⟨0, rfl, by omega, by intro j hj; omega, RowKit.Below.refl _ _⟩
   case round =>
    obtain ⟨k, rfl, hk, HK, hbr⟩ := hrel;have hzr := hbr.size;by_cases hlt : k < hs.length
    · obtain ⟨⟨hu0, ua, un, uc, aa, an, ac⟩, hx⟩ : ∃ x, hs[k]? = some x := ⟨_, List.getElem?_eq_getElem hlt⟩;obtain ⟨e, he⟩ : ∃ e, es[k]? = some e := ⟨_, List.getElem?_eq_getElem (by have := HLN.out; omega)⟩;have hem := List.mem_of_getElem? he;have HIr := Lib.hid (HI.out.later hbr);obtain ⟨b1, o1, rfl, hb1, d0, d1, d2, d3⟩ := ehSl_at HIr.out.sl hx;have hue : hu0 = e.u := (HIr.out.ens.at_ k _ e hx he).u;subst hue;simp only at d0 d1 d2 d3;have HEA : Hid (entAt es k = if udErr e.u ≠ 0 then udErr e.u else if e.u ∈ (es.take k).map En.u then 6 else entOne e) := entAt_eq he;have HW := Lib.hid (fun W => name_Write e.u W (HI.out.uz e hem));have HOne := Lib.hid (fun W (hW : RowKit.Below wr.heap.size wr W) => ent_one ⟨e.u, ua, un, uc, aa, an, ac⟩ e W ((HIr.out.later hW).ens.at_ k _ e hx he) (HI.out.pz e hem) (HI.out.az e hem));have HCO := Lib.hid (fun W (hW : RowKit.Below wr.heap.size wr W) (b : Nat) (hcap : UCap e.u b W) => by
       have h := ent_contains e.u (hs.take k) (some ⟨b1, o1, none⟩) c b W hcap (by rw [List.length_take]; omega) ((HIr.out.later hW).sl.take k);rw [List.length_take, Nat.min_eq_left (by omega), ens_any HIr.out.ens] at h;exact h)
      have q : ∀ (W : World), (Instr.slice 42 (.slice (some ⟨b1, o1, none⟩) hs.length c) none (some (.int .i64 (k : Int))) none).run Tryz.prog W = .ok (.slice (some ⟨b1, o1, none⟩) k c) W := by
       intro W;go_simp
       intro h; omega
      have HX := Lib.hid hx;clear hx he hem;have hw1 : RowKit.Below wr.heap.size wr (wr.alloc (.cells #[.string e.u.ty, .string e.u.id, .slice ua un uc, .slice aa an ac] 109)) := (by (repeat (first | assumption | exact Below.refl _ _ | apply Below.drew | apply below_drewN | (refine Below.alloc ?_ (by first | exact Nat.le_refl _ | omega | (simp; done) | (simp; omega)) _))));by_cases hw0 : udErr e.u = 0
      · have te : (udErr e.u != 0) = false := (by simp [hw0]);have HEP := Lib.hid hw0;clear hw0;go_wp2_with fail
        refine (HW.out _).mono ?_;rintro r w1 ⟨rfl, hb1'⟩;obtain ⟨hcc1, -⟩ := bcell hb1';have hw2 : RowKit.Below wr.heap.size wr w1 := hw1.trans (hb1'.mono (by simp));have ev0 : w1.cell? ⟨wr.heap.size, 0, none⟩ = some (.string e.u.ty) := (by rw [hcc1 _ _ (by simp)]; simp [World.cell?_alloc_new]);have ev1 : w1.cell? ⟨wr.heap.size, 1, none⟩ = some (.string e.u.id) := (by rw [hcc1 _ _ (by simp)]; simp [World.cell?_alloc_new]);have ev2 : w1.cell? ⟨wr.heap.size, 2, none⟩ = some (.slice ua un uc) := (by rw [hcc1 _ _ (by simp)]; simp [World.cell?_alloc_new]);have ev3 : w1.cell? ⟨wr.heap.size, 3, none⟩ = some (.slice aa an ac) := (by rw [hcc1 _ _ (by simp)]; simp [World.cell?_alloc_new]);have hz1' : wr.heap.size < w1.heap.size := (by have := hb1'.size; simp at this; omega);have HCC := Lib.hid (HCO.out w1 hw2 wr.heap.size ⟨ev0, ev1, hz1'⟩);clear hb1' hcc1 d0 d1 d2 d3;by_cases hm : e.u ∈ (es.take k).map En.u
        · have hmd : decide (e.u ∈ (es.take k).map En.u) = true := (by simpa using hm);rw [hmd] at HCC;have HR : Hid (v = 6) := by
           have h1 : entAt es k = 6 := (by rw [HEA.out, if_neg (by simp [HEP.out]), if_pos hm]);have h2 : fnz (entAt es) es.length = 6 := (by rw [fnz_at (k := k) HK.out (by rw [h1]; omega) (by have := HLN.out; omega), h1]);show _ = _;rw [HE.out, h2]; rfl
          clear hm hmd;go_wp2_with fail
          refine HCC.out.mono ?_;rintro r w2 ⟨rfl, hb2⟩;have hw3 : RowKit.Below w.heap.size w w2 := (hbr.trans (hw2.mono hzr)).trans (hb2.mono (by have := hw2.size; omega));clear hb2;go_wp2_with fail
          go_ret
          rw [HR.out];exact ⟨rfl, hw3⟩
        · have hmd : decide (e.u ∈ (es.take k).map En.u) = false := (by simpa using hm);rw [hmd] at HCC;have HEB : Hid (entAt es k = entOne e) := (by show _ = _; rw [HEA.out, if_neg (by simp [HEP.out]), if_neg hm]);clear hm hmd;by_cases ho : entOne e = 0
          · have tne : (entOne e != 0) = false := (by simp [ho]);have HK2 : Hid (∀ j, j < k + 1 → entAt es j = 0) := by
             intro j hj;rcases Nat.lt_or_ge j k with h | h
             · exact HK.out j h
             · obtain rfl : j = k := (by omega);rw [HEB.out, ho]
            clear ho;go_wp2_with fail
            refine HCC.out.mono ?_;rintro r w2 ⟨rfl, hb2⟩;obtain ⟨hcc2, -⟩ := bcell hb2;have hw3 : RowKit.Below wr.heap.size wr w2 := hw2.trans (hb2.mono hw2.size);have ew0 := (hcc2 _ 0 hz1').trans ev0;have ew1 := (hcc2 _ 1 hz1').trans ev1;have ew2 := (hcc2 _ 2 hz1').trans ev2;have ew3 := (hcc2 _ 3 hz1').trans ev3;have HO2 := Lib.hid (HOne.out w2 hw3);clear hb2 hcc2 ev0 ev1 ev2 ev3;go_wp2_with fail
            refine HO2.out.mono ?_;rintro r w3 ⟨rfl, hb3⟩;have hw4 : RowKit.Below w.heap.size w w3 := (hbr.trans (hw3.mono hzr)).trans (hb3.mono (by have := hw3.size; omega));clear hb3 ew0 ew1 ew2 ew3;go_wp2_with fail
            exact ⟨⟨k + 1, by go_num, by omega, HK2, hw4⟩, by simp [intOf]; omega⟩
          · have tne : (entOne e != 0) = true := (by simp [ho]);have HR : Hid (v = entOne e) := by
             have h2 : fnz (entAt es) es.length = entOne e := (by rw [fnz_at (k := k) HK.out (by rw [HEB.out]; exact ho) (by have := HLN.out; omega), HEB.out]);show _ = _;rw [HE.out, h2, if_pos ho]
            clear ho;go_wp2_with fail
            refine HCC.out.mono ?_;rintro r w2 ⟨rfl, hb2⟩;obtain ⟨hcc2, -⟩ := bcell hb2;have hw3 : RowKit.Below wr.heap.size wr w2 := hw2.trans (hb2.mono hw2.size);have ew0 := (hcc2 _ 0 hz1').trans ev0;have ew1 := (hcc2 _ 1 hz1').trans ev1;have ew2 := (hcc2 _ 2 hz1').trans ev2;have ew3 := (hcc2 _ 3 hz1').trans ev3;have HO2 := Lib.hid (HOne.out w2 hw3);clear hb2 hcc2 ev0 ev1 ev2 ev3;go_wp2_with fail
            refine HO2.out.mono ?_;rintro r w3 ⟨rfl, hb3⟩;have hw4 : RowKit.Below w.heap.size w w3 := (hbr.trans (hw3.mono hzr)).trans (hb3.mono (by have := hw3.size; omega));clear hb3 ew0 ew1 ew2 ew3;go_wp2_with fail
            go_ret
            rw [HR.out];exact ⟨rfl, hw4⟩
      · have te : (udErr e.u != 0) = true := (by simp [hw0]);have HR : Hid (v = udErr e.u) := by
         have h1 : entAt es k = udErr e.u := (by rw [HEA.out, if_pos hw0]);have h2 : fnz (entAt es) es.length = udErr e.u := (by rw [fnz_at (k := k) HK.out (by rw [h1]; exact hw0) (by have := HLN.out; omega), h1]);show _ = _;rw [HE.out, h2, if_pos hw0]
        clear hw0;go_wp2_with fail
        refine (HW.out _).mono ?_;rintro r w1 ⟨rfl, hb1'⟩;have hw2 : RowKit.Below w.heap.size w w1 := (hbr.trans (hw1.mono hzr)).trans (hb1'.mono (by simp; omega));clear hb1';go_wp2_with fail
        go_ret
        rw [HR.out];exact ⟨rfl, hw2⟩
    · have HZ : Hid (∀ j, j < es.length → entAt es j = 0) := fun j hj => HK.out j (by have := HLN.out; omega);have HE2 : Hid (v = if cycB es = true then 7 else 0) := (by show _ = _; rw [HE.out, fnz_zero HZ.out]; rfl);have HIr := Lib.hid (HI.out.later hbr);have HND : Hid ((hs.map Eh.u).Nodup) := by
       have := ents_nodup es.length HZ.out;rw [List.take_of_length_le (Nat.le_refl _)] at this;show List.Nodup _;rw [ens_us HIr.out.ens]; exact this
      have HUP : Hid (∀ e ∈ es, e.up.length ≤ 6) := fun e he => by
       obtain ⟨i, hi⟩ := List.mem_iff_getElem?.1 he;exact entOne_up (entAt_zero hi (HZ.out i (List.getElem?_eq_some_iff.1 hi).1)).2.2
      have HSMS : Hid (∀ h ∈ hs, UdSm h.u) := fun h hh => by
       have h1 : h.u ∈ es.map En.u := (by rw [← ens_us HIr.out.ens]; exact List.mem_map.2 ⟨h, hh, rfl⟩);obtain ⟨e, he, h2⟩ := List.mem_map.1 h1;rw [← h2];exact sm_of_ok (HI.out.uz e he)
      have HST := Lib.hid (ent_stored hs A c wr (by omega) HIr.out.sl HSMS.out HND.out);clear HE;go_wp2_with fail
      refine HST.out.mono ?_;rintro r w1 ⟨sb, rfl, hsb, hst, hb1⟩;obtain ⟨D, hown, hok⟩ := hst;have HW1 := Lib.hid hb1;have HOK := Lib.hid hok;have hsb1 := hown.lt;clear hb1 hok;have hkinv : ∀ key kl, keyOf Tryz.prog 34 key = some kl → ∃ x : Ud, key = .agg #[.string x.ty, .string x.id] := fun key kl hk => by obtain ⟨u, e, _⟩ := udV_inv hk; exact ⟨u, e⟩
      have hvinv : ∀ v y, ehR v = some y → ∃ x : Eh, v = .agg #[.string x.u.ty, .string x.u.id, .slice x.ua x.un x.uc, .slice x.aa x.an x.ac] := fun v y hv => by obtain ⟨e, he, _⟩ := ehR_inv hv; exact ⟨e, he⟩
      have HKI := Lib.hid hkinv;have HVI := Lib.hid hvinv;clear hkinv hvinv;go_wp2_with (at_range; refine wpList_range_own _ rfl _ 116 rfl 34 109 ud_law Tryz.underlying116 ehR sb hs.length D rfl hown ?_; intro w2 hrg2 hg2 hs2)
      go_frame
      have hsz1 := HW1.out.size;have HR0 : Hid (∀ e ∈ es, Maps.has D (udK e.u) = true) := fun e he => by
       have h1 : e.u ∈ hs.map Eh.u := (by rw [ens_us HIr.out.ens]; exact List.mem_map.2 ⟨e, he, rfl⟩);rw [(HOK.out e.u (sm_of_ok (HI.out.uz e he))).1];simpa using h1
      have HW2 : Hid (RowKit.Below w1.heap.size w1 w2) := ⟨hg2.os, hg2.tape, hg2.output, hg2.size, fun k hk => hg2.block k hk (by simp)⟩;have hz2 : w2.heap.size = w1.heap.size + 1 := hs2;have hlt12 : w1.heap.size < w2.heap.size := (by omega);clear hs2 hg2 hz2;obtain ⟨r, hr⟩ : ∃ r, w1.heap.size = r := ⟨_, rfl⟩;have HRR := Lib.hid hr;rw [hr] at hrg2 ⊢;clear hr;obtain ⟨wz, rfl⟩ : ∃ wz : World, wz = wr := ⟨_, rfl⟩;go_loopw [10] (fun _ wo => ∃ left cnt, wo.ranges Tryz.prog 34 ehR sb r hs.length D left cnt ∧ Hid (∀ e ∈ es, left (udK e.u) = false → e.u ∉ abv es 100 e.u []) ∧ Hid (RowKit.Below w1.heap.size w1 wo)) (fun _ wo => wo.rangeLeft sb r)
      case atStart =>
       exact ⟨_, _, hrg2, (fun e he h => by rw [HR0.out e he] at h; exact absurd h (by simp) : ∀ e ∈ es, Maps.has D (udK e.u) = false → e.u ∉ abv es 100 e.u []), HW2.out⟩
      case round =>
       obtain ⟨left, cnt, hrg, HL, HB⟩ := hrel;have HRG := Lib.hid hrg;have hzo := HB.out.size;clear hrg;have hor : r < wr.heap.size := HRG.out.lt;go_wp2_with (at_next; refine wpList_next_ranges _ rfl _ rfl 34 ud_law ehR (fun x : Ud => .agg #[.string x.ty, .string x.id]) (fun x : Eh => .agg #[.string x.u.ty, .string x.u.id, .slice x.ua x.un x.uc, .slice x.aa x.an x.ac]) HKI.out HVI.out sb r hs.length D left cnt rfl HRG.out ?_ ?_)
       · intro hc0 hl0;have HCY : Hid (cycB es = false) := by
          show _ = _;unfold cycB;rw [List.any_eq_false];intro e he;simpa using HL.out e he (hl0 _)
         clear hl0 hc0;go_wp2_with fail
         go_ret
         rw [HE2.out, HCY.out];exact ⟨rfl, hbr.trans ((HW1.out.trans (HB.out.mono hsz1)).mono hzr)⟩
       · intro x ce kl yd yp w3 cnt3 hkey hlk hv hat hrg3 hlt3 hg3 hs3 hen;obtain ⟨hsm, rfl⟩ := udK_of hkey;have hxm : x ∈ es.map En.u := by
          have h1 := Maps.has_true_of_atKey hat;rw [(HOK.out x hsm).1] at h1;rw [← ens_us HIr.out.ens];simpa using h1
         have hb3 : RowKit.Below w1.heap.size w1 w3 := HB.out.grown hg3 hzo (fun j hj => by injection hj with hj; have := HRR.out; omega);have HXM := Lib.hid hxm;have HSX := Lib.hid hsm;have HLK := Lib.hid hlk;have HB3 := Lib.hid hb3;have HRG3 := Lib.hid hrg3;have HLT := Lib.hid hlt3;have hsz3 : r < w3.heap.size := hrg3.lt;have hsb3 : sb < w3.heap.size := hrg3.owns.lt;clear hkey hlk hv hat hrg3 hlt3 hg3 hs3 hxm hsm hb3;have HBW : Hid (RowKit.Below w.heap.size w ((w3.alloc (.cells #[.string x.ty, .string x.id] 34)).alloc (.map #[] 0))) := by
          have h3 : RowKit.Below w.heap.size w w3 := hbr.trans ((HW1.out.trans (HB3.out.mono hsz1)).mono hzr);have := h3.size;show RowKit.Below _ _ _;(repeat (first | assumption | exact Below.refl _ _ | apply Below.drew | apply below_drewN | (refine Below.alloc ?_ (by first | exact Nat.le_refl _ | omega | (simp; done) | (simp; omega)) _)))
         have HM0 : Hid (MetAt ((w3.alloc (.cells #[.string x.ty, .string x.id] 34)).alloc (.map #[] 0)) (w3.heap.size + 1) []) := by
          have := met_made (w3.alloc (.cells #[.string x.ty, .string x.id] 34));rwa [World.size_alloc] at this
         have HUM : Hid (unm es [] ≤ 96) := unm_small (by have := HLN.out; omega) HUP.out [];have hzw : w.heap.size ≤ wz.heap.size := hzr;have HC := Lib.hid (above_all es (fun p hp => by obtain ⟨e, he, h⟩ := List.mem_flatMap.1 hp; exact sm_of_ok (HI.out.pz e he p h)) 100 hs x [] _ w.heap.size sb (w3.heap.size + 1)
          ⟨⟨D, (HRG3.out.owns.alloc _).alloc _, HOK.out⟩, HM0.out, HI.out.ens.below HBW.out, by omega, by have := HBW.out.size; simp at this; omega, by omega⟩ HSX.out (by have := HUM.out; omega) (by have := HUM.out; simp; omega))
         have g0 : ((w3.alloc (.cells #[.string x.ty, .string x.id] 34)).alloc (.map #[] 0)).cell? ⟨w3.heap.size, 0, none⟩ = some (.string x.ty) := by
          rw [World.cell?_alloc_lt _ _ ⟨w3.heap.size, 0, none⟩ (by simp)]; simp [World.cell?_alloc_new]
         have g1 : ((w3.alloc (.cells #[.string x.ty, .string x.id] 34)).alloc (.map #[] 0)).cell? ⟨w3.heap.size, 1, none⟩ = some (.string x.id) := by
          rw [World.cell?_alloc_lt _ _ ⟨w3.heap.size, 1, none⟩ (by simp)]; simp [World.cell?_alloc_new]
         have HRG4 : Hid (((w3.alloc (.cells #[.string x.ty, .string x.id] 34)).alloc (.map #[] 0)).ranges Tryz.prog 34 ehR sb r hs.length D (fun z => left z && !z.sameKey (udK x)) cnt3) := (HRG3.out.alloc _).alloc _;have HLE : Hid (wr.rangeLeft sb r = cnt) := HRG.out.left_eq;go_wp2_with fail
         refine HC.out.mono ?_;rintro rr w4 ⟨rfl, hM4, hg4⟩;have k0 : w4.cell? ⟨w3.heap.size, 0, none⟩ = some (.string x.ty) := by
          rw [World.cell?_of_block (a := ⟨w3.heap.size, 0, none⟩) (hg4.block w3.heap.size (by simp; omega) (by intro e; injection e with e; omega))]; exact g0
         have k1 : w4.cell? ⟨w3.heap.size, 1, none⟩ = some (.string x.id) := by
          rw [World.cell?_of_block (a := ⟨w3.heap.size, 1, none⟩) (hg4.block w3.heap.size (by simp; omega) (by intro e; injection e with e; omega))]; exact g1
         have hlk4 := met_look hM4 HSX.out;have HRG5 : Hid (w4.ranges Tryz.prog 34 ehR sb r hs.length D (fun z => left z && !z.sameKey (udK x)) cnt3) := HRG4.out.kept hg4 (by intro e; injection e with e; omega) (by intro e; injection e with e; omega);have HB4 : Hid (RowKit.Below w1.heap.size w1 w4) := by
          have h3 := HB3.out;have h5 := h3.size;exact RowKit.Below.grown (w := (w3.alloc (.cells #[.string x.ty, .string x.id] 34)).alloc (.map #[] 0)) (by (repeat (first | assumption | exact Below.refl _ _ | apply Below.drew | apply below_drewN | (refine Below.alloc ?_ (by first | exact Nat.le_refl _ | omega | (simp; done) | (simp; omega)) _)))) hg4 (by simp; omega) (fun j hj => by injection hj with hj; omega)
         clear hM4 hg4 g0 g1 HC;by_cases hm : x ∈ abv es 100 x []
         · rw [if_pos hm] at hlk4;have HCY : Hid (cycB es = true) := by
            obtain ⟨e, he, h2⟩ := List.mem_map.1 HXM.out;subst h2;exact List.any_eq_true.2 ⟨e, he, by simpa using hm⟩
           clear hm;go_wp2_with fail
           go_ret
           rw [HE2.out, HCY.out];exact ⟨rfl, hbr.trans ((HW1.out.trans (HB4.out.mono hsz1)).mono hzr)⟩
         · rw [if_neg hm] at hlk4;have HL2 : Hid (∀ e ∈ es, (left (udK e.u) && !(udK e.u).sameKey (udK x)) = false → e.u ∉ abv es 100 e.u []) := by
            intro e he h;cases hl : left (udK e.u) with
            | false => exact HL.out e he hl
            | true =>
             rw [hl] at h;have h2 : (udK e.u).sameKey (udK x) = true := (by simpa using h);have h3 := udK_inj (sm_of_ok (HI.out.uz e he)) HSX.out (WideAt.sameKey_eq h2);rw [h3]; exact hm
           clear hm;go_wp2_with fail
           exact ⟨⟨_, _, HRG5.out, HL2, HB4⟩, by rw [HRG5.out.left_eq, HLE.out]; exact HLT.out⟩
end Go.Proofs.YtpheiojmcafolaaGreatDoor
namespace Go.Proofs.YtpheiojmcafolaaGreatDoor
open Go.RowKit Go.Sort
def NdOff (g : Nat → Prop) (w : World) (B : Nat) (A : Option Addr) (xs : List Nd) : Prop :=
 xs ≠ [] → ∃ b o, A = some ⟨b, o, none⟩ ∧ b < B ∧ ¬ g b ∧ ∀ i x, xs[i]? = some x → NdAt w b (o + i * 4) x
theorem NdOff.sl {g : Nat → Prop} {w : World} {B : Nat} {A : Option Addr} {xs : List Nd} (h : NdOff g w B A xs) : NdSl w B A xs := fun hne => by
 obtain ⟨b, o, e, h1, _, h3⟩ := h hne;exact ⟨b, o, e, h1, h3⟩
theorem NdSl.off {g : Nat → Prop} {w : World} {B B' : Nat} {A : Option Addr} {xs : List Nd} (h : NdSl w B A xs) (hB : ∀ b, g b → B ≤ b) (hB' : B ≤ B') : NdOff g w B' A xs := fun hne => by
 obtain ⟨b, o, e, h1, h3⟩ := h hne;exact ⟨b, o, e, by omega, fun hg => by have := hB b hg; omega, h3⟩
theorem NdOff.keep {g : Nat → Prop} {w w' : World} {B B' : Nat} {A : Option Addr} {xs : List Nd} (h : NdOff g w B A xs) (hk : ∀ p : Addr, p.block < B → ¬ g p.block → w'.cell? p = w.cell? p) (hB : B ≤ B') : NdOff g w' B' A xs := fun hne => by
 obtain ⟨b, o, e, h1, h2, h3⟩ := h hne;exact ⟨b, o, e, by omega, h2, fun i x hx => by
  obtain ⟨q0, q1, q2, q3⟩ := h3 i x hx;exact ⟨(hk _ h1 h2).trans q0, (hk _ h1 h2).trans q1, (hk _ h1 h2).trans q2, (hk _ h1 h2).trans q3⟩⟩
theorem nd_info : (Tryz.prog.info? 37).map (fun i => (i.zero, i.size, i.bytes)) = some (some (.agg #[.int .i64 0, .int .i64 0, .string ⟨#[]⟩, .string ⟨#[]⟩]), 4, 48) := by kernel_rfl
structure NsM where
 A : Option Addr
 c : Nat
 e : List Nd
def NsM.cells (x : NsM) : List Value := [.slice x.A x.e.length x.c]
theorem ns_ok : EncOk NsM.cells 1 := ⟨fun _ => rfl, by omega, fun x u hu => by
 simp only [NsM.cells, List.mem_cons, List.not_mem_nil, or_false] at hu;subst hu; rfl⟩
abbrev NsSl := SlG NsM.cells 1
structure NsGood (w : World) (B : Nat) (x : NsM) : Prop where
 sl : NdSl w B x.A x.e
 le : x.e.length ≤ x.c
 max : x.c ≤ 9223372036854775807
theorem NsGood.later {w w' : World} {x : NsM} (h : NsGood w w.heap.size x) (hb : Below w.heap.size w w') : NsGood w' w'.heap.size x := ⟨(h.sl.below hb).more hb.size, h.le, h.max⟩
structure NssAt (w : World) (A : Option Addr) (ps : List NsM) : Prop where
 sl : NsSl w w.heap.size A ps
 good : ∀ x ∈ ps, NsGood w w.heap.size x
theorem NssAt.later {w w' : World} {A : Option Addr} {ps : List NsM} (h : NssAt w A ps) (hb : Below w.heap.size w w') : NssAt w' A ps :=
 ⟨h.sl.later hb, fun x hx => (h.good x hx).later hb⟩
theorem nsSl_at {w : World} {B : Nat} {A : Option Addr} {xs : List NsM} (h : NsSl w B A xs) {i : Nat} {x : NsM} (hx : xs[i]? = some x) : ∃ b o, A = some ⟨b, o, none⟩ ∧ b < B ∧ w.cell? ⟨b, o + i, none⟩ = some (.slice x.A x.e.length x.c) := by
 obtain ⟨b, o, h1, h2, h3⟩ := h.at_ (List.getElem?_eq_some_iff.1 hx).1;have := h3 i x hx 0 _ rfl;rw [Nat.mul_one, Nat.add_zero] at this;exact ⟨b, o, h1, h2, this⟩
def catN (ps : List NsM) : List Nd := ps.flatMap NsM.e
theorem catN_step {ps : List NsM} {k : Nat} {p : NsM} (h : ps[k]? = some p) : catN (ps.take (k + 1)) = catN (ps.take k) ++ p.e := by
 unfold catN;rw [List.take_add_one, h, List.flatMap_append]; simp
theorem catN_le {ps : List NsM} (k : Nat) : (catN (ps.take k)).length ≤ (catN ps).length := by
 conv => rhs; rw [← List.take_append_drop k ps]
 unfold catN;rw [List.flatMap_append, List.length_append]; omega
end Go.Proofs.YtpheiojmcafolaaGreatDoor
namespace Go.Proofs.YtpheiojmcafolaaGreatDoor
set_option maxRecDepth 100000
open Go.RowKit
theorem eqn_nd (x y : Nd) (w : World) : (Op.equalIn 10000 37 (.agg #[.int .i64 x.op, .int .i64 x.n, .string x.s, .string x.t]) (.agg #[.int .i64 y.op, .int .i64 y.n, .string y.s, .string y.t])).run Tryz.prog w = .ok (decide (x = y)) w := by
 have u3 := Tryz.underlying9;have a3 := Tryz.isAgg9;have z3 := Tryz.sizeOf9;have u4 := Tryz.underlying3;have a4 := Tryz.isAgg3;have z4 := Tryz.sizeOf3;have hS : Tryz.prog.underlying 37 = some (.struct (Tryz.prog.fieldsOf 37)) := by kernel_rfl
 have hp : Tryz.prog.stoodInHeld 37 = false := by kernel_rfl
 rw [show (10000 : Nat) = 9999 + 1 from rfl, run_equalIn_agg w 9999 37 _ _ hS hp];simp only [Program.fieldsOf, Tryz.underlying37];go_simp
 obtain ⟨a, b, s, l⟩ := x;obtain ⟨a', b', s', l'⟩ := y;by_cases h0 : a = a' <;> by_cases h3 : b = b' <;> by_cases h1 : s = s' <;> by_cases h2 : l = l' <;> simp [bs_same, h0, h1, h2, h3]
theorem neq_nd (x y : Nd) (w : World) : (binOp .neq 37 (.agg #[.int .i64 x.op, .int .i64 x.n, .string x.s, .string x.t]) (.agg #[.int .i64 y.op, .int .i64 y.n, .string y.s, .string y.t])).run Tryz.prog w = .ok (.bool (!decide (x = y))) w := by
 rw [run_neq_struct, eqn_nd]; rfl
end Go.Proofs.YtpheiojmcafolaaGreatDoor
namespace Go.Proofs.YtpheiojmcafolaaGreatDoor
open Go.RowKit
set_option maxRecDepth 100000 in
set_option maxHeartbeats 3200000 in
theorem clone_nodes (e : List Nd) (A : Option Addr) (c : Nat) (w : World) (hsl : NdSl w w.heap.size A e) (hl : e.length ≤ 200) :
 Calls Tryz.prog 77 #[.slice A e.length c] w fun r w' => ∃ A' c', r = .returned (.slice A' e.length c') ∧ e.length ≤ c' ∧ c' ≤ 9223372036854775807 ∧ (∀ g : Nat → Prop, (∀ b, g b → b < w.heap.size) → NdOff g w' w'.heap.size A' e) ∧ Below w.heap.size w w' := by
 have q : ∀ (w : World) (a : Option Addr) (n c n' c' : Nat), (binOp .eql 22 (.slice a n c) (.slice none n' c')).run Tryz.prog w = .ok (.bool a.isNone) w := fun w a n c n' c' => Lib.run_eql_slice_nil w _ _ a n c n' c' Tryz.underlying22;obtain ⟨i0, hi, hz0, hz1, hz2⟩ := info_parts nd_info;cases A with
 | none =>
  have he : e = [] := by
   cases e with
   | nil => rfl
   | cons x r => obtain ⟨b, o, h, _⟩ := hsl (List.cons_ne_nil _ _); cases h
  subst he;go_enter Tryz.func77, Tryz.ntmps77
  go_wp2_with fail
  go_ret
  exact ⟨none, 0, rfl, Nat.le_refl _, by omega, fun g _ h => absurd rfl h, Below.refl _ _⟩
 | some a =>
  have hcells : ∀ j u, (flat e)[j]? = some u → (w.alloc (.cells #[] 37)).cell? (a.add j) = some u := by
   intro j u hu;have hne : e ≠ [] := (by rintro rfl; simp [flat] at hu);obtain ⟨b, o, h1, h2, _⟩ := hsl hne;injection h1 with h1
   subst h1;exact NdSl.flat_alloc hsl h2 _ j u hu
  have HC := Lib.hid hcells;clear hcells hsl;go_enter Tryz.func77, Tryz.ntmps77
  go_wp2_with (at_builtin; refine wpList_append_own _ rfl (.tmp 5) (.tmp 6) 22 rfl w.heap.size 37 i0 _ 4 48 Tryz.underlying22 hi hz0 hz1 hz2 rfl (by omega) _ _ _ rfl (World.ownsRow_made w #[] 0 (Nat.le_refl _) (Nat.zero_le _) (by simp)) a e.length c (flat e) rfl (flat_len e) HC.out (flat_one_cell e) (by unfold maxLen; omega) (by omega) (by simp) ?_)
  intro v' w1 hown hgrow hnil;go_wp2_with fail
  go_ret
  have hown : w1.ownsRow w.heap.size 37 4 v' e.length (flat e) := by simpa using hown
  have hbel : Below w.heap.size w w1 := ((Below.refl _ w).alloc (Nat.le_refl _) _).grown hgrow (by simp) (by intro k hk; simp [Value.ownBlock] at hk; omega);rcases hown.2 with ⟨hv, h0⟩ | ⟨g, cap, cur, hv, hb, hg, hnc, hcm, hcs, htk⟩
  · have : e = [] := List.eq_nil_of_length_eq_zero h0;subst this;exact ⟨none, 0, by rw [hv]; rfl, Nat.le_refl _, by omega, fun g _ h => absurd rfl h, hbel⟩
  · unfold maxLen at hcm;refine ⟨some ⟨g, 0, none⟩, cap, by rw [hv]; rfl, hnc, hcm, fun g' hg' => ?_, hbel⟩;have hs : NdSl w1 w1.heap.size (some ⟨g, 0, none⟩) e := NdSl.of_flat (Array.getElem?_eq_some_iff.1 hg).1 fun j u hu => by
     have hj : j < e.length * 4 := (by have := (List.getElem?_eq_some_iff.1 hu).1; rw [flat_len] at this; omega);subst hv;exact (hown.cellAt j hj).trans hu
    intro hne;obtain ⟨b, o, h1, h2, h3⟩ := hs hne;injection h1 with h1
    injection h1 with h4 h5
    subst h4 h5;exact ⟨g, 0, rfl, h2, fun hg => by have := hg' g hg; omega, h3⟩
end Go.Proofs.YtpheiojmcafolaaGreatDoor
