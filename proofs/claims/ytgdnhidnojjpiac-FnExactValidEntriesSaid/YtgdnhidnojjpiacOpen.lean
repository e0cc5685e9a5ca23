/- How an argument that is a slice of structs of whole numbers lies in memory, and a struct of a slice of whole numbers and a whole number. Conditions: the argument reads as data. (open_slice_fields: to be copied from the kit's page on structs, as that page says.) -/
import Derived.Deep.Slices
import Derived.Deep.Fields
import Derived.ChangeSame
import Derived.ProofKit
import Derived.OpenShut
import Derived.Lib.SmallJoins
import Derived.Test.YtgdnhidnojjpiacWWords
import Derived.Test.YtgdnhidnojjpiacWSized
namespace Go.Proofs.Ytgdnhidnojjpiac.Open
open Go.ChangeShapes Go.WideShapes Go.Deep Go.RowKit Go.Joins Go.Proofs.YtgdnhidnojjpiacW.PrintWords
section
variable {H : Type} {enc : TypeId × Value → H} {P : Program} {w : World} {base : Nat} {spare : Nat → Bool} {held : Bool}
theorem open_slice_fields {t e : TypeId} {fs : Array Field} {fuel : Nat} {cs : List Value} {x : DataW H × List MemPlace} (ht : P.underlying t = some (.slice e)) (he : P.underlying e = some (.struct fs))
    (hone : oneCellFields P fs = true) (hC : P.cellsOf e = fs.size) (h : DataW.trod enc P w base spare held fuel t cs = some x) :
    (cs = [.slice none 0 0] ∧ x = (.nil, [])) ∨
    ∃ (a : Addr) (len cap m : Nat) (D : Nat → DataW H) (Pl : Nat → List MemPlace), cs = [.slice (some a) len cap] ∧ base ≤ a.block ∧ len ≤ cap ∧ cap ≤ maxLen ∧ m = (if spare a.block then cap else len) ∧
      x = (.slice ((List.range len).map D) ((List.range (m - len)).map fun j => D (len + j)), MemPlace.row a (m * fs.size) ++ (List.range m).flatMap Pl) ∧
      ∀ i, i < m → ∃ (ys : List (DataW H × List MemPlace)) (n : Nat), D i = .agg (ys.map (·.1)) ∧ Pl i = ys.flatMap (·.2) ∧ ys.length = fs.size ∧
        ∀ (j : Nat) (f : Field), fs[j]? = some f → ∃ (v : Value) (y : DataW H × List MemPlace), w.cell? (a.add (i * fs.size + j)) = some v ∧ ys[j]? = some y ∧ DataW.trod enc P w base spare held n f.type [v] = some y := by
  rcases open_slice ht h with h0 | ⟨a, len, cap, m, n, D, Pl, hcs, hb, hl, hm, hmm, hx, hi⟩
  · exact .inl h0
  · refine .inr ⟨a, len, cap, m, D, Pl, hcs, hb, hl, hm, hmm, by rw [hC] at hx; exact hx, fun i him => ?_⟩
    obtain ⟨cs', hc, ht'⟩ := hi i him
    rw [hC] at hc
    obtain ⟨ys, n', hn', hy, hlen, hyl, hf⟩ := DataW.trod_struct he ht'
    obtain ⟨_, hcl, hat⟩ := World.cells?_some hc
    simp only [Prod.mk.injEq] at hy
    refine ⟨ys, n', hy.1, hy.2, hyl, fun j f hj => ?_⟩
    obtain ⟨ho, hk⟩ := hone_of hone j f hj
    have hjl : j < fs.size := (Array.getElem?_eq_some_iff.1 hj).1
    have hcell := hat j hjl
    have hv : cs'[j]? = some (cs'[j]'(by omega)) := List.getElem?_eq_getElem (by omega)
    have h1 := hf j f hj
    rw [ho, hk] at h1
    have hone' : (cs'.drop j).take 1 = [cs'[j]'(by omega)] := by
      rw [List.drop_eq_getElem_cons (by omega)]
      rfl
    rw [hone'] at h1
    have hys : ys[j]? = some (ys[j]'(by omega)) := List.getElem?_eq_getElem (by omega)
    refine ⟨_, _, ?_, hys, h1.trans hys⟩
    rw [← Go.Deep.add_add, hcell, hv]

/-- a list of what is there for each place -/
theorem collect {α : Type} {R : Nat → α → Prop} : ∀ n : Nat, (∀ i, i < n → ∃ x, R i x) → ∃ xs : List α, xs.length = n ∧ ∀ i x, xs[i]? = some x → R i x
  | 0, _ => ⟨[], rfl, fun i x h => by simp at h⟩
  | n + 1, h => by
    obtain ⟨xs, hl, hx⟩ := collect n (fun i hi => h i (by omega))
    obtain ⟨x, hr⟩ := h n (by omega)
    refine ⟨xs ++ [x], by simp [hl], fun i y hy => ?_⟩
    by_cases c : i < n
    · rw [List.getElem?_append_left (by omega)] at hy
      exact hx i y hy
    · have hi : i = n := by
        have := (List.getElem?_eq_some_iff.1 hy).1
        simp at this
        omega
      subst hi
      rw [List.getElem?_append_right (by omega), hl] at hy
      simp at hy
      subst hy
      exact hr
/-- a slice of structs of whole numbers: each element's cells -/
theorem open_int_structs {t e : TypeId} {fs : Array Field} {a0 : Option Addr} {len cap : Nat} {d : DataW H} {p : List MemPlace} (ht : P.underlying t = some (.slice e)) (he : P.underlying e = some (.struct fs))
    (hone : oneCellFields P fs = true) (hC : P.cellsOf e = fs.size) (hint : ∀ (j : Nat) (f : Field), fs[j]? = some f → P.underlying f.type = some (.int .i64))
    (h : DataW.Trod enc P w base spare held t (.slice a0 len cap) d p) :
    len ≤ cap ∧ len ≤ maxLen ∧ (0 < len → ∃ a, a0 = some a) ∧ ∀ a, a0 = some a → ∀ i, i < len → ∃ ns : Nat → Int, ∀ j, j < fs.size → w.cell? (a.add (i * fs.size + j)) = some (.int .i64 (ns j)) := by
  obtain ⟨fuel, hf⟩ := h
  rcases open_slice_fields ht he hone hC hf with ⟨hcs, _⟩ | ⟨a, l, c, m, D, Pl, hcs, _, hl, hm, hmm, _, hi⟩
  · simp [Value.cells] at hcs
    obtain ⟨rfl, rfl, rfl⟩ := hcs
    exact ⟨Nat.le_refl _, Nat.zero_le _, fun h => by omega, fun a h => by cases h⟩
  · simp [Value.cells] at hcs
    obtain ⟨rfl, rfl, rfl⟩ := hcs
    refine ⟨hl, Nat.le_trans hl hm, fun _ => ⟨a, rfl⟩, fun a' ha i hil => ?_⟩
    obtain rfl : a = a' := Option.some.inj ha
    obtain ⟨ys, n, _, _, _, hfl⟩ := hi i (by rw [hmm]; split <;> omega)
    have hex : ∀ j : Nat, ∃ z : Int, j < fs.size → w.cell? (a.add (i * fs.size + j)) = some (.int .i64 z) := by
      intro j
      by_cases hj : j < fs.size
      · obtain ⟨v, y, hcell, _, hty⟩ := hfl j fs[j] (Array.getElem?_eq_getElem hj)
        obtain ⟨z, hz, _, _⟩ := DataW.trod_int (hint j fs[j] (Array.getElem?_eq_getElem hj)) hty
        exact ⟨z, fun _ => by rw [hcell]; simpa using hz⟩
      · exact ⟨0, fun h => absurd h hj⟩
    exact ⟨fun j => Classical.choose (hex j), fun j hj => Classical.choose_spec (hex j) hj⟩
/-- .. as a row of records of two, or of four, whole numbers -/
theorem row2 {α : Type} (k : Kd α) (mk : Int → Int → α) (hsz : k.sz = 2) (hK : ∀ (w : World) (x y : Int), k.K w (mk x y) [.int .i64 x, .int .i64 y])
    {A : Option Addr} {len : Nat} (hm : len ≤ maxLen) (h0 : 0 < len → ∃ a, A = some a) (hc : ∀ a, A = some a → ∀ i, i < len → ∃ ns : Nat → Int, ∀ j, j < 2 → w.cell? (a.add (i * 2 + j)) = some (.int .i64 (ns j))) :
    ∃ xs : List α, xs.length = len ∧ k.C w A xs.length xs := by
  have hex : ∀ i, i < len → ∃ x : α, ∃ u v : Int, x = mk u v ∧ ∀ a, A = some a → w.cell? (a.add (i * 2 + 0)) = some (.int .i64 u) ∧ w.cell? (a.add (i * 2 + 1)) = some (.int .i64 v) := by
    intro i hi
    obtain ⟨a, ha⟩ := h0 (by omega)
    obtain ⟨ns, hn⟩ := hc a ha i hi
    refine ⟨mk (ns 0) (ns 1), ns 0, ns 1, rfl, fun a' ha' => ?_⟩
    obtain rfl : a = a' := Option.some.inj (ha.symm.trans ha')
    exact ⟨hn 0 (by omega), hn 1 (by omega)⟩
  obtain ⟨xs, hl, hx⟩ := collect len hex
  refine ⟨xs, hl, rfl, by rw [hl]; exact hm, fun hpos => ?_⟩
  obtain ⟨a, ha⟩ := h0 (by omega)
  refine ⟨a, ha, fun j p hj => ?_⟩
  obtain ⟨u, v, rfl, hcell⟩ := hx j p hj
  obtain ⟨c0, c1⟩ := hcell a ha
  refine ⟨[.int .i64 u, .int .i64 v], by rw [hsz]; rfl, hK w u v, fun i z hz => ?_⟩
  rw [hsz]
  match i, hz with
  | 0, hz => obtain rfl := Option.some.inj hz; exact c0
  | 1, hz => obtain rfl := Option.some.inj hz; exact c1
theorem row4 {α : Type} (k : Kd α) (mk : Int → Int → Int → Int → α) (hsz : k.sz = 4) (hK : ∀ (w : World) (x y z u : Int), k.K w (mk x y z u) [.int .i64 x, .int .i64 y, .int .i64 z, .int .i64 u])
    {A : Option Addr} {len : Nat} (hm : len ≤ maxLen) (h0 : 0 < len → ∃ a, A = some a) (hc : ∀ a, A = some a → ∀ i, i < len → ∃ ns : Nat → Int, ∀ j, j < 4 → w.cell? (a.add (i * 4 + j)) = some (.int .i64 (ns j))) :
    ∃ xs : List α, xs.length = len ∧ k.C w A xs.length xs := by
  have hex : ∀ i, i < len → ∃ x : α, ∃ n0 n1 n2 n3 : Int, x = mk n0 n1 n2 n3 ∧ ∀ a, A = some a → w.cell? (a.add (i * 4 + 0)) = some (.int .i64 n0) ∧ w.cell? (a.add (i * 4 + 1)) = some (.int .i64 n1) ∧ w.cell? (a.add (i * 4 + 2)) = some (.int .i64 n2) ∧ w.cell? (a.add (i * 4 + 3)) = some (.int .i64 n3) := by
    intro i hi
    obtain ⟨a, ha⟩ := h0 (by omega)
    obtain ⟨ns, hn⟩ := hc a ha i hi
    refine ⟨mk (ns 0) (ns 1) (ns 2) (ns 3), ns 0, ns 1, ns 2, ns 3, rfl, fun a' ha' => ?_⟩
    obtain rfl : a = a' := Option.some.inj (ha.symm.trans ha')
    exact ⟨hn 0 (by omega), hn 1 (by omega), hn 2 (by omega), hn 3 (by omega)⟩
  obtain ⟨xs, hl, hx⟩ := collect len hex
  refine ⟨xs, hl, rfl, by rw [hl]; exact hm, fun hpos => ?_⟩
  obtain ⟨a, ha⟩ := h0 (by omega)
  refine ⟨a, ha, fun j p hj => ?_⟩
  obtain ⟨n0, n1, n2, n3, rfl, hcell⟩ := hx j p hj
  obtain ⟨c0, c1, c2, c3⟩ := hcell a ha
  refine ⟨[.int .i64 n0, .int .i64 n1, .int .i64 n2, .int .i64 n3], by rw [hsz]; rfl, hK w n0 n1 n2 n3, fun i z hz => ?_⟩
  rw [hsz]
  match i, hz with
  | 0, hz => obtain rfl := Option.some.inj hz; exact c0
  | 1, hz => obtain rfl := Option.some.inj hz; exact c1
  | 2, hz => obtain rfl := Option.some.inj hz; exact c2
  | 3, hz => obtain rfl := Option.some.inj hz; exact c3
end
end Go.Proofs.Ytgdnhidnojjpiac.Open
