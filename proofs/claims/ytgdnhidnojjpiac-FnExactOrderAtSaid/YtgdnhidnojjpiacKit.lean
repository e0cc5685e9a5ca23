/- Plain lemmas that the proofs of this seat share: on 64-bit wraps, on division rounded towards zero, on decimal digits and on lists. Conditions: those that each lemma names. -/
import Derived.OpenShut
import Derived.Laws.BitsLemmas
import Derived.Test.YtgdnhidnojjpiacWWords
import Derived.Test.YtgdnhidnojjpiacWSized
namespace Go.Proofs.Ytgdnhidnojjpiac.Kit
open Go.RowKit Go.Proofs.YtgdnhidnojjpiacW.PrintWords

theorem wf_bd {a : Int} (h : (Lit.int .i64 a).wf = true) : -9223372036854775808 ≤ a ∧ a ≤ 9223372036854775807 := bounds_i64 h

theorem w64 {x : Int} (h0 : -9223372036854775808 ≤ x) (h1 : x ≤ 9223372036854775807) : wrap64 x = x := by
  unfold wrap64
  omega

theorem wsucc (i : Nat) (h : i ≤ 4000000000) : wrap64 ((i : Int) + 1) = ((i + 1 : Nat) : Int) := by
  rw [w64 (by omega) (by omega)]
  simp

theorem tdiv_nn {a : Int} (b : Int) (ha : 0 ≤ a) : Int.tdiv a b = a / b := Int.tdiv_eq_ediv_of_nonneg ha
theorem tmod_nn {a : Int} (b : Int) (ha : 0 ≤ a) : Int.tmod a b = a % b := Int.tmod_eq_emod_of_nonneg ha

/-! lists -/
theorem rd_at {xs : List Int} {i : Nat} (h : i < xs.length) : rd xs (i : Int) = xs[i] := by
  unfold rd
  simp [h]
theorem rd_mem {xs : List Int} {i : Nat} (h : i < xs.length) : rd xs (i : Int) ∈ xs := by
  rw [rd_at h]
  exact List.getElem_mem h
theorem drop_rd {xs : List Int} {i : Nat} (h : i < xs.length) : xs.drop i = rd xs (i : Int) :: xs.drop (i + 1) := by
  rw [rd_at h]
  exact List.drop_eq_getElem_cons h
theorem take_rd {xs : List Int} {i : Nat} (h : i < xs.length) : xs.take (i + 1) = xs.take i ++ [rd xs (i : Int)] := by
  rw [rd_at h]
  exact List.take_succ_eq_append_getElem h
theorem sum_bd {xs : List Int} {M : Int} (hx : ∀ x ∈ xs, 0 ≤ x ∧ x ≤ M) : 0 ≤ xs.sum ∧ xs.sum ≤ xs.length * M := by
  induction xs with
  | nil => simp
  | cons a t ih =>
    have h1 := hx a (by simp)
    have h2 := ih (fun x h => hx x (by simp [h]))
    simp only [List.sum_cons, List.length_cons]
    have e : ((t.length + 1 : Nat) : Int) * M = t.length * M + M := by rw [Int.natCast_add, Int.add_mul]; simp
    omega

/-! decimal digits -/
def dsum (a : Nat) : Nat := if a < 10 then a else dsum (a / 10) + a % 10
termination_by a
decreasing_by omega
def dalt (a : Nat) : Int := if a < 10 then (a : Int) else ((a % 10 : Nat) : Int) - dalt (a / 10)
termination_by a
decreasing_by omega
def digs (a : Nat) : List Int := if a < 10 then [(a : Int)] else digs (a / 10) ++ [((a % 10 : Nat) : Int)]
termination_by a
decreasing_by omega

theorem dsum_lt {a : Nat} (h : a < 10) : dsum a = a := by rw [dsum, if_pos h]
theorem dsum_ge {a : Nat} (h : 10 ≤ a) : dsum a = dsum (a / 10) + a % 10 := by rw [dsum, if_neg (by omega)]
theorem dsum_step (a : Nat) : dsum a = dsum (a / 10) + a % 10 := by
  by_cases h : a < 10
  · rw [dsum_lt h, dsum_lt (by omega)]; omega
  · exact dsum_ge (by omega)
theorem dalt_lt {a : Nat} (h : a < 10) : dalt a = a := by rw [dalt, if_pos h]
theorem dalt_step (a : Nat) : dalt a = ((a % 10 : Nat) : Int) - dalt (a / 10) := by
  by_cases h : a < 10
  · rw [dalt_lt h, dalt_lt (by omega)]; omega
  · rw [dalt, if_neg h]
theorem digs_lt {a : Nat} (h : a < 10) : digs a = [(a : Int)] := by rw [digs, if_pos h]
theorem digs_ge {a : Nat} (h : 10 ≤ a) : digs a = digs (a / 10) ++ [((a % 10 : Nat) : Int)] := by rw [digs, if_neg (by omega)]

theorem digs_mem (a : Nat) : ∀ x ∈ digs a, 0 ≤ x ∧ x ≤ 9 := by
  induction a using Nat.strongRecOn with
  | _ a ih =>
    by_cases h : a < 10
    · rw [digs_lt h]
      intro x hx
      simp at hx
      omega
    · rw [digs_ge (by omega)]
      intro x hx
      rcases List.mem_append.mp hx with hx | hx
      · exact ih (a / 10) (by omega) x hx
      · simp only [List.mem_singleton] at hx
        omega
theorem digs_len {k : Nat} : ∀ {a : Nat}, a < 10 ^ k → 1 ≤ k → 1 ≤ (digs a).length ∧ (digs a).length ≤ k := by
  induction k with
  | zero => intro a _ h; omega
  | succ k ih =>
    intro a ha _
    by_cases h : a < 10
    · rw [digs_lt h]
      simp
    · rw [digs_ge (by omega)]
      rw [Nat.pow_succ] at ha
      have hk : 1 ≤ k := by
        rcases Nat.eq_zero_or_pos k with h0 | h0
        · rw [h0] at ha; omega
        · exact h0
      have := @ih (a / 10) (by omega) hk
      simp
      omega
theorem digs_sum (a : Nat) : (digs a).sum = dsum a := by
  induction a using Nat.strongRecOn with
  | _ a ih =>
    by_cases h : a < 10
    · rw [digs_lt h, dsum_lt h]
      simp
    · rw [digs_ge (by omega), dsum_ge (by omega), List.sum_append, ih (a / 10) (by omega)]
      simp

theorem dsum_mod (a : Nat) : dsum a % 9 = a % 9 := by
  induction a using Nat.strongRecOn with
  | _ a ih =>
    by_cases h : a < 10
    · rw [dsum_lt h]
    · rw [dsum_ge (by omega)]
      have := ih (a / 10) (by omega)
      omega
theorem dsum_le {k : Nat} : ∀ {a : Nat}, a < 10 ^ k → dsum a ≤ 9 * k := by
  induction k with
  | zero =>
    intro a ha
    have h0 : a = 0 := by simpa using ha
    rw [h0, dsum_lt (by omega)]
    omega
  | succ k ih =>
    intro a ha
    rw [Nat.pow_succ] at ha
    have := ih (a := a / 10) (by omega)
    rw [dsum_step]
    omega

/-! halves -/
theorem div_of {x y q : Int} (hy : 0 < y) (h1 : q * y ≤ x) (h2 : x < (q + 1) * y) : x / y = q := by
  have a := Int.le_ediv_of_mul_le hy h1
  have b := Int.ediv_lt_of_lt_mul hy h2
  omega
theorem even_key {P D : Int} (hD : 0 < D) :
    ((2 * P + D) / (2 * D) = if D ≤ 2 * (P % D) then P / D + 1 else P / D) ∧ (((2 * P) % D = 0 ∧ (2 * P / D) % 2 = 1) ↔ 2 * (P % D) = D) := by
  have h := Int.emod_add_mul_ediv P D
  have h0 := Int.emod_nonneg P (b := D) (by omega)
  have h1 := Int.emod_lt_of_pos P hD
  generalize P / D = q at h ⊢
  generalize P % D = r at h h0 h1 ⊢
  subst h
  refine ⟨?_, ?_⟩
  · split
    · exact div_of (by omega) (by grind) (by grind)
    · exact div_of (by omega) (by grind) (by grind)
  · by_cases c : D ≤ 2 * r
    · have e : 2 * (r + D * q) / D = 2 * q + 1 := div_of hD (by grind) (by grind)
      have e2 : 2 * (r + D * q) % D = 2 * r - D := by
        have := Int.emod_add_mul_ediv (2 * (r + D * q)) D
        rw [e] at this
        grind
      rw [e, e2]
      omega
    · have e : 2 * (r + D * q) / D = 2 * q := div_of hD (by grind) (by grind)
      rw [e]
      omega
/-- P / D, rounded to the nearest number, halves to the even one. -/
def evn (P D : Int) : Int := if D < 2 * (P % D) then P / D + 1 else if 2 * (P % D) = D ∧ (P / D) % 2 = 1 then P / D + 1 else P / D
theorem evn_bd (P : Int) {D : Int} : P / D ≤ evn P D ∧ evn P D ≤ P / D + 1 := by
  unfold evn
  split
  · omega
  · split <;> omega
theorem evn_mono {P P' D : Int} (hD : 0 < D) (h : P ≤ P') : evn P D ≤ evn P' D := by
  have hq : P / D ≤ P' / D := Int.ediv_le_ediv hD h
  by_cases c : P / D = P' / D
  · have e := Int.emod_add_mul_ediv P D
    have e' := Int.emod_add_mul_ediv P' D
    rw [← c] at e'
    have hr : P % D ≤ P' % D := by omega
    unfold evn
    rw [← c]
    split <;> split <;> (try split) <;> (try split) <;> omega
  · have := evn_bd P (D := D)
    have := evn_bd P' (D := D)
    omega
theorem evn_mul {n D : Int} (hD : 0 < D) : evn (n * D) D = n := by
  have e1 : n * D / D = n := Int.mul_ediv_cancel n (by omega)
  have e2 : n * D % D = 0 := Int.mul_emod_left n D
  unfold evn
  rw [e1, e2]
  rw [if_neg (by omega), if_neg (by omega)]
theorem evn_zero {D : Int} (hD : 0 < D) : evn 0 D = 0 := by
  have := evn_mul (n := 0) hD
  simpa using this
/-- What a rate takes of an amount is at most the amount. -/
theorem evn_part {n p d : Int} (hn : 0 ≤ n) (hp : 0 ≤ p) (hd : 0 < d) (hpd : p ≤ d) : 0 ≤ evn (n * p) d ∧ evn (n * p) d ≤ n := by
  have h0 : 0 ≤ n * p := Int.mul_nonneg hn hp
  have h1 : n * p ≤ n * d := Int.mul_le_mul_of_nonneg_left hpd hn
  have a := evn_mono hd h0
  have b := evn_mono hd h1
  rw [evn_zero hd] at a
  rw [evn_mul hd] at b
  exact ⟨a, b⟩
theorem part_bd {n p : Int} (hn : 0 ≤ n) (hn' : n ≤ 4000000) (hp : 0 ≤ p) (hp' : p ≤ 1000) : 0 ≤ n * p ∧ n * p ≤ 4000000000 := by
  refine ⟨Int.mul_nonneg hn hp, ?_⟩
  have : n * p ≤ 4000000 * 1000 := Int.mul_le_mul hn' hp' hp (by omega)
  omega

/-! the reader that draws the arguments of a law: its bytes -/
def RB (b : List Int) : Prop := b.length ≤ 2000 ∧ ∀ x ∈ b, 0 ≤ x ∧ x ≤ 255
theorem rd_byte {b : List Int} (h : RB b) (i : Int) : 0 ≤ rd b i ∧ rd b i ≤ 255 := by
  unfold rd
  rw [List.getD_eq_getElem?_getD]
  rcases hx : b[i.toNat]? with _ | x
  · simp
  · simpa using h.2 x (List.mem_of_getElem? hx)
theorem bytes_bd {l : List Int} (h : ∀ x ∈ l, (Lit.int .u8 x).wf = true) : ∀ x ∈ l, 0 ≤ x ∧ x ≤ 255 := fun x hx => bounds_u8 (h x hx)
theorem xor_nn {a b : Int} (ha : 0 ≤ a) (ha' : a < 4611686018427387904) (hb : 0 ≤ b) (hb' : b < 4611686018427387904) : 0 ≤ Go.bits .xor .i64 a b := by
  obtain ⟨A, rfl⟩ := Int.eq_ofNat_of_zero_le ha
  obtain ⟨B, rfl⟩ := Int.eq_ofNat_of_zero_le hb
  have hx : A ^^^ B < 2 ^ 62 := Nat.xor_lt_two_pow (by omega) (by omega)
  have h1 : (BitVec.ofInt 64 (A : Int)).toNat = A := by
    rw [BitVec.ofInt_natCast, BitVec.toNat_ofNat]; exact Nat.mod_eq_of_lt (by omega)
  have h2 : (BitVec.ofInt 64 (B : Int)).toNat = B := by
    rw [BitVec.ofInt_natCast, BitVec.toNat_ofNat]; exact Nat.mod_eq_of_lt (by omega)
  show 0 ≤ IntKind.i64.wrap ((BitVec.ofInt 64 (A : Int) ^^^ BitVec.ofInt 64 (B : Int)).toNat : Int)
  rw [BitVec.toNat_xor, h1, h2, IntKind.wrap_i64]
  omega
theorem tmod_in {x n : Int} (hx : 0 ≤ x) (hn : 1 ≤ n) : 0 ≤ Int.tmod x n ∧ Int.tmod x n < n := by
  rw [tmod_nn _ hx]
  exact ⟨Int.emod_nonneg _ (by omega), Int.emod_lt_of_pos _ (by omega)⟩
theorem tdiv_in {x n : Int} (hx : 0 ≤ x) (hn : 1 ≤ n) : 0 ≤ Int.tdiv x n ∧ Int.tdiv x n ≤ x := by
  rw [tdiv_nn _ hx]
  exact ⟨Int.ediv_nonneg hx (by omega), Int.ediv_le_self _ hx⟩

/-! lists of whole numbers: a set element; the first place of a number; orders -/
theorem set_at {α : Type} {xs : List α} {i j : Nat} {x : α} (h : i < xs.length) : (xs.set i x)[j]? = if i = j then some x else xs[j]? := by
  rw [List.getElem?_set]
  by_cases e : i = j
  · subst e
    simp [h]
  · simp [e]
theorem rd_get {xs : List Int} {i : Nat} (h : i < xs.length) : xs[i]? = some (rd xs (i : Int)) := by
  rw [rd_at h]
  exact List.getElem?_eq_getElem h
/-- from place i on: the first place at which a stands, -1 if there is none -/
def placeFrom (a : Int) : List Int → Nat → Int
  | [], _ => -1
  | x :: t, i => if x = a then (i : Int) else placeFrom a t (i + 1)
theorem placeFrom_mem (a : Int) : ∀ (l : List Int) (i : Nat), (0 ≤ placeFrom a l i ↔ a ∈ l) ∧ -1 ≤ placeFrom a l i ∧ placeFrom a l i < i + l.length
  | [], i => by simp [placeFrom]; omega
  | x :: t, i => by
    have ih := placeFrom_mem a t (i + 1)
    unfold placeFrom
    by_cases h : x = a
    · rw [if_pos h]
      simp [h]
      omega
    · rw [if_neg h]
      have h' : ¬ a = x := fun e => h e.symm
      simp only [List.mem_cons, h', false_or, List.length_cons]
      refine ⟨ih.1, ih.2.1, ?_⟩
      have := ih.2.2
      push_cast at this ⊢
      omega
theorem placeFrom_at (a : Int) : ∀ (l : List Int) (i : Nat), 0 ≤ placeFrom a l i → ∃ j, j < l.length ∧ placeFrom a l i = (i + j : Nat) ∧ l[j]? = some a
  | [], i => by simp [placeFrom]
  | x :: t, i => by
    intro hp
    unfold placeFrom at hp ⊢
    by_cases h : x = a
    · rw [if_pos h]
      exact ⟨0, by simp, by simp, by simp [h]⟩
    · rw [if_neg h] at hp ⊢
      obtain ⟨j, hj, e, g⟩ := placeFrom_at a t (i + 1) hp
      exact ⟨j + 1, by simp; omega, by rw [e]; congr 1; omega, by simpa using g⟩
/-- seen: what came before; the rest are numbers below n, none of them seen before -/
def chk (n : Int) : List Int → List Int → Bool
  | _, [] => true
  | seen, x :: t => if 0 ≤ x ∧ x < n ∧ ¬ x ∈ seen then chk n (seen ++ [x]) t else false
theorem chk_true {n : Int} : ∀ (rest seen : List Int), chk n seen rest = true → seen.Nodup → (∀ x ∈ rest, 0 ≤ x ∧ x < n) ∧ (seen ++ rest).Nodup
  | [], seen => fun _ h => by simpa using h
  | x :: t, seen => fun h hs => by
    unfold chk at h
    by_cases c : 0 ≤ x ∧ x < n ∧ ¬ x ∈ seen
    · rw [if_pos c] at h
      have hn : (seen ++ [x]).Nodup := by
        rw [List.nodup_append]
        refine ⟨hs, by simp, ?_⟩
        intro a ha b hb
        have : b = x := by simpa using hb
        subst this
        intro e
        subst e
        exact c.2.2 ha
      have ih := chk_true t (seen ++ [x]) h hn
      refine ⟨?_, by simpa using ih.2⟩
      intro y hy
      rcases List.mem_cons.mp hy with rfl | hy
      · exact ⟨c.1, c.2.1⟩
      · exact ih.1 y hy
    · rw [if_neg c] at h
      cases h
/-- no more different numbers below n than n -/
theorem few : ∀ (n : Nat) (l : List Int), l.Nodup → (∀ x ∈ l, 0 ≤ x ∧ x < (n : Int)) → l.length ≤ n
  | 0, l => fun _ h => by
    cases l with
    | nil => simp
    | cons a t => have := h a (by simp); omega
  | n + 1, l => fun hn h => by
    have ih := few n (l.erase (n : Int)) (hn.erase _) (fun x hx => by
      have hx' := (hn.mem_erase_iff).mp hx
      have := h x hx'.2
      have := hx'.1
      omega)
    rw [List.length_erase] at ih
    split at ih <;> omega
/-- n different numbers below n are all of them -/
theorem all_in {n : Nat} {l : List Int} (hn : l.Nodup) (h : ∀ x ∈ l, 0 ≤ x ∧ x < (n : Int)) (hl : l.length = n) {i : Int} (h0 : 0 ≤ i) (h1 : i < n) : i ∈ l := by
  by_cases c : i ∈ l
  · exact c
  · have := few n (i :: l) (List.nodup_cons.mpr ⟨c, hn⟩) (fun x hx => by
      rcases List.mem_cons.mp hx with rfl | hx
      · exact ⟨h0, h1⟩
      · exact h x hx)
    simp at this
    omega

end Go.Proofs.Ytgdnhidnojjpiac.Kit

/-! the printed rows of laws over slices name this lemma by a shorter name than the printed words give it -/
namespace Go.Proofs.Ytgdnhidnojjpiac.PrintWords
open Go.ChangeShapes Go.WideShapes
theorem sized_ints {H : Type} {enc : TypeId × Value → H} {P : Program} {W : World} {base : Nat} {spare : Nat → Bool} {held : Bool} {t e : TypeId} {k : IntKind} {a : Option Addr} {len cap : Nat} {d : DataW H} {ps : List MemPlace} {ts : List TypeId} {ds : List (DataW H)} {j : Nat}
    (hsz : (DataW.weightsEach P ts ds).all (· ≤ reachBytes) = true) (ht : ts[j]? = some t) (hd : ds[j]? = some d) (hu : P.underlying t = some (.slice e)) (he : P.underlying e = some (.int k)) (hc : P.cellsOf e = 1) {B : Nat} (hB : P.bytesOf e = B)
    (h : DataW.Trod enc P W base spare held t (.slice a len cap) d ps) : len * B ≤ 140737488351232 := Go.Proofs.YtgdnhidnojjpiacW.PrintWords.sized_ints hsz ht hd hu he hc hB h
end Go.Proofs.Ytgdnhidnojjpiac.PrintWords
