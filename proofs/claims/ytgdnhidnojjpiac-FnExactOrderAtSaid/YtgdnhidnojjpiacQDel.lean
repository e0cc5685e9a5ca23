/- Go's slices.Delete, of one element of a slice of ints of the call's own: the slice without it, in the same block. Condition: the index lies within. -/
import Derived.KernelRfl
import Derived.Shelf.Slices.Delete
import Derived.Lib.OwnBridge
import Derived.Test.YtgdnhidnojjpiacProg
import Derived.Test.YtgdnhidnojjpiacWWords
namespace Go.Proofs.Ytgdnhidnojjpiac.Del
open Go.Shelf Go.RowKit Go.Lib Go.Sort Go.Proofs.YtgdnhidnojjpiacW.PrintWords
set_option maxRecDepth 100000
/-! the contract's facts, each at this program's own numbers -/
def ren : Ren := ⟨fun | 23 => 90 | n => n, fun | 22 => 25 | n => n, fun n => n⟩
theorem lays : Lays2.n23 Try.prog ren where
  mixed := by kernel_rfl
  f23 := Try.func90.trans (congrArg some (by kernel_rfl))
  t0 := Try.underlying0
  a0 := Try.isAgg0
  z0 := Try.sizeOf0
  v0 := Try.zeroValue0
  t3 := Try.underlying3
  a3 := Try.isAgg3
  z3 := Try.sizeOf3
  v3 := Try.zeroValue3
  t4 := Try.underlying4
  a4 := Try.isAgg4
  z4 := Try.sizeOf4
  v4 := Try.zeroValue4
  t22 := Try.underlying25
  a22 := Try.isAgg25
  z22 := Try.sizeOf25
  v22 := Try.zeroValue25
  i3 := by kernel_rfl
theorem num : ren.f 23 = 90 := by rfl
theorem reps_map {xs : List Int} {cs : List Value} (h : Reps (fun x cs => cs = [Value.int .i64 x]) 1 xs cs) : cs = xs.map (Value.int .i64) := by
  apply List.ext_getElem?
  intro j
  by_cases c : j < xs.length
  · have := h.2 j _ (List.getElem?_eq_getElem c)
    have h0 : ((cs.drop (j * 1)).take 1)[0]? = some (Value.int .i64 xs[j]) := by rw [this]; rfl
    rw [List.getElem?_take, if_pos (by omega), List.getElem?_drop] at h0
    rw [List.getElem?_map, List.getElem?_eq_getElem c]
    simpa using h0
  · have hl := h.1
    rw [List.getElem?_eq_none (by omega), List.getElem?_eq_none (by simp; omega)]
theorem map_reps (xs : List Int) : Reps (fun x cs => cs = [Value.int .i64 x]) 1 xs (xs.map (Value.int .i64)) := by
  refine ⟨by simp, fun j p hj => ?_⟩
  obtain ⟨hl, hp⟩ := List.getElem?_eq_some_iff.1 hj
  rw [Nat.mul_one, List.drop_eq_getElem_cons (by simpa using hl)]
  simp [hp]
theorem own {base : Nat} {ok : Nat → Prop} {v : Value} {xs : List Int} {w0 w : World} (h : Kd.R (Kd.int .i64) 3 w base ok v xs) (HB : Below base w0 w) (i : Nat) (hi : i < xs.length) :
    Calls Try.prog 90 #[v, .int .i64 (i : Int), .int .i64 ((i + 1 : Nat) : Int)] w fun e w' => ∃ v1, e = .returned v1 ∧ Kd.R (Kd.int .i64) 3 w' base ok v1 (xs.take i ++ xs.drop (i + 1)) ∧ v1.ownBlock = v.ownBlock ∧ w.grownBy w' v.ownBlock ∧ Below base w0 w' := by
  obtain ⟨hok, inner, ho, hr⟩ := h
  obtain rfl := reps_map hr
  have hv : v ≠ .slice none 0 0 := by
    rintro rfl
    rcases ho.2 with ⟨_, h0⟩ | ⟨g, cap, cur, e0, _⟩
    · omega
    · cases e0
  obtain ⟨g, cap, rfl, hb, hlt, hn, hm, hl, hH⟩ := holds_of_ownsRow (enc := Value.int .i64) ho hv
  have hc := Any.slices_Delete_int lays g 0 cap i (i + 1) xs w hH hn (Nat.le_trans hm (by decide)) (Nat.le_succ i) hi
  rw [num] at hc
  refine hc.mono ?_
  rintro e w' ⟨rfl, q, rfl⟩
  refine ⟨_, rfl, ⟨hok, _, ?_, map_reps _⟩, rfl, ?_, below_putRow HB hb⟩
  · have hlen : (xs.take i ++ xs.drop (i + 1)).length = xs.length - (i + 1 - i) := by simp; omega
    have hy : (xs.take i ++ xs.drop (i + 1) ++ List.replicate (i + 1 - i) (0 : Int)).length = xs.length := by simp; omega
    have := ownsRow_putRow (q := q) (k := xs.length - (i + 1 - i)) ho hy (by omega)
    rw [List.take_left' hlen] at this
    rw [hlen]
    exact this
  · refine ⟨?_, ?_, ?_, ?_, ?_⟩ <;> first | rfl | (simp [putRow, mapBlock, Sort.ahead]; done) | (intro k hk hne; simp [putRow, mapBlock, Sort.ahead, Array.getElem?_modify, Value.ownBlock] at hne ⊢; omega)
end Go.Proofs.Ytgdnhidnojjpiac.Del
