/- slices.Sorted(slices.Values(s)) at this dump: a new row that holds the numbers of s, sorted; what lay before the call has not turned. No condition but the reach of s. -/
import Derived.Test.YtnhifbopicjicaaDoorLay
import Derived.Test.YtnhifbopicjicaaDoorSeq
import Derived.Test.YtnhifbopicjicaaDoorWMore
import Derived.RangeFuncBox
import Derived.RangeFuncLeaves
import Derived.Shelf.Abstract
import Derived.WalkKit
import Derived.OwnWalkIn
import Derived.TacticsInMore
import Derived.LoopNIn
import Derived.LoopIn
import Derived.Lib.Hide
set_option linter.unusedVariables false
set_option linter.unusedSimpArgs false
namespace Go.Proofs.YtnhifbopicjicaaDoor.Ext
open Go.RowKit Go.Maps Go.Sort Go.Shelf Go.Proofs Go.Proofs.YtnhifbopicjicaaDoorW.PrintWords Go.Proofs.YtnhifbopicjicaaDoorW.PrintLast
attribute [local go_sem] Oper.semAt_some

theorem add_block (ad : Addr) (k : Nat) : (ad.add k).block = ad.block := by unfold Addr.add; split <;> rfl
def upto {α : Type} (f : Nat → α) (k : Nat) : List α := (List.range k).map f
theorem upto_succ {α : Type} (f : Nat → α) (k : Nat) : upto f (k + 1) = upto f k ++ [f k] := by simp [upto, List.range_succ]
theorem upto_length {α : Type} (f : Nat → α) (k : Nat) : (upto f k).length = k := by simp [upto]
theorem upto_all (zs : List Int) : upto (fun j => zs[j]?.getD 0) zs.length = zs := by
  apply List.ext_getElem
  · simp [upto]
  · intro i h1 h2
    simp [upto, h2]

set_option maxRecDepth 100000 in
set_option maxHeartbeats 2000000 in
/-- slices.Values's closure, for every loop body that keeps what lay below n₀. -/
theorem values1 (n : Nat) (hn : 1 ≤ n) (l Bs n₀ len cap : Nat) (ad : Addr) (zs : List Int) (hlen : len ≤ 9223372036854775807) (hpos : 0 < len) (hb : ad.block < n₀) (J : List Int → World → Prop)
    (hY : ∀ pre x W, J pre W → pre.length < len → YieldAt Fence.wide (n - 1) Tryd.prog l #[.int .i64 x] W fun e W' => e = .returned (.bool true) ∧ J (pre ++ [x]) W' ∧ (∀ k, k < n₀ → W'.heap[k]? = W.heap[k]?))
    (W : World) (hBs : W.cell? ⟨Bs, 0, none⟩ = some (.slice (some ad) len cap)) (hc : ∀ j, j < len → W.cell? (ad.add j) = some (.int .i64 (zs[j]?.getD 0))) (h0 : J [] W) :
    CallsIn Fence.wide n Tryd.prog 129 #[.func (.yield l) #[] #[], .pointer (some ⟨Bs, 0, none⟩)] W fun e W' => (∃ v, e = .returned v) ∧ ∃ ys, ys = upto (fun j => zs[j]?.getD 0) len ∧ J ys W' := by
  refine callsIn_of_wp Tryd.func129 rfl trivial ?_ rfl
  simp only [Tryd.ntmps129, List.size_toArray, List.length_cons, List.length_nil, Nat.reduceAdd, Nat.reduceSub, Array.replicate_succ, Array.replicate_zero, List.push_toArray, List.append_toArray, List.nil_append, List.cons_append]
  gi_wp2
  gi_loopw [7] (fun i wr => ∃ k : Nat, k ≤ len ∧ i = .int .i64 k ∧ J (upto (fun j => zs[j]?.getD 0) k) wr ∧ (∀ q, q < n₀ → wr.heap[q]? = W.heap[q]?))
    (fun i _ => len - (intOf i).toNat)
  case atStart => exact ⟨0, Nat.zero_le _, rfl, h0, fun _ _ => rfl⟩
  case round =>
    obtain ⟨k, hk, rfl, hJs, hnx⟩ := hrel
    have hcx : k < len → wr.cell? (ad.add k) = some (.int .i64 (zs[k]?.getD 0)) := fun h => (World.cell?_of_block (w := W) (hnx (ad.add k).block (by rw [add_block]; exact hb))).trans (hc k h)
    have Hnx := Lib.hid hnx
    clear hnx
    by_cases hlt : k < len
    · obtain ⟨fn, tmps, assign, body, hy, hR⟩ := hY _ (zs[k]?.getD 0) wr hJs (by rw [upto_length]; exact hlt)
      have hcx' := hcx hlt
      gi_wp2
      refine hR.mono ?_
      rintro e W3 ⟨rfl, hJ3, hk3⟩
      have Hk3 := Lib.hid hk3
      clear hk3
      gi_wp2
      go_roundw
      case rel => exact ⟨k + 1, by omega, by simp, by rw [upto_succ]; exact hJ3, fun q hq => (Hk3.out q hq).trans (Hnx.out q hq)⟩
      case measure => simp [intOf]; omega
    · obtain rfl : k = len := by omega
      gi_wp2
      go_end0
      exact ⟨⟨_, rfl⟩, _, rfl, hJs⟩

set_option maxRecDepth 100000 in
set_option maxHeartbeats 1000000 in
/-- .. at a slice of no element: no round. -/
theorem values1_none (n : Nat) (l Bs cap : Nat) (A : Option Addr) (J : List Int → World → Prop) (W : World) (hBs : W.cell? ⟨Bs, 0, none⟩ = some (.slice A 0 cap)) (h0 : J [] W) :
    CallsIn Fence.wide n Tryd.prog 129 #[.func (.yield l) #[] #[], .pointer (some ⟨Bs, 0, none⟩)] W fun e W' => (∃ v, e = .returned v) ∧ J [] W' := by
  refine callsIn_of_wp Tryd.func129 rfl trivial ?_ rfl
  simp only [Tryd.ntmps129, List.size_toArray, List.length_cons, List.length_nil, Nat.reduceAdd, Nat.reduceSub, Array.replicate_succ, Array.replicate_zero, List.push_toArray, List.append_toArray, List.nil_append, List.cons_append]
  gi_wp2
  gi_loopw [7] (fun i wr => i = .int .i64 0 ∧ J [] wr) (fun _ _ => 0)
  case atStart => exact ⟨rfl, h0⟩
  case round =>
    obtain ⟨rfl, hJs⟩ := hrel
    gi_wp2
    go_end0
    exact ⟨⟨_, rfl⟩, hJs⟩

set_option maxHeartbeats 1000000 in
/-- slices.Values(s): the slice value is boxed; the function value captures the box. -/
theorem values (a : Option Addr) (len cap : Nat) (w : World) :
    Calls Tryd.prog 100 #[.slice a len cap] w fun e w' => e = .returned (.func (.func 129) #[] #[.pointer (some ⟨w.heap.size, 0, none⟩)]) ∧ w' = w.alloc (.cells #[.slice a len cap] 27) := by
  go_enter Tryd.func100, Tryd.ntmps100
  go_wp2
  go_ret
  exact ⟨rfl, rfl⟩

theorem values_gives (n : Nat) (hn : 1 ≤ n) (Bs : Nat) (A : Option Addr) (cap : Nat) (zs : List Int) (W : World) (hBs : Bs < W.heap.size) (hbox : W.cell? ⟨Bs, 0, none⟩ = some (.slice A zs.length cap)) (hC : ReadsOf (Value.int .i64) 0 W A zs.length zs) :
    SeqGivesB Fence.wide n Tryd.prog 129 #[.pointer (some ⟨Bs, 0, none⟩)] encZ W.heap.size (fun ys => ys = zs) zs.length W := by
  intro l J W1 hW hJ hY h0
  have hbox1 := (hW.cell (p := ⟨Bs, 0, none⟩) hBs).trans hbox
  obtain ⟨_, hm, hc⟩ := hC
  by_cases hz : 0 < zs.length
  · obtain ⟨ad, rfl, hcs⟩ := hc hz
    have hblk : ad.block < W.heap.size := by
      have := World.block_lt_of_cell? W _ (hcs 0 hz)
      rw [add_block] at this
      exact this
    refine (values1 n hn l Bs W.heap.size zs.length cap ad zs hm hz hblk J hY W1 hbox1 (fun j hj => (hW.cell (p := ad.add j) (by rw [add_block]; exact hblk)).trans (by rw [hcs j hj, List.getD_eq_getElem?_getD])) h0).mono ?_
    rintro e W' ⟨he, ys, rfl, hj⟩
    exact ⟨he, _, upto_all zs, hj⟩
  · have e0 : zs = [] := List.eq_nil_of_length_eq_zero (by omega)
    subst e0
    refine (values1_none n l Bs cap A J W1 hbox1 h0).mono ?_
    rintro e W' ⟨he, hj⟩
    exact ⟨he, [], rfl, hj⟩

theorem sorts (m : Nat) : AnyZI.SortsIn Tryd.prog Tryd.sortedZ_ren Fence.wide m :=
  ⟨fun blk off cap ss W hH hblk hsz => callsIn_wide.2 (Tryd.slices_Sort_int blk off cap ss W hH hblk hsz),
   fun p cap W => callsIn_wide.2 (Tryd.slices_Sort_int_none p cap W)⟩

/-- slices.Sorted at what slices.Values handed back. -/
theorem sorted (Bs : Nat) (A : Option Addr) (cap : Nat) (zs : List Int) (hreach : zs.length * 8 ≤ 140737488351232) (W : World) (hBs : Bs < W.heap.size) (hbox : W.cell? ⟨Bs, 0, none⟩ = some (.slice A zs.length cap)) (hC : ReadsOf (Value.int .i64) 0 W A zs.length zs) :
    Calls Tryd.prog 99 #[.func (.func 129) #[] #[.pointer (some ⟨Bs, 0, none⟩)]] W fun e w' => ∃ v, e = .returned v ∧ Kd.R (Kd.int .i64) 3 w' W.heap.size (fun _ => True) v (zs.mergeSort fun x y => decide (x ≤ y)) ∧ Below W.heap.size W w' := by
  refine (callsIn_wide (n := 5)).1 ?_
  have cS := sortedB_in Tryd.sortedZ Fence.wide 5 trivial trivial trivial trivial rfl (by omega) (sorts _) (enters_of Tryd.func128 (by kernel_rfl) rfl) 129 #[.pointer (some ⟨Bs, 0, none⟩)] trivial (enters_of Tryd.func129 (by kernel_rfl) rfl) _ zs.length (by unfold maxLen; omega) (by omega) W W.heap.size (Nat.le_refl _) (values_gives _ (by omega) Bs A cap zs W hBs hbox hC)
  refine cS.mono ?_
  rintro e w' ⟨v, ss, rfl, rfl, hrow, _, hb⟩
  refine ⟨v, rfl, ?_, hb⟩
  refine Kd.R_of_own (h1 := fun _ => rfl) (ok := fun _ => True) ?_ (fun _ _ => trivial)
  rw [List.length_mergeSort]
  exact hrow

end Go.Proofs.YtnhifbopicjicaaDoor.Ext
