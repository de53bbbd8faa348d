/-
  toIntSS: a slice of slices of ints copied into memory of the call's own.
-/
import Derived.Test.YtaelaldgohppeaaSSo
import Derived.Test.YtaelaldgohppeaaSameK
import Derived.Test.YtaelaldgohppeaaLists
import Derived.Deep.RegionWith
import Derived.IntWalk
namespace Go.Proofs.Ytaelaldgohppeaa
open Go.RowKit
set_option linter.unusedVariables false

theorem ints_info : (Try.prog.info? 22).map (fun i => (i.zero, i.size, i.bytes)) = some (some (.slice none 0 0), 1, 24) := by kernel_rfl
section
variable {ops : Array Oper} {rest : List Oper} {Q : Exit → Act → World → Prop} {o : Oper} {a : Act} {w : World}
/-- make([][]int, n). -/
theorem mknSS (hgd : o.guard = none) (l c : Operand) (hop : o.op = Op.makeSlice 32 l c) (base : Nat) (kl kc : IntKind) (L C : Int) (n : Nat)
    (hl : a.eval l = .int kl L) (hc : a.eval c = .int kc C) (hL : L = (n : Int)) (hC : C = (n : Int)) (hn : n ≤ 4194304) (hb : base ≤ w.heap.size)
    (h : ∀ w', w'.ownsRow base 22 1 (.slice (some ⟨w.heap.size, 0, none⟩) n n) n (List.replicate n (.slice none 0 0)) → w.grownBy w' none → w'.heap.size = w'.heap.size → wpList Try.prog ops Q rest (a.put o.dst (.slice (some ⟨w.heap.size, 0, none⟩) n n)) w') :
    wpList Try.prog ops Q (o :: rest) a w := by
  obtain ⟨i0, hi, hz0, hz1, hz2⟩ := info_parts ints_info
  refine wpList_make_full w hgd l c 32 hop base 22 i0 (.slice none 0 0) 1 Try.underlying32 hi hz0 hz1 kl kc L C n hl hc hL hC (by rw [hz2]; omega) (by unfold maxLen; omega) hb ?_
  intro w' ho hg
  refine h w' ?_ hg rfl
  have e : (madeCells (Value.slice none 0 0).cells (n * 1)).toList = List.replicate n (.slice none 0 0) := by
    simp only [madeCells, Value.cells]
    simp only [Nat.mul_one, List.size_toArray, List.length_cons, List.length_nil]
    refine List.ext_getElem (by simp) (fun i h1 h2 => ?_)
    simp [Nat.mod_one]
  rw [← e]
  exact ho
end
theorem set_mid {V : Type} (xs : List V) (z x : V) (n k : Nat) (hk : xs.length = k) (hn : k < n) : (xs ++ List.replicate (n - k) z).set k x = (xs ++ [x]) ++ List.replicate (n - (k + 1)) z := by
  obtain ⟨m, rfl⟩ : ∃ m, n = k + 1 + m := ⟨n - (k + 1), by omega⟩
  rw [show k + 1 + m - k = m + 1 by omega, show k + 1 + m - (k + 1) = m by omega, List.set_append_right _ _ (by omega), hk, Nat.sub_self, List.replicate_succ]
  simp

def RetSS (xss : List (List Int)) (w : World) (e : Ending) (w' : World) : Prop :=
  ∃ A n c R, e = .returned (.slice A n c) ∧ OwnSS w' w.heap.size w'.heap.size A n c R xss ∧ Below w.heap.size w w'
set_option maxHeartbeats 2000000 in
theorem toIntSS_r (A : Option Addr) (n c : Nat) (R : List (Option Addr × Nat × Nat)) (xss : List (List Int)) (w : World) (hx : IntSS w w.heap.size A n R xss) (hn : n ≤ 1048576) (hl : ∀ (k : Nat) (xs : List Int), xss[k]? = some xs → xs.length ≤ 1048576) :
    Calls Try.prog 38 #[.slice A n c] w (RetSS xss w) := by
  have HX := Lib.hid hl
  clear hl
  go_enter Try.func38, Try.ntmps38
  go_wp2_with (at_make; refine mknSS rfl _ _ rfl w.heap.size _ _ _ _ n rfl rfl rfl rfl (by omega) (Nat.le_refl _) ?_; intro w1 hown1 hg1 _)
  have hb1 : Below w.heap.size w w1 := (Below.refl _ _).grown hg1 (Nat.le_refl _) (by simp)
  have hs1 : w.heap.size + 1 ≤ w1.heap.size := by have := (World.ownsRow.lt hown1 w.heap.size (by rfl)).2; omega
  go_loopw [4] (fun i wr => ∃ (k : Nat) (S : List (Option Addr × Nat × Nat)), k ≤ n ∧ i = .int .i64 k ∧ S.length = k ∧ wr.ownsRow w.heap.size 22 1 (.slice (some ⟨w.heap.size, 0, none⟩) n n) n (S.map sv ++ List.replicate (n - k) (.slice none 0 0)) ∧ RowsI wr (w.heap.size + 1) wr.heap.size S (xss.take k) ∧ Below w.heap.size w wr) (fun i _ => n - (intOf i).toNat)
  case atStart => exact ⟨0, [], Nat.zero_le _, rfl, rfl, by simpa using hown1, hs1, hb1⟩
  case round =>
    obtain ⟨k, S, hk, rfl, hS, hown, hrows, hbw⟩ := hrel
    clear hown1 hg1 hb1 hs1
    by_cases hlt : k < n
    · obtain ⟨ad, r, xs, rfl, hb, hc, hr1, hx1, hs, hl1, hi⟩ := hx.elem hlt
      obtain ⟨A1, n1, c1⟩ := r
      have hn1 : n1 ≤ 1048576 := by have := HX.out k xs hx1; have := hi.len; simp only at this; omega
      simp only at hc hi
      have hi2 := hi.up hbw hbw.size
      have hc1 : wr.cell? (ad.add k) = some (.slice A1 n1 c1) := by rw [hbw.cell (by rw [block_of_add]; omega)]; exact hc
      have hsz : w.heap.size < wr.heap.size := by have := (World.ownsRow.lt hown w.heap.size (by rfl)).2; omega
      have HS := Lib.hid hs
      clear hc hs hr1 hx1 hi hl1
      go_wp2_with (go_at_call 26; refine (toIntS_r A1 n1 c1 xs wr hi2 hn1).mono ?_; rintro e w9 ⟨A9, n9, c9, rfl, o9, hb9⟩; have hw9 := World.ownsRow.kept hown (row := none) ⟨hb9.os, hb9.tape, hb9.output, hb9.size, fun k hk _ => hb9.block k hk⟩ (.inr (fun e => by cases e)); have hc9 := World.ownsRow.cellAt hw9 k (by omega); have hf9 := World.ownsRow.frozenAt hw9 k; have hz9 := hb9.size)
      go_roundw
      case rel =>
        refine ⟨k + 1, S ++ [(A9, n9, c9)], by omega, by go_num, by simp [hS], ?_, ?_, ?_⟩
        · have h := (World.ownsRow.stored hw9 k (.slice A9 n9 c9)).1
          rw [set_mid _ _ _ n k (by simpa using hS) hlt] at h
          simpa [sv] using h
        · rw [HS.out]
          have h2 : RowsI w9 (w.heap.size + 1) wr.heap.size S (xss.take k) := hrows.keep (fun j _ hj => hb9.block j hj)
          have h3 := h2.snoc (r := (A9, n9, c9)) (rowI o9) hz9
          have h4 := h3.keep (w' := w9.setCell ⟨w.heap.size, k, none⟩ (.slice A9 n9 c9)) (fun j hj _ => Below.heap_setCell w9 _ _ j (by simp only; omega))
          simpa [World.setCell] using h4
        · exact (hbw.trans (hb9.mono hbw.size)).setCell (Nat.le_refl _) _
      case measure => simp [intOf]; omega
    · obtain rfl : k = n := by omega
      go_wp2
      go_ret
      have hxl : xss.take k = xss := List.take_of_length_le (by rw [hx.len]; exact Nat.le_refl _)
      rw [hxl] at hrows
      exact ⟨_, _, _, S, rfl, ⟨w.heap.size + 1, by omega, ⟨by simpa using hown, fun j hj => by simp [blk] at hj; omega⟩, hrows⟩, hbw⟩
end Go.Proofs.Ytaelaldgohppeaa
