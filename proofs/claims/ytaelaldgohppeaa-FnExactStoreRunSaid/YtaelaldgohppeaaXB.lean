/-
  Contracts of the exact laws' own functions on lists of bools: equal lists, marks, marks held.
-/
import Derived.Test.YtaelaldgohppeaaXX
import Derived.Test.YtaelaldgohppeaaR3
namespace Go.Proofs.Ytaelaldgohppeaa
open Go.RowKit
set_option linter.unusedVariables false

theorem eqBoolS_same (A A' : Option Addr) (n c m c' : Nat) (bs : List Bool) (w : World) (hx : Bools w w.heap.size A n bs) (hy : Bools w w.heap.size A' m bs) (hn : n ≤ 1048576) :
    Calls Try.prog 63 #[.slice A n c, .slice A' m c'] w (RetV (.bool true) w) := by
  have hlx := Lib.hid hx.len
  have hly := Lib.hid hy.len
  obtain rfl : n = m := by rw [← hlx.out, ← hly.out]
  go_enter Try.func63, Try.ntmps63
  go_wp2
  go_loopw [5] (fun i wr => ∃ k : Nat, k ≤ n ∧ i = .int .i64 k ∧ ∃ d, wr = w.drewN d) (fun i _ => n - (intOf i).toNat)
  case atStart => exact ⟨0, Nat.zero_le _, rfl, 0, rfl⟩
  case round =>
    obtain ⟨k, hk, rfl, d, rfl⟩ := hrel
    by_cases hlt : k < n
    · obtain ⟨ad, x, rfl, hb, hc, hx1, hs⟩ := hx.el hlt
      obtain ⟨ad', y, rfl, hb', hc', hy1, hs'⟩ := hy.el hlt
      obtain rfl : x = y := by have h1 := hx1.out; rw [hy1.out] at h1; injection h1 with h1; exact h1.symm
      have hd : (x != x) = false := by simp
      go_wp2
      go_quiet (fail)
      go_wp2
      go_roundw
      case rel => exact ⟨k + 1, by omega, by go_num, _, rfl⟩
      case measure => simp [intOf]; omega
    · have : k = n := by omega
      subst this
      go_wp2
      go_ret
      exact ⟨rfl, below_drewN (Below.refl _ _) _⟩
/-- The bools that marks lay. -/
def markB (k : Int) : Bool := k % 3 == 0
def marksB (k : Int) (n : Nat) : List Bool := (List.range n).map fun (i : Nat) => markB (k + (i : Int))
theorem marksB_length (k : Int) (n : Nat) : (marksB k n).length = n := by simp [marksB]
theorem marksB_get (k : Int) (n j : Nat) (h : j < n) : (marksB k n)[j]? = some (markB (k + (j : Int))) := by simp [marksB, h]
theorem marksB_snoc (k : Int) (j : Nat) : marksB k (j + 1) = marksB k j ++ [markB (k + (j : Int))] := by simp [marksB, List.range_succ]
def markedB (bs : List Bool) (k : Int) (j : Nat) : List Bool := marksB k j ++ bs.drop j
theorem markedB_zero (bs : List Bool) (k : Int) : markedB bs k 0 = bs := by simp [markedB, marksB]
theorem markedB_all (bs : List Bool) (k : Int) (n : Nat) (h : bs.length ≤ n) : markedB bs k n = marksB k n := by simp [markedB, List.drop_eq_nil_of_le h]
theorem markedB_set (bs : List Bool) (k : Int) (j : Nat) (h : j < bs.length) : (markedB bs k j).set j (markB (k + (j : Int))) = markedB bs k (j + 1) := by
  unfold markedB
  have hl := marksB_length k j
  rw [List.drop_eq_getElem_cons h, List.set_append_right _ _ (by omega), hl, Nat.sub_self, List.set_cons_zero, marksB_snoc, List.append_assoc]
  rfl
theorem OwnB.form {w : World} {base n c : Nat} {A : Option Addr} {bs : List Bool} (h : OwnB w base A n c bs) (hn : 0 < n) : ∃ g, A = some ⟨g, 0, none⟩ ∧ base ≤ g ∧ g < w.heap.size := by
  obtain ⟨g, cap, hv, hb, hlt⟩ := World.ownsRow.form h hn
  injection hv with hA
  exact ⟨g, hA, hb, hlt⟩
theorem OwnB.cellAt {w : World} {base g n c : Nat} {bs : List Bool} (h : OwnB w base (some ⟨g, 0, none⟩) n c bs) {k : Nat} (hk : k < n) : ∃ b : Bool, w.cell? ⟨g, k, none⟩ = some (.bool b) ∧ w.frozen? ⟨g, k, none⟩ = false := by
  have hl : k < bs.length := by rw [h.len]; exact hk
  refine ⟨bs[k], ?_, World.ownsRow.frozenAt h k⟩
  rw [World.ownsRow.cellAt h k (by omega)]
  simp [bv, hl]
theorem OwnB.stored {w : World} {base g n c : Nat} {bs : List Bool} (h : OwnB w base (some ⟨g, 0, none⟩) n c bs) (k : Nat) (x : Bool) : OwnB (w.setCell ⟨g, k, none⟩ (.bool x)) base (some ⟨g, 0, none⟩) n c (bs.set k x) := by
  have := World.ownsRow.stored h k (.bool x)
  unfold OwnB bv
  rw [List.map_set]
  exact this.1
def RowB (w : World) (b e : Nat) (A : Option Addr) (n c : Nat) (bs : List Bool) : Prop := Row 4 1 w b e A n c (bv bs)
section
variable {w w' : World} {b b' e e' n c : Nat} {A : Option Addr} {bs : List Bool}
theorem rowB (h : OwnB w b A n c bs) : RowB w b w.heap.size A n c bs := Row.mk' h
theorem RowB.keep (h : RowB w b e A n c bs) (hs : Same b e w w') : RowB w' b e A n c bs := Row.keep h hs
theorem RowB.mono (h : RowB w b e A n c bs) (hb : b' ≤ b) (he : e ≤ e') : RowB w b' e' A n c bs := Row.mono h hb he
theorem RowB.bools (h : RowB w b e A n c bs) {B : Nat} (hB : e ≤ B) : Bools w B A n bs := Row.reads h hB
theorem RowB.len (h : RowB w b e A n c bs) : bs.length = n := by have := Row.len h; rw [bv_length] at this; omega
end
def MarkedB (b e : Nat) (A : Option Addr) (n c : Nat) (k : Int) (w : World) (r : Ending) (w' : World) : Prop := r = .returned (.int .i64 (k + n)) ∧ RowB w' b e A n c (marksB k n) ∧ Touch b e w w'
theorem markBoolS_any (A : Option Addr) (n c base : Nat) (bs : List Bool) (k : Int) (w : World) (hr : OwnB w base A n c bs) (h0 : 0 ≤ k) (hk : k ≤ 8388608) (hn : n ≤ 1048576) :
    Calls Try.prog 66 #[.slice A n c, .int .i64 k] w fun e w' => e = .returned (.int .i64 (k + n)) ∧ OwnB w' base A n c (marksB k n) ∧ w.grownBy w' (blk A) := by
  have hlx := Lib.hid hr.len
  go_enter Try.func66, Try.ntmps66
  go_wp2
  go_loopw [1, 5] (fun q i wr => ∃ j : Nat, j ≤ n ∧ i = .int .i64 j ∧ q = .int .i64 (k + j) ∧ OwnB wr base A n c (markedB bs k j) ∧ w.grownBy wr (blk A)) (fun _ i _ => n - (intOf i).toNat)
  case atStart => exact ⟨0, Nat.zero_le _, rfl, by simp, by rw [markedB_zero]; exact hr, World.grownBy.refl w _⟩
  case round =>
    obtain ⟨j, hj, rfl, rfl, hown, hg⟩ := hrel
    by_cases hlt : j < n
    · obtain ⟨g, rfl, hb, hgl⟩ := hown.form (by omega)
      obtain ⟨u, hc2, hf2⟩ := hown.cellAt hlt
      have HS := Lib.hid (markedB_set bs k j (by rw [hlx.out]; exact hlt))
      generalize hK : k + (j : Int) = K at *
      have K0 : 0 ≤ K := by omega
      have K1 : K ≤ 16777216 := by omega
      have HKK := Lib.hid hK
      clear hK
      go_wp2
      go_roundw
      case rel =>
        refine ⟨j + 1, by omega, by go_num, by have := HKK.out; go_num, ?_, grown_set (p := ⟨g, j, none⟩) hg rfl _⟩
        rw [← HS.out]
        exact hown.stored j _
      case measure => simp [intOf]; omega
    · have : j = n := by omega
      subst this
      go_wp2
      go_ret
      exact ⟨rfl, by rw [markedB_all bs k j (by rw [hlx.out]; exact Nat.le_refl _)] at hown; exact hown, hg⟩
theorem markBoolS_t (A : Option Addr) (n c b e : Nat) (bs : List Bool) (k : Int) (w : World) (hr : RowB w b e A n c bs) (h0 : 0 ≤ k) (hk : k ≤ 8388608) (hn : n ≤ 1048576) :
    Calls Try.prog 66 #[.slice A n c, .int .i64 k] w (MarkedB b e A n c k w) :=
  (markBoolS_any A n c b bs k w hr.1 h0 hk hn).mono fun r w' ⟨h1, h2, h3⟩ => ⟨h1, ⟨h2, hr.2⟩, Touch.of_grown h3 (fun k hk => ⟨((show OwnB w b A n c bs from hr.1).lt hk).1, hr.2 k hk⟩)⟩
theorem heldBoolS_v (A : Option Addr) (n c : Nat) (k : Int) (w : World) (hr : Bools w w.heap.size A n (marksB k n)) (h0 : 0 ≤ k) (hk : k ≤ 8388608) (hn : n ≤ 1048576) :
    Calls Try.prog 67 #[.slice A n c, .int .i64 k] w (RetV (.int .i64 (k + n)) w) := by
  go_enter Try.func67, Try.ntmps67
  go_wp2
  go_loopw [1, 5] (fun q i wr => ∃ j : Nat, j ≤ n ∧ i = .int .i64 j ∧ q = .int .i64 (k + j) ∧ wr = w) (fun _ i _ => n - (intOf i).toNat)
  case atStart => exact ⟨0, Nat.zero_le _, rfl, by simp, rfl⟩
  case round =>
    obtain ⟨j, hj, rfl, rfl, rfl⟩ := hrel
    by_cases hlt : j < n
    · obtain ⟨ad, x, rfl, hb, hc, hx1, hs⟩ := hr.el hlt
      have hx : ((k + (j : Int)) % 3 == 0) = x := by have h1 := hx1.out; rw [marksB_get k n j hlt] at h1; injection h1
      subst hx
      have K0 : 0 ≤ k + (j : Int) := by omega
      clear hx1 hs
      go_wp2
      go_roundw
      case rel => exact ⟨j + 1, by omega, by go_num, by go_num, by simp⟩
      case measure => simp [intOf]; omega
    · have : j = n := by omega
      subst this
      go_wp2
      go_ret
      exact ⟨rfl, Below.refl _ _⟩
end Go.Proofs.Ytaelaldgohppeaa
