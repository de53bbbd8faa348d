/-
  markIntSS: marks laid through all the rows of a slice of slices of the call's own.
-/
import Derived.Test.YtaelaldgohppeaaSSo
import Derived.Test.YtaelaldgohppeaaSSz
import Derived.Test.YtaelaldgohppeaaSameK
import Derived.Deep.RegionWith
import Derived.IntWalk
namespace Go.Proofs.Ytaelaldgohppeaa
open Go.RowKit
set_option linter.unusedVariables false

/-- The numbers from k on, laid through rows of these lengths. -/
def marksSS : Int → List (Option Addr × Nat × Nat) → List (List Int)
  | _, [] => []
  | k, r :: R => marks k r.2.1 :: marksSS (k + (r.2.1 : Int)) R
theorem marksSS_snoc (R : List (Option Addr × Nat × Nat)) (r : Option Addr × Nat × Nat) : ∀ k : Int, marksSS k (R ++ [r]) = marksSS k R ++ [marks (k + tot R) r.2.1] := by
  induction R with
  | nil => intro k; simp [marksSS, tot]
  | cons a R ih => intro k; simp only [List.cons_append, marksSS, ih, tot]; rw [Int.add_assoc]
theorem Touch.widen {b e b' e' : Nat} {w w' : World} (h : Touch b' e' w w') (h1 : b ≤ b') (h2 : e' ≤ e) : Touch b e w w' := ⟨h.os, h.tape, h.output, h.size, fun k hk hd => h.block k hk (by omega)⟩
theorem Touch.step2 {b e : Nat} {w w' w'' : World} (h : Touch b e w w') (h' : Touch b e w' w'') : Touch b e w w'' :=
  ⟨h'.os.trans h.os, h'.tape.trans h.tape, h'.output.trans h.output, Nat.le_trans h.size h'.size, fun k hk hd => (h'.block k (Nat.lt_of_lt_of_le hk h.size) hd).trans (h.block k hk hd)⟩
theorem Touch.refl2 (b e : Nat) (w : World) : Touch b e w w := ⟨rfl, rfl, rfl, Nat.le_refl _, fun _ _ _ => rfl⟩

def MarkedSS (b e : Nat) (A : Option Addr) (n c : Nat) (R : List (Option Addr × Nat × Nat)) (k : Int) (w : World) (r : Ending) (w' : World) : Prop :=
  r = .returned (.int .i64 (k + tot R)) ∧ OwnSS w' b e A n c R (marksSS k R) ∧ Touch b e w w'
set_option maxHeartbeats 2000000 in
theorem markIntSS_t (A : Option Addr) (n c b e : Nat) (R : List (Option Addr × Nat × Nat)) (xss : List (List Int)) (k : Int) (w : World) (hr : OwnSS w b e A n c R xss) (he : e ≤ w.heap.size) (h0 : 0 ≤ k) (hk : k ≤ 1048576) (hT : tot R ≤ 1048576) (hn : n ≤ 1048576) :
    Calls Try.prog 40 #[.slice A n c, .int .i64 k] w (MarkedSS b e A n c R k w) := by
  have hRl := Lib.hid hr.rlen
  have hxl := Lib.hid hr.len
  obtain ⟨m, hbm, hout, hrows⟩ := hr
  have hTT := Lib.hid hT
  clear hT
  go_enter Try.func40, Try.ntmps40
  go_wp2
  go_loopw [1, 5] (fun q i wr => ∃ (j : Nat) (x : Int) (m' : Nat), j ≤ n ∧ i = .int .i64 j ∧ q = .int .i64 (k + x) ∧ 0 ≤ x ∧ x ≤ 1048576 ∧ Hid (x = tot (R.take j)) ∧ Row 22 1 wr b m A n c (R.map sv) ∧ RowsI wr m m' (R.take j) (marksSS k (R.take j)) ∧ RowsI wr m' e (R.drop j) (xss.drop j) ∧ Touch b e w wr) (fun _ i _ => n - (intOf i).toNat)
  case atStart => exact ⟨0, 0, m, Nat.zero_le _, rfl, by simp, by omega, by omega, Lib.hid (by simp [tot]), hout, by simp [marksSS, RowsI], by simpa using hrows, Touch.refl2 _ _ _⟩
  case round =>
    obtain ⟨j, x, m', hj, rfl, rfl, hx0, hx9, hx, hout', hdone, htodo, htch⟩ := hrel
    clear hout hrows
    by_cases hlt : j < n
    · obtain ⟨ad, u, rfl, hb, hu, hc⟩ := (hout'.reads (B := m) (Nat.le_refl _)).at_ hlt
      have hRj : j < R.length := by rw [hRl.out]; exact hlt
      have hXj : j < xss.length := by rw [hxl.out]; exact hlt
      have e1 : R[j]? = some R[j] := List.getElem?_eq_getElem hRj
      rw [List.getElem?_map, e1] at hu
      have hu' : sv R[j] = u := by simpa using hu
      subst hu'
      rw [List.drop_eq_getElem_cons hRj, List.drop_eq_getElem_cons hXj] at htodo
      obtain ⟨m2, hm2, hrow, htodo⟩ := htodo
      have hnx := tot_next e1
      have hle := tot_take_le R (j + 1)
      have htk : R.take (j + 1) = R.take j ++ [R[j]] := by rw [List.take_add_one, e1]; rfl
      generalize R[j] = r at hc hrow hnx htk
      generalize xss[j] = xs at hrow
      obtain ⟨A1, n1, c1⟩ := r
      rw [← hx.out] at hnx
      simp only at hnx hrow
      have hxn : x + (n1 : Int) ≤ 1048576 := by have := hTT.out; omega
      have HNX := Lib.hid hnx
      have HTK := Lib.hid htk
      have hc' : wr.cell? (ad.add j) = some (.slice A1 n1 c1) := hc
      have hm1 := hdone.le
      have hm3 := htodo.le
      have hsz := htch.size
      clear hnx hle htk hu hc e1 hRj hXj
      go_wp2_with (go_at_call 31; refine (markIntS_t A1 n1 c1 m' m2 xs (k + x) wr hrow (by omega) (by omega) (by omega)).mono ?_; rintro q w9 ⟨rfl, o9, t9⟩; have z9 := t9.size)
      go_roundw
      case rel =>
        refine ⟨j + 1, x + (n1 : Int), m2, by omega, by go_num, by go_num, by omega, hxn, Lib.hid HNX.out.symm, Row.keep hout' (t9.same (by omega) (by omega)), ?_, htodo.keep (fun i h1 h2 => t9.block i (by omega) (by omega)), htch.step2 (t9.widen (by omega) (by omega))⟩
        have h2 := (hdone.keep (w' := w9) (fun i h1 h2 => t9.block i (by omega) (by omega))).snoc (r := (A1, n1, c1)) o9 hm2
        rw [HTK.out, marksSS_snoc, ← hx.out]
        exact h2
      case measure => simp [intOf]; omega
    · obtain rfl : j = n := by omega
      have hR2 : R.take j = R := List.take_of_length_le (by rw [hRl.out]; exact Nat.le_refl _)
      rw [hR2] at hdone
      have hxe := hx.out
      rw [hR2] at hxe
      have hm3 := htodo.le
      subst hxe
      go_wp2
      go_ret
      exact ⟨rfl, ⟨m, hbm, hout', hdone.more hm3⟩, htch⟩
end Go.Proofs.Ytaelaldgohppeaa
