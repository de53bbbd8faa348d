/-
  Contracts of the store's functions that test a state and take a group's part of it.
-/
import Derived.Test.YtaelaldgohppeaaSameK
import Derived.Deep.RegionHeld3
import Derived.Deep.DeepCutAuto
import Derived.IntWalk
namespace Go.Proofs.Ytaelaldgohppeaa
open Go.RowKit
set_option linter.unusedVariables false

/-- A state is valid. -/
def svB (xs : List Int) : Bool := decide (xs.length = 15) && inR xs 0 999

theorem implStoreValid_any (A : Option Addr) (n c B : Nat) (xs : List Int) (w : World) (hr : Ints w B A n xs) (hn : n ≤ 1048576) :
    Calls Try.prog 27 #[.slice A n c] w fun e w' => e = .returned (.bool (svB xs)) ∧ w = w' := by
  have HL := Lib.hid hr.len
  by_cases h : n = 15
  · subst h
    go_enter Try.func27, Try.ntmps27
    go_wp2_with (go_at_call 69; refine (inRange_any _ _ _ B xs _ _ _ hr (by omega)).mono ?_; rintro e w' ⟨rfl, rfl⟩)
    go_ret
    exact ⟨ret_bool (by simp [svB, HL.out]), rfl⟩
  · have hd : ((n : Int) == 15) = false := by simp; omega
    have H := Lib.hid h
    clear h
    go_enter Try.func27, Try.ntmps27
    go_wp2
    go_ret
    exact ⟨ret_bool (by simp [svB, HL.out, H.out]), rfl⟩
theorem specStoreValid_any (A : Option Addr) (n c B : Nat) (xs : List Int) (w : World) (hr : Ints w B A n xs) (hn : n ≤ 1048576) :
    Calls Try.prog 25 #[.slice A n c] w fun e w' => e = .returned (.bool (svB xs)) ∧ w = w' := by
  have HL := Lib.hid hr.len
  go_enter Try.func25, Try.ntmps25
  go_wp2
  go_loop [3] (fun i => ∃ k : Nat, k ≤ n ∧ i = .int .i64 k ∧ inR (xs.take k) 0 999 = true) (fun i => n - (intOf i).toNat)
  case atStart => exact ⟨0, Nat.zero_le _, rfl, by simp [inR]⟩
  case round =>
    obtain ⟨k, hk, rfl, hall⟩ := hrel
    have HA := Lib.hid hall
    clear hall
    by_cases hlt : k < n
    · obtain ⟨ad, x, rfl, hb, hc, hx1, hs⟩ := hr.elem hlt
      cases h1 : inB x 0 999
      · go_wp2_with (go_at_call 68; refine (l6In_any _ _ _ _).mono ?_; rintro e w' ⟨rfl, rfl⟩)
        go_ret
        exact ⟨ret_bool (by simp [svB, inR_false hx1.out h1]), rfl⟩
      · go_wp2_with (go_at_call 68; refine (l6In_any _ _ _ _).mono ?_; rintro e w' ⟨rfl, rfl⟩)
        go_round
        case rel => exact ⟨k + 1, by omega, by go_num, inR_snoc hs.out h1 HA.out⟩
        case measure => simp [intOf]; omega
    · have hkn : k = n := by omega
      subst hkn
      have HX : Hid (inR xs 0 999 = true) := by rw [← HA.out, List.take_of_length_le (by rw [HL.out]; exact Nat.le_refl _)]; rfl
      clear HA
      by_cases h : k = 15
      · subst h
        go_wp2
        go_ret
        exact ⟨ret_bool (by simp [svB, HX.out, HL.out]), rfl⟩
      · have hd : ((k : Int) == 15) = false := by simp; omega
        have H := Lib.hid h
        clear h
        go_wp2
        go_ret
        exact ⟨ret_bool (by simp [svB, HL.out, H.out]), rfl⟩
theorem isGroup_any (g : Int) (w : World) : Calls Try.prog 71 #[.int .i64 g] w fun e w' => e = .returned (.bool (inB g 0 4)) ∧ w = w' := by
  by_cases h0 : g < 0
  · go_enter Try.func71, Try.ntmps71
    go_wp2
    go_ret
    exact ⟨ret_bool (inB_low h0).symm, rfl⟩
  by_cases h4 : 4 < g
  · go_enter Try.func71, Try.ntmps71
    go_wp2
    go_ret
    exact ⟨ret_bool (by rw [inB_high h4]; simp; omega), rfl⟩
  · go_enter Try.func71, Try.ntmps71
    go_wp2
    go_ret
    exact ⟨ret_bool (by rw [inB_in (show 0 ≤ g by omega) (show g ≤ 4 by omega)]; simp; omega), rfl⟩
theorem l1Group_any (g : Int) (w : World) : Calls Try.prog 70 #[.int .i64 g] w fun e w' => e = .returned (.bool (inB g 0 4)) ∧ w = w' := by
  go_enter Try.func70, Try.ntmps70
  go_wp2_with (go_at_call 68; refine (l6In_any _ _ _ _).mono ?_; rintro e w' ⟨rfl, rfl⟩)
  go_ret
  exact ⟨rfl, rfl⟩
/-- A group's values. -/
def partJ (xs : List Int) (g j : Nat) : List Int := (List.range j).map fun i => xs.getD (g + 5 * i) 0
def partK (xs : List Int) (g k : Nat) : List Int := ((List.range k).filter fun i => i % 5 == g).map fun i => xs.getD i 0
theorem part_eq (xs : List Int) (g : Nat) (h : g < 5) : partK xs g 15 = partJ xs g 3 := by
  rcases (by omega : g = 0 ∨ g = 1 ∨ g = 2 ∨ g = 3 ∨ g = 4) with rfl | rfl | rfl | rfl | rfl <;> rfl
theorem partJ_succ (xs : List Int) (g j : Nat) : partJ xs g (j + 1) = partJ xs g j ++ [xs.getD (g + 5 * j) 0] := by simp [partJ, List.range_succ]
theorem partK_yes {xs : List Int} {g k : Nat} (h : k % 5 = g) : partK xs g (k + 1) = partK xs g k ++ [xs.getD k 0] := by simp [partK, List.range_succ, h]
theorem partK_no {xs : List Int} {g k : Nat} (h : ¬ k % 5 = g) : partK xs g (k + 1) = partK xs g k := by simp [partK, List.range_succ, h]
theorem partK_len (xs : List Int) (g k : Nat) : (partK xs g k).length ≤ k := by
  have := List.length_filter_le (fun i => i % 5 == g) (List.range k)
  simpa [partK] using this
def spart (xs : List Int) (g : Int) : List Int := if svB xs && inB g 0 4 then partJ xs g.toNat 3 else []
theorem spart_len (xs : List Int) (g : Int) : (spart xs g).length ≤ 3 := by
  unfold spart; split
  · simp [partJ]
  · simp
theorem sv_len {xs : List Int} (h : svB xs = true) : xs.length = 15 := by
  simp only [svB, Bool.and_eq_true, decide_eq_true_eq] at h
  exact h.1
set_option maxHeartbeats 1000000 in
theorem implPart_any (A : Option Addr) (n c : Nat) (xs : List Int) (g : Int) (w : World) (hx : Ints w w.heap.size A n xs) (hn : n ≤ 1048576) :
    Calls Try.prog 30 #[.slice A n c, .int .i64 g] w (RetInts (spart xs g) w) := by
  have HL := Lib.hid hx.len
  cases h1 : svB xs
  · have e1 : spart xs g = [] := by simp [spart, h1]
    rw [e1]
    clear e1
    go_enter Try.func30, Try.ntmps30
    go_wp2_with (first | (go_at_call 27; refine (implStoreValid_any _ _ _ w.heap.size xs _ hx hn).mono ?_; rintro e w' ⟨rfl, rfl⟩) | (go_at_call 71; refine (isGroup_any _ _).mono ?_; rintro e w' ⟨rfl, rfl⟩))
    go_ret
    exact ⟨none, 0, 0, rfl, Own.nil _ _, Below.refl _ _⟩
  cases h2 : inB g 0 4
  · have e1 : spart xs g = [] := by simp [spart, h2]
    rw [e1]
    clear e1
    go_enter Try.func30, Try.ntmps30
    go_wp2_with (first | (go_at_call 27; refine (implStoreValid_any _ _ _ w.heap.size xs _ hx hn).mono ?_; rintro e w' ⟨rfl, rfl⟩) | (go_at_call 71; refine (isGroup_any _ _).mono ?_; rintro e w' ⟨rfl, rfl⟩))
    go_ret
    exact ⟨none, 0, 0, rfl, Own.nil _ _, Below.refl _ _⟩
  have h2' : 0 ≤ g ∧ g ≤ 4 := by simpa [inB] using h2
  obtain ⟨g0, g4⟩ := h2'
  obtain ⟨G, rfl⟩ := Int.eq_ofNat_of_zero_le g0
  have e1 : spart xs (G : Int) = partJ xs G 3 := by simp [spart, h1, h2]
  rw [e1]
  obtain rfl : n = 15 := by rw [← HL.out]; exact sv_len h1
  clear e1
  go_enter Try.func30, Try.ntmps30
  go_wp2_with (first | (go_at_call 27; refine (implStoreValid_any _ _ _ w.heap.size xs _ hx hn).mono ?_; rintro e w' ⟨rfl, rfl⟩) | (go_at_call 71; refine (isGroup_any _ _).mono ?_; rintro e w' ⟨rfl, rfl⟩))
  go_loopw [5, 6] (fun s i wr => ∃ (j : Nat) (A2 : Option Addr) (c2 : Nat), j ≤ 3 ∧ i = .int .i64 ((G : Int) + 5 * (j : Int)) ∧ s = .slice A2 j c2 ∧ Own wr w.heap.size A2 j c2 (partJ xs G j) ∧ Below w.heap.size w wr) (fun _ i _ => 20 - (intOf i).toNat)
  case atStart => exact ⟨0, _, 0, by omega, by simp, rfl, by (refine Own.lit0 ?_ ?_ <;> first | omega | (simp; done) | (simp; omega)), (by repeat' (first | with_reducible exact Below.refl _ _ | with_reducible assumption | with_reducible refine Below.setCell ?_ (by first | omega | (simp; done) | (simp; omega)) _ | with_reducible refine Below.alloc ?_ (by first | omega | (simp; done) | (simp; omega)) _ | with_reducible refine below_drewN ?_ _ | with_reducible refine Below.drew ?_ | (with_reducible refine Below.trans ?_ (Below.mono (by with_reducible assumption) (by first | omega | (simp; done) | (simp; omega))))))⟩
  case round =>
    obtain ⟨j, A2, c2, hj, rfl, rfl, ho, hbw⟩ := hrel
    have z := hbw.size
    by_cases hlt : j < 3
    · obtain ⟨ad, x, rfl, hb, hc, hx1, hs⟩ := (hx.below hbw).elem (k := G + 5 * j) (by omega)
      have hcx : wr.cell? (ad.add (G + 5 * j)) = some (.int .i64 x) := hc
      have hi : ((G : Int) + 5 * (j : Int)).toNat = G + 5 * j := by omega
      have hxv : xs.getD (G + 5 * j) 0 = x := by rw [List.getD_eq_getElem?_getD, hx1.out]; rfl
      have HX := Lib.hid hxv
      clear hxv hc
      go_wp2_with (at_builtin; refine app1 rfl _ _ rfl w.heap.size rfl (ho.alloc _) _ _ _ _ [x] rfl (Ints.one' _ (by first | omega | (simp; done) | (simp; omega))) (by omega) (by simp; omega) ?_; intro A3 c3 w3 o3 hg3 at3)
      go_roundw
      case rel => exact ⟨j + 1, A3, c3, by omega, by go_num, rfl, by rw [partJ_succ, HX.out]; exact o3, Below.grown (hbw.alloc z _) hg3 (by simp; omega) (fun i hi => (ho.lt hi).1)⟩
      case measure => simp [intOf]; omega
    · obtain rfl : j = 3 := by omega
      go_wp2
      go_ret
      exact ⟨A2, 3, c2, rfl, ho, hbw⟩
set_option maxHeartbeats 1000000 in
theorem specPart_any (A : Option Addr) (n c : Nat) (xs : List Int) (g : Int) (w : World) (hx : Ints w w.heap.size A n xs) (hn : n ≤ 1048576) :
    Calls Try.prog 29 #[.slice A n c, .int .i64 g] w (RetInts (spart xs g) w) := by
  have HL := Lib.hid hx.len
  cases h1 : svB xs && inB g 0 4
  · have e1 : spart xs g = [] := by simp only [spart, h1]; rfl
    rw [e1]
    clear e1
    go_enter Try.func29, Try.ntmps29
    go_wp2
    go_loopw [5, 6] (fun s i wr => ∃ (A2 : Option Addr) (c2 : Nat), i = .int .i64 0 ∧ s = .slice A2 0 c2 ∧ Own wr w.heap.size A2 0 c2 [] ∧ Below w.heap.size w wr) (fun _ _ _ => 0)
    case atStart => exact ⟨_, _, rfl, rfl, by (refine Own.lit0 ?_ ?_ <;> first | omega | (simp; done) | (simp; omega)), (by repeat' (first | with_reducible exact Below.refl _ _ | with_reducible assumption | with_reducible refine Below.setCell ?_ (by first | omega | (simp; done) | (simp; omega)) _ | with_reducible refine Below.alloc ?_ (by first | omega | (simp; done) | (simp; omega)) _ | with_reducible refine below_drewN ?_ _ | with_reducible refine Below.drew ?_ | (with_reducible refine Below.trans ?_ (Below.mono (by with_reducible assumption) (by first | omega | (simp; done) | (simp; omega))))))⟩
    case round =>
      obtain ⟨A2, c2, rfl, rfl, ho, hbw⟩ := hrel
      have X := hx.below hbw
      cases h2 : svB xs
      · go_wp2_with (first | (go_at_call 25; refine (specStoreValid_any _ _ _ w.heap.size xs _ X hn).mono ?_; rintro e w' ⟨rfl, rfl⟩) | (go_at_call 70; refine (l1Group_any _ _).mono ?_; rintro e w' ⟨rfl, rfl⟩))
        go_ret
        exact ⟨A2, 0, c2, rfl, ho, hbw⟩
      · have h3 : inB g 0 4 = false := by simpa [h2] using h1
        go_wp2_with (first | (go_at_call 25; refine (specStoreValid_any _ _ _ w.heap.size xs _ X hn).mono ?_; rintro e w' ⟨rfl, rfl⟩) | (go_at_call 70; refine (l1Group_any _ _).mono ?_; rintro e w' ⟨rfl, rfl⟩))
        go_ret
        exact ⟨A2, 0, c2, rfl, ho, hbw⟩
  · simp only [Bool.and_eq_true] at h1
    obtain ⟨h1, h2⟩ := h1
    have h2' : 0 ≤ g ∧ g ≤ 4 := by simpa [inB] using h2
    obtain ⟨g0, g4⟩ := h2'
    obtain ⟨G, rfl⟩ := Int.eq_ofNat_of_zero_le g0
    have e1 : spart xs (G : Int) = partK xs G 15 := by rw [part_eq xs G (by omega)]; simp [spart, h1, h2]
    rw [e1]
    obtain rfl : n = 15 := by rw [← HL.out]; exact sv_len h1
    clear e1
    go_enter Try.func29, Try.ntmps29
    go_wp2
    go_loopw [5, 6] (fun s i wr => ∃ (k : Nat) (A2 : Option Addr) (n2 c2 : Nat), k ≤ 15 ∧ i = .int .i64 k ∧ s = .slice A2 n2 c2 ∧ n2 ≤ k ∧ Own wr w.heap.size A2 n2 c2 (partK xs G k) ∧ Below w.heap.size w wr) (fun _ i _ => 15 - (intOf i).toNat)
    case atStart => exact ⟨0, _, 0, 0, by omega, rfl, rfl, by omega, by (refine Own.lit0 ?_ ?_ <;> first | omega | (simp; done) | (simp; omega)), (by repeat' (first | with_reducible exact Below.refl _ _ | with_reducible assumption | with_reducible refine Below.setCell ?_ (by first | omega | (simp; done) | (simp; omega)) _ | with_reducible refine Below.alloc ?_ (by first | omega | (simp; done) | (simp; omega)) _ | with_reducible refine below_drewN ?_ _ | with_reducible refine Below.drew ?_ | (with_reducible refine Below.trans ?_ (Below.mono (by with_reducible assumption) (by first | omega | (simp; done) | (simp; omega))))))⟩
    case round =>
      obtain ⟨k, A2, n2, c2, hk, rfl, rfl, hn2, ho, hbw⟩ := hrel
      have X := hx.below hbw
      have z := hbw.size
      by_cases hlt : k < 15
      · obtain ⟨ad, x, rfl, hb, hc, hx1, hs⟩ := X.elem hlt
        have hxv : xs.getD k 0 = x := by rw [List.getD_eq_getElem?_getD, hx1.out]; rfl
        have HX := Lib.hid hxv
        clear hxv
        by_cases hm : k % 5 = G
        · have hd : ((k : Int) % 5 == (G : Int)) = true := by rw [beq_iff_eq]; omega
          have HM := Lib.hid hm
          clear hm
          go_wp2_with (first | (go_at_call 25; refine (specStoreValid_any _ _ _ w.heap.size xs _ X hn).mono ?_; rintro e w' ⟨rfl, rfl⟩) | (go_at_call 70; refine (l1Group_any _ _).mono ?_; rintro e w' ⟨rfl, rfl⟩) | (at_builtin; refine app1 rfl _ _ rfl w.heap.size rfl (ho.alloc _) _ _ _ _ [x] rfl (Ints.one' _ (by first | omega | (simp; done) | (simp; omega))) (by omega) (by simp; omega) ?_; intro A3 c3 w3 o3 hg3 at3))
          go_roundw
          case rel => exact ⟨k + 1, A3, n2 + 1, c3, by omega, by go_num, rfl, by omega, by rw [partK_yes HM.out, HX.out]; exact o3, Below.grown (hbw.alloc z _) hg3 (by simp; omega) (fun i hi => (ho.lt hi).1)⟩
          case measure => simp [intOf]; omega
        · have hd : ((k : Int) % 5 == (G : Int)) = false := by rw [beq_eq_false_iff_ne]; omega
          have HM := Lib.hid hm
          clear hm
          go_wp2_with (first | (go_at_call 25; refine (specStoreValid_any _ _ _ w.heap.size xs _ X hn).mono ?_; rintro e w' ⟨rfl, rfl⟩) | (go_at_call 70; refine (l1Group_any _ _).mono ?_; rintro e w' ⟨rfl, rfl⟩))
          go_roundw
          case rel => exact ⟨k + 1, A2, n2, c2, by omega, by go_num, rfl, by omega, by rw [partK_no HM.out]; exact ho, hbw⟩
          case measure => simp [intOf]; omega
      · have hk15 : k = 15 := by omega
        subst hk15
        go_wp2_with (first | (go_at_call 25; refine (specStoreValid_any _ _ _ w.heap.size xs _ X hn).mono ?_; rintro e w' ⟨rfl, rfl⟩) | (go_at_call 70; refine (l1Group_any _ _).mono ?_; rintro e w' ⟨rfl, rfl⟩))
        go_ret
        exact ⟨A2, n2, c2, rfl, ho, hbw⟩
theorem implSV_any (A : Option Addr) (n c : Nat) (xs : List Int) (w : World) (hx : Ints w w.heap.size A n xs) (hn : n ≤ 1048576) : Calls Try.prog 27 #[.slice A n c] w (RetV (.bool (svB xs)) w) :=
  (implStoreValid_any A n c w.heap.size xs w hx hn).mono fun e w' ⟨h1, h2⟩ => ⟨h1, h2 ▸ Below.refl _ _⟩
theorem specSV_any (A : Option Addr) (n c : Nat) (xs : List Int) (w : World) (hx : Ints w w.heap.size A n xs) (hn : n ≤ 1048576) : Calls Try.prog 25 #[.slice A n c] w (RetV (.bool (svB xs)) w) :=
  (specStoreValid_any A n c w.heap.size xs w hx hn).mono fun e w' ⟨h1, h2⟩ => ⟨h1, h2 ▸ Below.refl _ _⟩
end Go.Proofs.Ytaelaldgohppeaa
