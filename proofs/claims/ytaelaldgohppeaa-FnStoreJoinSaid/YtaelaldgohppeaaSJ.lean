/-
  impl.StoreJoin: five parts of three numbers put together.
-/
import Derived.Test.YtaelaldgohppeaaSS
import Derived.Test.YtaelaldgohppeaaS1
import Derived.Test.YtaelaldgohppeaaLists
import Derived.Deep.RegionWith
import Derived.IntWalk
namespace Go.Proofs.Ytaelaldgohppeaa
open Go.RowKit
set_option linter.unusedVariables false

/-- The joined row, of which the first p parts and q numbers of part p are laid. -/
def fillP (xss : List (List Int)) (p q : Nat) : List Int := (List.range 15).map fun i => if i % 5 < p ∨ (i % 5 = p ∧ i / 5 < q) then (xss.getD (i % 5) []).getD (i / 5) 0 else 0
theorem fill_len (xss : List (List Int)) (p q : Nat) : (fillP xss p q).length = 15 := by simp [fillP]
theorem fill_zero (xss : List (List Int)) : fillP xss 0 0 = List.replicate 15 0 := by
  refine List.ext_getElem (by simp [fillP]) (fun i h1 h2 => ?_)
  rw [List.getElem_replicate]
  simp only [fillP, List.getElem_map, List.getElem_range]
  rw [if_neg (by omega)]
theorem fill_set (xss : List (List Int)) {p q ix : Nat} {x : Int} (hp : p < 5) (hq : q < 3) (hi : ix = p + q * 5) (hx : (xss.getD p []).getD q 0 = x) : (fillP xss p q).set ix x = fillP xss p (q + 1) := by
  refine List.ext_getElem (by simp [fillP]) (fun i h1 h2 => ?_)
  rw [List.getElem_set]
  by_cases h : ix = i
  · have e1 : i % 5 = p := by omega
    have e2 : i / 5 = q := by omega
    rw [if_pos h]
    simp only [fillP, List.getElem_map, List.getElem_range, e1, e2]
    rw [if_pos (Or.inr ⟨trivial, Nat.lt_succ_self q⟩), hx]
  · rw [if_neg h]
    simp only [fillP, List.getElem_map, List.getElem_range]
    have : (i % 5 < p ∨ i % 5 = p ∧ i / 5 < q) ↔ (i % 5 < p ∨ i % 5 = p ∧ i / 5 < q + 1) := by omega
    simp only [this]
theorem fill_next (xss : List (List Int)) (p : Nat) : fillP xss p 3 = fillP xss (p + 1) 0 := by
  refine List.ext_getElem (by simp [fillP]) (fun i h1 h2 => ?_)
  simp only [fillP, List.getElem_map, List.getElem_range]
  have hi : i < 15 := by simpa [fillP] using h1
  have : (i % 5 < p ∨ i % 5 = p ∧ i / 5 < 3) ↔ (i % 5 < p + 1 ∨ i % 5 = p + 1 ∧ i / 5 < 0) := by omega
  simp only [this]
/-- All parts are three long. -/
def three (xss : List (List Int)) : Bool := xss.all fun xs => xs.length == 3
/-- What StoreJoin gives. -/
def sjL (xss : List (List Int)) : List Int := if xss.length = 5 ∧ three xss = true ∧ svB (fillP xss 5 0) = true then fillP xss 5 0 else []
theorem sjL_no5 {xss : List (List Int)} (h : xss.length ≠ 5) : sjL xss = [] := by unfold sjL; rw [if_neg (fun hh => h hh.1)]
theorem sjL_no3 {xss : List (List Int)} {k : Nat} {xs : List Int} (hk : xss[k]? = some xs) (h : xs.length ≠ 3) : sjL xss = [] := by
  unfold sjL
  rw [if_neg]
  intro hh
  have := List.all_eq_true.1 hh.2.1 xs (List.mem_of_getElem? hk)
  exact h (by simpa using this)

theorem sjL_bad {xss : List (List Int)} (h : svB (fillP xss 5 0) = false) : sjL xss = [] := by
  unfold sjL
  rw [if_neg]
  intro hh
  rw [h] at hh
  exact absurd hh.2.2 (by simp)
theorem sjL_ok {xss : List (List Int)} (h5 : xss.length = 5) (h3 : three xss = true) (h : svB (fillP xss 5 0) = true) : sjL xss = fillP xss 5 0 := by
  unfold sjL
  rw [if_pos ⟨h5, h3, h⟩]
theorem three_of {xss : List (List Int)} (h5 : xss.length = 5) (h : ∀ (k : Nat) (xs : List Int), k < 5 → xss[k]? = some xs → xs.length = 3) : three xss = true := by
  unfold three
  rw [List.all_eq_true]
  intro xs hm
  obtain ⟨k, hk, he⟩ := List.mem_iff_getElem.1 hm
  have := h k xs (by omega) (by rw [List.getElem?_eq_getElem hk, he])
  simpa using this

set_option maxHeartbeats 4000000 in
theorem implSJ_any (A : Option Addr) (n c : Nat) (R : List (Option Addr × Nat × Nat)) (xss : List (List Int)) (w : World) (hx : IntSS w w.heap.size A n R xss) (hn : n ≤ 1048576) :
    Calls Try.prog 35 #[.slice A n c] w (RetInts (sjL xss) w) := by
  have hlx := Lib.hid hx.len
  by_cases h5 : n = 5
  · subst h5
    go_enter Try.func35, Try.ntmps35
    go_wp2_with (at_make; refine mkn rfl _ _ rfl w.heap.size _ _ _ _ 15 rfl rfl rfl rfl (by omega) (Nat.le_refl _) ?_; intro w1 hown1 hg1)
    have hb1 : Below w.heap.size w w1 := (Below.refl _ _).grown hg1 (Nat.le_refl _) (by simp)
    go_loopw [14] (fun i wr => ∃ p : Nat, p ≤ 5 ∧ i = .int .i64 p ∧ Own wr w.heap.size (some ⟨w.heap.size, 0, none⟩) 15 15 (fillP xss p 0) ∧ Below w.heap.size w wr ∧ Hid (∀ k xs, k < p → xss[k]? = some xs → xs.length = 3)) (fun i _ => 5 - (intOf i).toNat)
    case atStart => exact ⟨0, Nat.zero_le _, rfl, by rw [fill_zero]; exact hown1, hb1, Lib.hid (fun k xs h => by omega)⟩
    case round =>
      obtain ⟨p, hp, rfl, hown, hbw, h3⟩ := hrel
      clear hown1 hg1 hb1
      by_cases hlt : p < 5
      · obtain ⟨ad, r, xs, rfl, hb, hc, hr1, hx1, hs, hl1, hi⟩ := hx.elem hlt
        obtain ⟨A1, n1, c1⟩ := r
        simp only at hc hi hl1
        have hc1 : wr.cell? (ad.add p) = some (.slice A1 n1 c1) := by rw [hbw.cell (by rw [block_of_add]; omega)]; exact hc
        have hlen := Lib.hid hi.len
        have HX1 := Lib.hid hx1
        clear hs hr1 hx1 hc
        by_cases hn3 : n1 = 3
        · subst hn3
          go_wp2
          go_loopw [24] (fun i2 wr => ∃ q : Nat, q ≤ 3 ∧ i2 = .int .i64 q ∧ Own wr w.heap.size (some ⟨w.heap.size, 0, none⟩) 15 15 (fillP xss p q) ∧ Below w.heap.size w wr) (fun i2 _ => 3 - (intOf i2).toNat)
          case atStart => exact ⟨0, by omega, rfl, hown, hbw⟩
          case round =>
            obtain ⟨q, hq, rfl, hown2, hbw2⟩ := hrel
            clear hown hbw
            by_cases hlq : q < 3
            · obtain ⟨ad1, y, rfl, hb', hcy, hy1, hys⟩ := hi.elem hlq
              have hcy1 : wr.cell? (ad1.add q) = some (.int .i64 y) := by rw [hbw2.cell (by rw [block_of_add]; omega)]; exact hcy
              obtain ⟨ix, hix⟩ : ∃ ix : Nat, ix = p + q * 5 := ⟨_, rfl⟩
              have hI : (p : Int) + (q : Int) * 5 = (ix : Int) := by omega
              have hix15 : ix < 15 := by omega
              obtain ⟨hc2, hf2⟩ := hown2.cellAt hix15
              have HIX := Lib.hid hix
              clear hix
              go_wp2
              go_roundw
              case rel =>
                refine ⟨q + 1, by omega, by go_num, ?_, hbw2.setCell (Nat.le_refl _) _⟩
                rw [← fill_set xss hlt hlq HIX.out (x := y) (by simp [List.getD, HX1.out, hy1.out])]
                exact hown2.stored ix y
              case measure => simp [intOf]; omega
            · obtain rfl : q = 3 := by omega
              go_wp2
              go_roundw
              case rel =>
                refine ⟨p + 1, by omega, by go_num, by rw [← fill_next]; exact hown2, hbw2, Lib.hid (fun k xs' hk hxs => ?_)⟩
                rcases Nat.lt_or_ge k p with h | h
                · exact h3.out k xs' h hxs
                · obtain rfl : k = p := by omega
                  rw [HX1.out] at hxs
                  rw [← Option.some.inj hxs]
                  exact hlen.out
              case measure => simp [intOf]; omega
        · go_wp2
          go_ret
          exact ⟨none, 0, 0, rfl, by rw [sjL_no3 HX1.out (by rw [hlen.out]; exact hn3)]; exact Own.nil _ _, hbw⟩
      · obtain rfl : p = 5 := by omega
        have H3 := Lib.hid (three_of hlx.out h3.out)
        go_wp2_with fail
        refine (implSV_any _ 15 15 (fillP xss 5 0) wr hown.ints (by omega)).mono ?_
        rintro e w9 ⟨rfl, hb9⟩
        cases hv : svB (fillP xss 5 0)
        · have HV := Lib.hid hv
          clear hv
          go_wp2
          go_ret
          exact ⟨none, 0, 0, rfl, by rw [sjL_bad HV.out]; exact Own.nil _ _, hbw.trans (hb9.mono hbw.size)⟩
        · have HV := Lib.hid hv
          clear hv
          go_wp2
          go_ret
          exact ⟨_, _, _, rfl, by rw [sjL_ok hlx.out H3.out HV.out]; exact hown.below hb9, hbw.trans (hb9.mono hbw.size)⟩
  · go_enter Try.func35, Try.ntmps35
    go_wp2
    go_ret
    exact ⟨none, 0, 0, rfl, by rw [sjL_no5 (by rw [hlx.out]; exact h5)]; exact Own.nil _ _, Below.refl _ _⟩
set_option maxHeartbeats 4000000 in
theorem specSJ_any (A : Option Addr) (n c : Nat) (R : List (Option Addr × Nat × Nat)) (xss : List (List Int)) (w : World) (hx : IntSS w w.heap.size A n R xss) (hn : n ≤ 1048576) :
    Calls Try.prog 37 #[.slice A n c] w (RetInts (sjL xss) w) := by
  have hlx := Lib.hid hx.len
  by_cases h5 : n = 5
  · subst h5
    go_enter Try.func37, Try.ntmps37
    go_wp2_with (at_make; refine mkn rfl _ _ rfl w.heap.size _ _ _ _ 15 rfl rfl rfl rfl (by omega) (Nat.le_refl _) ?_; intro w1 hown1 hg1)
    have hb1 : Below w.heap.size w w1 := (Below.refl _ _).grown hg1 (Nat.le_refl _) (by simp)
    go_loopw [4] (fun i wr => ∃ p : Nat, p ≤ 5 ∧ i = .int .i64 p ∧ Own wr w.heap.size (some ⟨w.heap.size, 0, none⟩) 15 15 (fillP xss p 0) ∧ Below w.heap.size w wr ∧ Hid (∀ k xs, k < p → xss[k]? = some xs → xs.length = 3)) (fun i _ => 5 - (intOf i).toNat)
    case atStart => exact ⟨0, Nat.zero_le _, rfl, by rw [fill_zero]; exact hown1, hb1, Lib.hid (fun k xs h => by omega)⟩
    case round =>
      obtain ⟨p, hp, rfl, hown, hbw, h3⟩ := hrel
      clear hown1 hg1 hb1
      by_cases hlt : p < 5
      · obtain ⟨ad, r, xs, rfl, hb, hc, hr1, hx1, hs, hl1, hi⟩ := hx.elem hlt
        obtain ⟨A1, n1, c1⟩ := r
        simp only at hc hi hl1
        have hc1 : wr.cell? (ad.add p) = some (.slice A1 n1 c1) := by rw [hbw.cell (by rw [block_of_add]; omega)]; exact hc
        have hlen := Lib.hid hi.len
        have HX1 := Lib.hid hx1
        clear hs hr1 hx1
        by_cases hn3 : n1 = 3
        · subst hn3
          go_wp2
          go_loopw [5] (fun i2 wr => ∃ q : Nat, q ≤ 3 ∧ i2 = .int .i64 q ∧ Own wr w.heap.size (some ⟨w.heap.size, 0, none⟩) 15 15 (fillP xss p q) ∧ Below w.heap.size w wr) (fun i2 _ => 3 - (intOf i2).toNat)
          case atStart => exact ⟨0, by omega, rfl, hown, hbw⟩
          case round =>
            obtain ⟨q, hq, rfl, hown2, hbw2⟩ := hrel
            clear hown hbw hc1
            have hc1 : wr.cell? (ad.add p) = some (.slice A1 3 c1) := by rw [hbw2.cell (by rw [block_of_add]; omega)]; exact hc
            by_cases hlq : q < 3
            · obtain ⟨ad1, y, rfl, hb', hcy, hy1, hys⟩ := hi.elem hlq
              have hcy1 : wr.cell? (ad1.add q) = some (.int .i64 y) := by rw [hbw2.cell (by rw [block_of_add]; omega)]; exact hcy
              obtain ⟨ix, hix⟩ : ∃ ix : Nat, ix = p + q * 5 := ⟨_, rfl⟩
              have hI : (q : Int) * 5 + (p : Int) = (ix : Int) := by omega
              have hix15 : ix < 15 := by omega
              obtain ⟨hc2, hf2⟩ := hown2.cellAt hix15
              have HIX := Lib.hid hix
              clear hix
              go_wp2
              go_roundw
              case rel =>
                refine ⟨q + 1, by omega, by go_num, ?_, hbw2.setCell (Nat.le_refl _) _⟩
                rw [← fill_set xss hlt hlq HIX.out (x := y) (by simp [List.getD, HX1.out, hy1.out])]
                exact hown2.stored ix y
              case measure => simp [intOf]; omega
            · obtain rfl : q = 3 := by omega
              go_wp2
              go_roundw
              case rel =>
                refine ⟨p + 1, by omega, by go_num, by rw [← fill_next]; exact hown2, hbw2, Lib.hid (fun k xs' hk hxs => ?_)⟩
                rcases Nat.lt_or_ge k p with h | h
                · exact h3.out k xs' h hxs
                · obtain rfl : k = p := by omega
                  rw [HX1.out] at hxs
                  rw [← Option.some.inj hxs]
                  exact hlen.out
              case measure => simp [intOf]; omega
        · go_wp2
          go_ret
          exact ⟨_, 0, _, rfl, by rw [sjL_no3 HX1.out (by rw [hlen.out]; exact hn3)]; exact Own.lit0 rfl hbw.size, hbw.alloc hbw.size _⟩
      · obtain rfl : p = 5 := by omega
        have H3 := Lib.hid (three_of hlx.out h3.out)
        go_wp2_with fail
        refine (specSV_any _ 15 15 (fillP xss 5 0) wr hown.ints (by omega)).mono ?_
        rintro e w9 ⟨rfl, hb9⟩
        cases hv : svB (fillP xss 5 0)
        · have HV := Lib.hid hv
          clear hv
          go_wp2
          go_ret
          exact ⟨_, 0, _, rfl, by rw [sjL_bad HV.out]; exact Own.lit0 rfl (hbw.trans (hb9.mono hbw.size)).size, (hbw.trans (hb9.mono hbw.size)).alloc (hbw.trans (hb9.mono hbw.size)).size _⟩
        · have HV := Lib.hid hv
          clear hv
          go_wp2
          go_ret
          exact ⟨_, _, _, rfl, by rw [sjL_ok hlx.out H3.out HV.out]; exact hown.below hb9, hbw.trans (hb9.mono hbw.size)⟩
  · go_enter Try.func37, Try.ntmps37
    go_wp2
    go_ret
    exact ⟨_, 0, _, rfl, by rw [sjL_no5 (by rw [hlx.out]; exact h5)]; exact Own.lit0 rfl (Nat.le_refl _), (Below.refl _ _).alloc (Nat.le_refl _) _⟩
end Go.Proofs.Ytaelaldgohppeaa
