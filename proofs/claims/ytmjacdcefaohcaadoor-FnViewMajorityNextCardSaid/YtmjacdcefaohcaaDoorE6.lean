/-
  Contract of the reference's ViewJoin. (Printed by gen_e6.py.)
-/
import Derived.Test.YtmjacdcefaohcaaDoorE5
namespace Go.Proofs.YtmjacdcefaohcaaDoor
open Go.RowKit
set_option linter.unusedVariables false

theorem Blk.both {w : World} {g : Nat} {t : TypeId} {a b : Value} (h : Blk w g t #[a, b]) : w.cell? ⟨g, 0, none⟩ = some a ∧ w.cell? ⟨g, 1, none⟩ = some b := ⟨h.two.1, h.two.2.1⟩
theorem Ints.drew1 {w : World} {B n : Nat} {A : Option Addr} {xs : List Int} (h : Ints w B A n xs) : Ints w.drew B A n xs := h
/-- Laying an element at its place gives what joining gives. -/
theorem join_same {q : Int} {xs : List Int} {m : Int} {k : Nat} (hv : vvB q xs = true) (hn : hasB xs m = false) (hk : k ≤ xs.length) (hlo : ∀ x ∈ xs.take k, x < m) (hhi : ∀ x, xs[k]? = some x → m ≤ x) (q' : Int) :
    gB true q' (xs.take k ++ [m] ++ xs.drop k) = gB (joinOk q xs m) q' (joinL xs m) ∧ gQ true q' (xs.take k ++ [m] ++ xs.drop k) = gQ (joinOk q xs m) q' (joinL xs m) ∧ gX true q' (xs.take k ++ [m] ++ xs.drop k) = gX (joinOk q xs m) q' (joinL xs m) := by
  by_cases hm : 0 ≤ m ∧ m ≤ 7
  · have h1 := ins_eq hv hn hm.1 hm.2 hk hlo hhi
    have h2 : joinOk q xs m = true := by simp [joinOk, hv, hn, inB_in hm.1 hm.2]
    rw [h1, h2]
    exact ⟨rfl, rfl, rfl⟩
  · have h1 : vvB q' (xs.take k ++ [m] ++ xs.drop k) = false := ins_bad (by omega)
    have h2 : joinOk q xs m = false := by
      simp only [joinOk, inB, hv, hn]
      simp
      omega
    have h3 : gB true q' (xs.take k ++ [m] ++ xs.drop k) = false := by simp only [gB, h1]; rfl
    have h4 : gB false q' (joinL xs m) = false := rfl
    rw [h2]
    exact ⟨by rw [h3, h4], by simp only [gQ, h3, h4], by simp only [gX, h3, h4]; rfl⟩

set_option maxHeartbeats 16000000 in
theorem specJoin_any (A : Option Addr) (n c : Nat) (q : Int) (xs : List Int) (m : Int) (w : World) (hx : Ints w w.heap.size A n xs) (hn : n ≤ 1048576) (hnc : n ≤ c) :
    Calls Tryd.prog 23 #[.agg #[.int .i64 q, .slice A n c], .int .i64 m] w (RetVB (gQ (joinOk q xs m) (q + 1) (joinL xs m)) (gX (joinOk q xs m) (q + 1) (joinL xs m)) (gB (joinOk q xs m) (q + 1) (joinL xs m)) w) := by
  have HL := Lib.hid hx.len
  have hK : Kept w [(w.heap.size, 25, #[.int .i64 q, .slice A n c]), (w.heap.size + 1, 25, #[.int .i64 0, .slice none 0 0])] ((w.alloc (.cells #[.int .i64 q, .slice A n c] 25)).alloc (.cells #[.int .i64 0, .slice none 0 0] 25)) := by
    have a1 := (Blk.new w 25 #[.int .i64 q, .slice A n c]).alloc (.cells #[.int .i64 0, .slice none 0 0] 25)
    have a2 := Blk.new (w.alloc (.cells #[.int .i64 q, .slice A n c] 25)) 25 #[.int .i64 0, .slice none 0 0]
    simp only [World.size_alloc] at a2
    refine ⟨(by repeat' (first | with_reducible exact Below.refl _ _ | with_reducible assumption | with_reducible refine Below.setCell ?_ (by first | omega | (simp; done) | (simp; omega)) _ | with_reducible refine Below.alloc ?_ (by first | omega | (simp; done) | (simp; omega)) _ | with_reducible refine below_drewN ?_ _ | with_reducible refine Below.drew ?_ | (with_reducible refine Below.trans ?_ (Below.mono (by with_reducible assumption) (by first | omega | (simp; done) | (simp; omega)))))), fun b hb => ?_⟩
    simp only [List.mem_cons, List.not_mem_nil, or_false] at hb
    rcases hb with rfl | rfl
    · exact a1
    · exact a2
  have hS : ((w.alloc (.cells #[.int .i64 q, .slice A n c] 25)).alloc (.cells #[.int .i64 0, .slice none 0 0] 25)).heap.size = w.heap.size + 1 + 1 := by simp
  cases h1 : vvB q xs
  · have hnot : joinOk q xs m = false := by simp [joinOk, h1]
    go_enter Tryd.func23, Tryd.ntmps23
    go_wp2_with fail
    refine (specViewValid_any _ _ _ q xs _ ((hx.below hK.1).more (by rw [hS]; omega)) hn).mono ?_
    rintro e w1 ⟨rfl, hb1⟩
    have k1 := hK.step hb1
    have r1 := k1.lt (.tail _ (.head _))
    have f1 := r1.two; have l1 := r1.lt; have HB1 := k1.1
    clear hb1
    go_wp2
    exact bodyPost_ret (v := .tuple #[.agg #[.int .i64 0, .slice none 0 0], .bool false]) (by simp [results, Tryd.results23, go_sem, f1]) rfl (RetVB.zero (by repeat' (first | with_reducible exact Below.refl _ _ | with_reducible assumption | with_reducible refine Below.setCell ?_ (by first | omega | (simp; done) | (simp; omega)) _ | with_reducible refine Below.alloc ?_ (by first | omega | (simp; done) | (simp; omega)) _ | with_reducible refine below_drewN ?_ _ | with_reducible refine Below.drew ?_ | (with_reducible refine Below.trans ?_ (Below.mono (by with_reducible assumption) (by first | omega | (simp; done) | (simp; omega)))))) (gB_no hnot))
  obtain ⟨q0, q9⟩ := vv_q h1
  cases h2 : hasB xs m
  case true =>
    have hnot : joinOk q xs m = false := by simp [joinOk, h2]
    go_enter Tryd.func23, Tryd.ntmps23
    go_wp2_with fail
    refine (specViewValid_any _ _ _ q xs _ ((hx.below hK.1).more (by rw [hS]; omega)) hn).mono ?_
    rintro e w1 ⟨rfl, hb1⟩
    have k1 := hK.step hb1
    have r0 := k1.lt (.head _)
    have r1 := k1.lt (.tail _ (.head _))
    have f0 := r0.two; have l0 := r0.lt
    have f1 := r1.two; have l1 := r1.lt; have HB1 := k1.1
    clear hb1
    go_wp2_with (go_at_call 52; refine (l1Has_any _ _ _ w.heap.size xs _ _ (hx.below HB1) hn).mono ?_; rintro e w2 ⟨rfl, rfl⟩)
    exact bodyPost_ret (v := .tuple #[.agg #[.int .i64 0, .slice none 0 0], .bool false]) (by simp [results, Tryd.results23, go_sem, f1]) rfl (RetVB.zero (by repeat' (first | with_reducible exact Below.refl _ _ | with_reducible assumption | with_reducible refine Below.setCell ?_ (by first | omega | (simp; done) | (simp; omega)) _ | with_reducible refine Below.alloc ?_ (by first | omega | (simp; done) | (simp; omega)) _ | with_reducible refine below_drewN ?_ _ | with_reducible refine Below.drew ?_ | (with_reducible refine Below.trans ?_ (Below.mono (by with_reducible assumption) (by first | omega | (simp; done) | (simp; omega)))))) (gB_no hnot))
  case false =>
    have hl8 : n ≤ 8 := by have := vv_len h1; rw [HL.out] at this; exact this
    have JS := Lib.hid (fun (k : Nat) (hk : k ≤ xs.length) (hlo : ∀ x ∈ xs.take k, x < m) (hhi : ∀ x, xs[k]? = some x → m ≤ x) => join_same h1 h2 hk hlo hhi (q + 1))
    have HQ := Lib.hid (show IntKind.i64.wrap (q + 1) = q + 1 from IntWalk.i64_in _ (by omega))
    go_enter Tryd.func23, Tryd.ntmps23
    go_wp2_with fail
    refine (specViewValid_any _ _ _ q xs _ ((hx.below hK.1).more (by rw [hS]; omega)) hn).mono ?_
    rintro e w1 ⟨rfl, hb1⟩
    have k1 := hK.step hb1
    have p2 := k1.lt (.head _)
    have p4 := k1.lt (.tail _ (.head _))
    have f2 := p2.two; have l2 := p2.lt
    have l4 := p4.lt; have HB1 := k1.1
    have X1 := hx.below HB1
    clear hb1 hK hS k1
    go_wp2_with (go_at_call 52; refine (l1Has_any _ _ _ w.heap.size xs _ _ X1 hn).mono ?_; rintro e w2 ⟨rfl, rfl⟩)
    go_loop [6] (fun i => ∃ k : Nat, k ≤ n ∧ i = .int .i64 k ∧ ∀ x ∈ xs.take k, x < m) (fun i => n - (intOf i).toNat)
    case atStart => exact ⟨0, Nat.zero_le _, rfl, by simp⟩
    case round =>
      obtain ⟨k, hk, rfl, hlo⟩ := hrel
      have HLo := Lib.hid hlo
      clear hlo
      have EX : (∃ x, xs[k]? = some x ∧ x < m ∧ k < n) ∨ (∀ x, xs[k]? = some x → m ≤ x) := by
        by_cases hlt : k < n
        · have hl : k < xs.length := by rw [HL.out]; exact hlt
          by_cases hxm : xs[k] < m
          · exact .inl ⟨_, List.getElem?_eq_getElem hl, hxm, hlt⟩
          · exact .inr fun x hx => by rw [List.getElem?_eq_getElem hl] at hx; injection hx with hx; omega
        · exact .inr fun x hx => by have := (List.getElem?_eq_some_iff.1 hx).1; rw [HL.out] at this; omega
      rcases EX with ⟨x0, hx0, hxm, hlt⟩ | hhi
      · have HX0 := Lib.hid hx0
        clear hx0
        obtain ⟨ad, x, rfl, hb, hc, hx1, hs⟩ := X1.elem hlt
        obtain rfl : x = x0 := by have := hx1.out; rw [HX0.out] at this; injection this with this; exact this.symm
        go_wp2
        go_round
        case rel => exact ⟨k + 1, by omega, by go_num, fun y hy => by rw [hs.out] at hy; rcases List.mem_append.1 hy with h | h; exact HLo.out y h; rw [List.mem_singleton.1 h]; exact hxm⟩
        case measure => simp [intOf]; omega
      · have HHi := Lib.hid hhi
        obtain ⟨j1, j2, j3⟩ := JS.out k (by rw [HL.out]; exact hk) HLo.out hhi
        have J1 := Lib.hid j1; have J2 := Lib.hid j2; have J3 := Lib.hid j3
        clear hhi j1 j2 j3
        have cutT := (X1.takeI (k := k) hk)
        have cutD := (hx.cut (k := k) (cap := c) hk hnc)
        have hslT := fun w => cutTo_run A n c k hk hnc w
        have hslD := fun w => cut_run A n c k hk w
        have hkI : (k : Int) ≤ (n : Int) := by omega
        have hkc : (k : Int) ≤ (c : Int) := by omega
        have EXIT : (n ≤ k) ∨ ∃ (ad : Addr) (x : Int), A = some ad ∧ k < n ∧ w1.cell? (ad.add k) = some (.int .i64 x) ∧ ¬ x < m := by
          by_cases hlt : k < n
          · obtain ⟨ad, x, hA, hb, hc, hx1, hs⟩ := X1.elem hlt
            exact .inr ⟨ad, x, hA, hlt, hc, by have := HHi.out x hx1.out; omega⟩
          · exact .inl (by omega)
        generalize hA0 : (if c = k then A else A.map (·.add k)) = A0 at cutD hslD
        have cutD0 := cutD
        have HA0 := Lib.hid hA0
        clear hA0
        rcases EXIT with hex | ⟨ad, x, hAx, hlt, hcx, hxm⟩
        · have hnk : k = n := by omega
          subst hnk
          have cutD1 : Ints w w.heap.size A0 0 (xs.drop k) := by simpa using cutD0
          clear hex hkI
          go_wp2_with fail
          clear f2
          go_region_held3 (fun w' => w'.cell? ⟨w.heap.size, 0, none⟩ = some (.int .i64 q) ∧ w'.cell? ⟨w.heap.size, 1, none⟩ = some (.slice A k c))
            (exact Blk.both (t := 25) (by repeat' (first | with_reducible exact b6 | with_reducible refine Blk.far ?_ (by first | omega | (simp; done) | (simp; omega)) _ | with_reducible exact b5 | with_reducible exact b4 | with_reducible exact b3 | with_reducible exact p2 | with_reducible refine Blk.drew ?_ | with_reducible refine Blk.alloc ?_ _)))
            (first
              | (refine step_app1 rfl (.tmp 35) (.tmp 39) rfl w1.heap.size (xs := []) rfl ?_ w.heap.size A k c (xs.take k) rfl ?_ (by omega) ?_ ?_
                 · (repeat' (first | with_reducible refine Own.drew ?_ | (with_reducible refine Own.lit0 ?_ ?_ <;> first | omega | (simp; done) | (simp; omega)) | with_reducible refine Own.alloc ?_ _))
                 · (repeat' (first | with_reducible exact cutT | with_reducible refine Ints.drew1 ?_ | with_reducible refine Ints.alloc ?_ (by first | omega | (simp; done) | (simp; omega)) _))
                 · (first | omega | (simp; done) | (simp; omega))
                 intro A3 c3 w3 o3 hg3 at3
                 simp only [Nat.zero_add, List.nil_append] at o3 ⊢
                 have z3 := hg3.size
                 try simp at z3
                 have b3 : Blk w3 w.heap.size 25 #[.int .i64 q, .slice A k c] := Blk.grown (by repeat' (first | with_reducible exact p2 | with_reducible refine Blk.drew ?_ | with_reducible refine Blk.alloc ?_ _)) hg3 (by simp [blk]; omega)
                 have d3 : Blk w3 (w.heap.size + 1) 25 #[.int .i64 0, .slice none 0 0] := Blk.grown (by repeat' (first | with_reducible exact p4 | with_reducible refine Blk.drew ?_ | with_reducible refine Blk.alloc ?_ _)) hg3 (by simp [blk]; omega)
                 have HB3 : Below w.heap.size w w3 := Below.grown (by repeat' (first | with_reducible exact Below.refl _ _ | with_reducible assumption | with_reducible refine Below.setCell ?_ (by first | omega | (simp; done) | (simp; omega)) _ | with_reducible refine Below.alloc ?_ (by first | omega | (simp; done) | (simp; omega)) _ | with_reducible refine below_drewN ?_ _ | with_reducible refine Below.drew ?_ | (with_reducible refine Below.trans ?_ (Below.mono (by with_reducible assumption) (by first | omega | (simp; done) | (simp; omega)))))) hg3 (by first | omega | (simp; done) | (simp; omega)) (by intro j hj; simp [blk] at hj; omega)
                 have hr3 : ∀ j, blk A3 = some j → w1.heap.size ≤ j := (fun j hj => (o3.lt hj).1))
              | (refine step_app1 rfl (.tmp 40) (.tmp 42) rfl w1.heap.size (xs := xs.take k) rfl ?_ _ _ 1 1 [m] rfl (Ints.one' _ ?_) (by omega) ?_ ?_
                 · exact o3.alloc _
                 · (first | omega | (simp; done) | (simp; omega))
                 · (first | omega | (simp; done) | (simp; omega))
                 intro A4 c4 w4 o4 hg4 at4
                 have z4 := hg4.size
                 try simp at z4
                 have b4 : Blk w4 w.heap.size 25 #[.int .i64 q, .slice A k c] := Blk.grown (by repeat' (first | with_reducible exact b3 | with_reducible refine Blk.drew ?_ | with_reducible refine Blk.alloc ?_ _)) hg4 (fun e => by have := hr3 _ e.symm; omega)
                 have d4 : Blk w4 (w.heap.size + 1) 25 #[.int .i64 0, .slice none 0 0] := Blk.grown (by repeat' (first | with_reducible exact d3 | with_reducible refine Blk.drew ?_ | with_reducible refine Blk.alloc ?_ _)) hg4 (fun e => by have := hr3 _ e.symm; omega)
                 have HB4 : Below w.heap.size w w4 := Below.grown (by repeat' (first | with_reducible exact Below.refl _ _ | with_reducible assumption | with_reducible refine Below.setCell ?_ (by first | omega | (simp; done) | (simp; omega)) _ | with_reducible refine Below.alloc ?_ (by first | omega | (simp; done) | (simp; omega)) _ | with_reducible refine below_drewN ?_ _ | with_reducible refine Below.drew ?_ | (with_reducible refine Below.trans ?_ (Below.mono (by with_reducible assumption) (by first | omega | (simp; done) | (simp; omega)))))) hg4 (by first | omega | (simp; done) | (simp; omega)) (fun j hj => by have := hr3 j hj; omega)
                 have hr4 : ∀ j, blk A4 = some j → w1.heap.size ≤ j := (fun j hj => (o4.lt hj).1))
              | (refine step_app1 rfl (.tmp 40) (.tmp 42) rfl w1.heap.size (xs := xs.take k) rfl o3 _ _ 1 1 [m] rfl (Ints.ofBlk (Blk.grown (cs := #[.int .i64 m]) ?_ hg3 ?_)) (by omega) ?_ ?_
                 · (repeat' (first | (with_reducible refine Blk.newAt ?_; first | omega | (simp; done) | (simp; omega)) | with_reducible refine Blk.drew ?_ | with_reducible refine Blk.alloc ?_ _))
                 · (simp [blk]; try omega)
                 · (first | omega | (simp; done) | (simp; omega))
                 intro A4 c4 w4 o4 hg4 at4
                 have z4 := hg4.size
                 try simp at z4
                 have b4 : Blk w4 w.heap.size 25 #[.int .i64 q, .slice A k c] := Blk.grown (by repeat' (first | with_reducible exact b3 | with_reducible refine Blk.drew ?_ | with_reducible refine Blk.alloc ?_ _)) hg4 (fun e => by have := hr3 _ e.symm; omega)
                 have d4 : Blk w4 (w.heap.size + 1) 25 #[.int .i64 0, .slice none 0 0] := Blk.grown (by repeat' (first | with_reducible exact d3 | with_reducible refine Blk.drew ?_ | with_reducible refine Blk.alloc ?_ _)) hg4 (fun e => by have := hr3 _ e.symm; omega)
                 have HB4 : Below w.heap.size w w4 := Below.grown (by repeat' (first | with_reducible exact Below.refl _ _ | with_reducible assumption | with_reducible refine Below.setCell ?_ (by first | omega | (simp; done) | (simp; omega)) _ | with_reducible refine Below.alloc ?_ (by first | omega | (simp; done) | (simp; omega)) _ | with_reducible refine below_drewN ?_ _ | with_reducible refine Below.drew ?_ | (with_reducible refine Below.trans ?_ (Below.mono (by with_reducible assumption) (by first | omega | (simp; done) | (simp; omega)))))) hg4 (by first | omega | (simp; done) | (simp; omega)) (fun j hj => by have := hr3 j hj; omega)
                 have hr4 : ∀ j, blk A4 = some j → w1.heap.size ≤ j := (fun j hj => (o4.lt hj).1))
              | (refine step_app1 rfl (.tmp 43) (.tmp 47) rfl w1.heap.size (xs := xs.take k ++ [m]) rfl o4 w.heap.size _ _ _ (xs.drop k) rfl (cutD1.below HB4) (by omega) ?_ ?_
                 · (first | omega | (simp; done) | (simp; omega))
                 intro A5 c5 w5 o5 hg5 at5
                 simp only [Nat.add_zero] at o5 ⊢
                 have z5 := hg5.size
                 try simp at z5
                 have HB5 : Below w.heap.size w w5 := Below.grown HB4 hg5 HB4.size (fun j hj => by have := hr4 j hj; omega)
                 have b5 : Blk w5 w.heap.size 25 #[.int .i64 q, .slice A k c] := Blk.grown b4 hg5 (fun e => by have := hr4 _ e.symm; omega)
                 have r5 : Blk w5 (w.heap.size + 1) 25 #[.int .i64 0, .slice none 0 0] := Blk.grown d4 hg5 (fun e => by have := hr4 _ e.symm; omega))
              | (go_at_call 53
                 with_reducible refine Calls.mono (l23View_any q (q + 1) A5 (k + 1) c5 (xs.take k ++ [m] ++ xs.drop k) _ HQ.out ?_ (by omega)) ?_
                 · (first | exact o5.ints | exact o5.drew.ints)
                 rintro e w6 ⟨A6, n6, c6, rfl, o6, hb6⟩
                 rw [J1.out, J2.out]
                 rw [J3.out] at o6
                 have z6 := hb6.size
                 try simp at z6
                 have r6 := r5.below hb6 r5.lt
                 have b6 := b5.below hb6 b5.lt
                 have HB6 : Below w.heap.size w w6 := HB5.trans (hb6.mono HB5.size)
                 have f6 := r6.two
                 have l6 := r6.lt))
          all_goals
            go_wp2
            exact bodyPost_ret (v := .tuple #[.agg #[.int .i64 (gQ (joinOk q xs m) (q + 1) (joinL xs m)), .slice A6 n6 c6], .bool (gB (joinOk q xs m) (q + 1) (joinL xs m))]) (by simp [results, Tryd.results23, go_sem, f6, l6]) rfl ⟨A6, n6, c6, rfl, ((o6.setBelow (by first | omega | (simp; done) | (simp; omega)) _).setBelow (by first | omega | (simp; done) | (simp; omega)) _).mono (by first | omega | (simp; done) | (simp; omega)), (HB6.setCell (by first | omega | (simp; done) | (simp; omega)) _).setCell (by first | omega | (simp; done) | (simp; omega)) _⟩
        · subst hAx
          go_wp2_with fail
          clear f2
          go_region_held3 (fun w' => w'.cell? ⟨w.heap.size, 0, none⟩ = some (.int .i64 q) ∧ w'.cell? ⟨w.heap.size, 1, none⟩ = some (.slice (some ad) n c))
            (exact Blk.both (t := 25) (by repeat' (first | with_reducible exact b6 | with_reducible refine Blk.far ?_ (by first | omega | (simp; done) | (simp; omega)) _ | with_reducible exact b5 | with_reducible exact b4 | with_reducible exact b3 | with_reducible exact p2 | with_reducible refine Blk.drew ?_ | with_reducible refine Blk.alloc ?_ _)))
            (first
              | (refine step_app1 rfl (.tmp 35) (.tmp 39) rfl w1.heap.size (xs := []) rfl ?_ w.heap.size (some ad) k c (xs.take k) rfl ?_ (by omega) ?_ ?_
                 · (repeat' (first | with_reducible refine Own.drew ?_ | (with_reducible refine Own.lit0 ?_ ?_ <;> first | omega | (simp; done) | (simp; omega)) | with_reducible refine Own.alloc ?_ _))
                 · (repeat' (first | with_reducible exact cutT | with_reducible refine Ints.drew1 ?_ | with_reducible refine Ints.alloc ?_ (by first | omega | (simp; done) | (simp; omega)) _))
                 · (first | omega | (simp; done) | (simp; omega))
                 intro A3 c3 w3 o3 hg3 at3
                 simp only [Nat.zero_add, List.nil_append] at o3 ⊢
                 have z3 := hg3.size
                 try simp at z3
                 have b3 : Blk w3 w.heap.size 25 #[.int .i64 q, .slice (some ad) n c] := Blk.grown (by repeat' (first | with_reducible exact p2 | with_reducible refine Blk.drew ?_ | with_reducible refine Blk.alloc ?_ _)) hg3 (by simp [blk]; omega)
                 have d3 : Blk w3 (w.heap.size + 1) 25 #[.int .i64 0, .slice none 0 0] := Blk.grown (by repeat' (first | with_reducible exact p4 | with_reducible refine Blk.drew ?_ | with_reducible refine Blk.alloc ?_ _)) hg3 (by simp [blk]; omega)
                 have HB3 : Below w.heap.size w w3 := Below.grown (by repeat' (first | with_reducible exact Below.refl _ _ | with_reducible assumption | with_reducible refine Below.setCell ?_ (by first | omega | (simp; done) | (simp; omega)) _ | with_reducible refine Below.alloc ?_ (by first | omega | (simp; done) | (simp; omega)) _ | with_reducible refine below_drewN ?_ _ | with_reducible refine Below.drew ?_ | (with_reducible refine Below.trans ?_ (Below.mono (by with_reducible assumption) (by first | omega | (simp; done) | (simp; omega)))))) hg3 (by first | omega | (simp; done) | (simp; omega)) (by intro j hj; simp [blk] at hj; omega)
                 have hr3 : ∀ j, blk A3 = some j → w1.heap.size ≤ j := (fun j hj => (o3.lt hj).1))
              | (refine step_app1 rfl (.tmp 40) (.tmp 42) rfl w1.heap.size (xs := xs.take k) rfl ?_ _ _ 1 1 [m] rfl (Ints.one' _ ?_) (by omega) ?_ ?_
                 · exact o3.alloc _
                 · (first | omega | (simp; done) | (simp; omega))
                 · (first | omega | (simp; done) | (simp; omega))
                 intro A4 c4 w4 o4 hg4 at4
                 have z4 := hg4.size
                 try simp at z4
                 have b4 : Blk w4 w.heap.size 25 #[.int .i64 q, .slice (some ad) n c] := Blk.grown (by repeat' (first | with_reducible exact b3 | with_reducible refine Blk.drew ?_ | with_reducible refine Blk.alloc ?_ _)) hg4 (fun e => by have := hr3 _ e.symm; omega)
                 have d4 : Blk w4 (w.heap.size + 1) 25 #[.int .i64 0, .slice none 0 0] := Blk.grown (by repeat' (first | with_reducible exact d3 | with_reducible refine Blk.drew ?_ | with_reducible refine Blk.alloc ?_ _)) hg4 (fun e => by have := hr3 _ e.symm; omega)
                 have HB4 : Below w.heap.size w w4 := Below.grown (by repeat' (first | with_reducible exact Below.refl _ _ | with_reducible assumption | with_reducible refine Below.setCell ?_ (by first | omega | (simp; done) | (simp; omega)) _ | with_reducible refine Below.alloc ?_ (by first | omega | (simp; done) | (simp; omega)) _ | with_reducible refine below_drewN ?_ _ | with_reducible refine Below.drew ?_ | (with_reducible refine Below.trans ?_ (Below.mono (by with_reducible assumption) (by first | omega | (simp; done) | (simp; omega)))))) hg4 (by first | omega | (simp; done) | (simp; omega)) (fun j hj => by have := hr3 j hj; omega)
                 have hr4 : ∀ j, blk A4 = some j → w1.heap.size ≤ j := (fun j hj => (o4.lt hj).1))
              | (refine step_app1 rfl (.tmp 40) (.tmp 42) rfl w1.heap.size (xs := xs.take k) rfl o3 _ _ 1 1 [m] rfl (Ints.ofBlk (Blk.grown (cs := #[.int .i64 m]) ?_ hg3 ?_)) (by omega) ?_ ?_
                 · (repeat' (first | (with_reducible refine Blk.newAt ?_; first | omega | (simp; done) | (simp; omega)) | with_reducible refine Blk.drew ?_ | with_reducible refine Blk.alloc ?_ _))
                 · (simp [blk]; try omega)
                 · (first | omega | (simp; done) | (simp; omega))
                 intro A4 c4 w4 o4 hg4 at4
                 have z4 := hg4.size
                 try simp at z4
                 have b4 : Blk w4 w.heap.size 25 #[.int .i64 q, .slice (some ad) n c] := Blk.grown (by repeat' (first | with_reducible exact b3 | with_reducible refine Blk.drew ?_ | with_reducible refine Blk.alloc ?_ _)) hg4 (fun e => by have := hr3 _ e.symm; omega)
                 have d4 : Blk w4 (w.heap.size + 1) 25 #[.int .i64 0, .slice none 0 0] := Blk.grown (by repeat' (first | with_reducible exact d3 | with_reducible refine Blk.drew ?_ | with_reducible refine Blk.alloc ?_ _)) hg4 (fun e => by have := hr3 _ e.symm; omega)
                 have HB4 : Below w.heap.size w w4 := Below.grown (by repeat' (first | with_reducible exact Below.refl _ _ | with_reducible assumption | with_reducible refine Below.setCell ?_ (by first | omega | (simp; done) | (simp; omega)) _ | with_reducible refine Below.alloc ?_ (by first | omega | (simp; done) | (simp; omega)) _ | with_reducible refine below_drewN ?_ _ | with_reducible refine Below.drew ?_ | (with_reducible refine Below.trans ?_ (Below.mono (by with_reducible assumption) (by first | omega | (simp; done) | (simp; omega)))))) hg4 (by first | omega | (simp; done) | (simp; omega)) (fun j hj => by have := hr3 j hj; omega)
                 have hr4 : ∀ j, blk A4 = some j → w1.heap.size ≤ j := (fun j hj => (o4.lt hj).1))
              | (refine step_app1 rfl (.tmp 43) (.tmp 47) rfl w1.heap.size (xs := xs.take k ++ [m]) rfl o4 w.heap.size _ _ _ (xs.drop k) rfl (cutD0.below HB4) (by omega) ?_ ?_
                 · (first | omega | (simp; done) | (simp; omega))
                 intro A5 c5 w5 o5 hg5 at5
                 have z5 := hg5.size
                 try simp at z5
                 have HB5 : Below w.heap.size w w5 := Below.grown HB4 hg5 HB4.size (fun j hj => by have := hr4 j hj; omega)
                 have b5 : Blk w5 w.heap.size 25 #[.int .i64 q, .slice (some ad) n c] := Blk.grown b4 hg5 (fun e => by have := hr4 _ e.symm; omega)
                 have r5 : Blk w5 (w.heap.size + 1) 25 #[.int .i64 0, .slice none 0 0] := Blk.grown d4 hg5 (fun e => by have := hr4 _ e.symm; omega))
              | (go_at_call 53
                 with_reducible refine Calls.mono (l23View_any q (q + 1) A5 (k + 1 + (n - k)) c5 (xs.take k ++ [m] ++ xs.drop k) _ HQ.out ?_ (by omega)) ?_
                 · (first | exact o5.ints | exact o5.drew.ints)
                 rintro e w6 ⟨A6, n6, c6, rfl, o6, hb6⟩
                 rw [J1.out, J2.out]
                 rw [J3.out] at o6
                 have z6 := hb6.size
                 try simp at z6
                 have r6 := r5.below hb6 r5.lt
                 have b6 := b5.below hb6 b5.lt
                 have HB6 : Below w.heap.size w w6 := HB5.trans (hb6.mono HB5.size)
                 have f6 := r6.two
                 have l6 := r6.lt))
          all_goals
            go_wp2
            exact bodyPost_ret (v := .tuple #[.agg #[.int .i64 (gQ (joinOk q xs m) (q + 1) (joinL xs m)), .slice A6 n6 c6], .bool (gB (joinOk q xs m) (q + 1) (joinL xs m))]) (by simp [results, Tryd.results23, go_sem, f6, l6]) rfl ⟨A6, n6, c6, rfl, ((o6.setBelow (by first | omega | (simp; done) | (simp; omega)) _).setBelow (by first | omega | (simp; done) | (simp; omega)) _).mono (by first | omega | (simp; done) | (simp; omega)), (HB6.setCell (by first | omega | (simp; done) | (simp; omega)) _).setCell (by first | omega | (simp; done) | (simp; omega)) _⟩
end Go.Proofs.YtmjacdcefaohcaaDoor
