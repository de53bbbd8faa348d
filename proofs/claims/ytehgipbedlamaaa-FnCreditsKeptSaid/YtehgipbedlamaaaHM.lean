/-
  l92Credits: whatever the code, credits in memory of its own. Printed by gen_dc.py.
-/
import Derived.Test.YtehgipbedlamaaaHL
namespace Go.Proofs.Ytehgipbedlamaaa
open Go.RowKit
set_option linter.unusedVariables false

set_option maxRecDepth 100000 in
set_option maxHeartbeats 16000000 in
theorem l92Credits_any (B g : Nat) (p : Int) (w : World) (hr : Rdr w B g p) (hp0 : 0 ≤ p) (hp1 : p ≤ 1048576) :
    Calls Try.prog 31 #[.pointer (some ⟨g, 0, none⟩)] w (DrewC p B g w) := by
  obtain ⟨hgl, hBg⟩ := hr.lt
  have b0 := Blk.new w 26 #[.slice none 0 0, .slice none 0 0]
  have hr0 := hr.alloc (.cells #[.slice none 0 0, .slice none 0 0] 26)
  have zW : (w.alloc (.cells #[.slice none 0 0, .slice none 0 0] 26)).heap.size = w.heap.size + 1 := by simp
  have gW : w.grownBy (w.alloc (.cells #[.slice none 0 0, .slice none 0 0] 26)) (some g) := World.grownBy_alloc w _ _
  have BW : Below g w (w.alloc (.cells #[.slice none 0 0, .slice none 0 0] 26)) := (Below.refl _ _).alloc (by omega) _
  have h0 : DS (w.alloc (.cells #[.slice none 0 0, .slice none 0 0] 26)) B g p ((w.alloc (.cells #[.slice none 0 0, .slice none 0 0] 26)).alloc (.cells #[] 3)) (some ⟨(w.alloc (.cells #[.slice none 0 0, .slice none 0 0] 26)).heap.size, 0, none⟩) 0 0 [] p :=
    ⟨Own.lit0 rfl (Nat.le_refl _), hr0.alloc _, by simp; omega, Int.le_refl _, World.grownBy_alloc _ _ _, (Below.refl _ _).alloc (by simp; omega) _⟩
  generalize hW : w.alloc (.cells #[.slice none 0 0, .slice none 0 0] 26) = W at b0 zW gW BW h0
  rw [zW] at h0
  go_enter Try.func31, Try.ntmps31
  go_wp2_with fail
  clear hW hr hr0
  go_loopw [3, 4] (fun s i wr => ∃ (k : Nat) (A2 : Option Addr) (c2 : Nat) (xs : List Int), k ≤ 5 ∧ i = .int .i64 k ∧ s = .slice A2 k c2 ∧ DS W B g p wr A2 k c2 xs (p + k) ∧ Hid (inR xs 0 9 = true)) (fun _ i _ => 5 - (intOf i).toNat)
  case atStart => exact ⟨0, _, 0, _, by omega, rfl, rfl, by simpa using h0, Lib.hid (by simp [inR])⟩
  case round =>
    clear h0
    obtain ⟨k, A2, c2, xs, hk, rfl, rfl, h, HX⟩ := hrel
    by_cases hlt : k < 5
    · go_wp2_with fail
      refine (pick_pos B g _ _ _ h.rd (by omega) (by omega) (by omega) (by omega)).mono ?_
      rintro e w3 ⟨u, rfl, hu0, hu1, hr3, hg3, hs3, hb3⟩
      have h3 := h.picked hr3 hg3 hb3
      have z3 := h3.gr.size
      clear h hr3 hg3 hb3 hs3
      go_wp2_with (at_builtin; refine app1 rfl _ _ rfl W.heap.size rfl (h3.a.alloc _) _ _ _ _ [_] rfl (Ints.one' _ (by first | omega | (simp; done) | (simp; omega))) (by omega) (by simp; omega) ?_; intro A3 c3 w4 o4 hg4 at4; have h4 := h3.add hg4 o4)
      go_roundw
      case rel => exact ⟨k + 1, A3, c3, _, by omega, by go_num, rfl, by rw [show p + ((k + 1 : Nat) : Int) = p + (k : Int) + 1 by omega]; exact h4, Lib.hid (by rw [inR, List.all_append]; have := HX.out; unfold inR at this; rw [this]; simp [inB]; omega)⟩
      case measure => first | (simp [intOf]; done) | (simp [intOf]; omega)
    · have hk5 : k = 5 := by omega
      subst hk5
      have HFR := Lib.hid (show frB xs = true by simp only [frB, HX.out, h.a.len]; rfl)
      go_wp2_with fail
      refine (pick_pos B g _ _ _ h.rd (by omega) (by omega) (by omega) (by omega)).mono ?_
      rintro e w3 ⟨v, rfl, hv0, hv1, hr3, hg3, hs3, hb3⟩
      have h3 := h.picked hr3 hg3 hb3
      clear h hr3 hg3 hb3 hs3
      obtain ⟨V, hV⟩ := Int.eq_ofNat_of_zero_le hv0
      subst hV
      have hvw : IntKind.i64.wrap (1 + (V : Int)) = ((V + 1 : Nat) : Int) := by rw [IntWalk.i64_in _ (by omega)]; omega
      have h3p := h3.p0
      go_wp2_with fail
      refine (new_any A2 5 c2 xs (V + 1) w3 h3.a.ints HFR.out (by omega) (by omega)).mono ?_
      rintro e w4 ⟨F, nf, cf, A, n, c, R, rfl, o4, hb4⟩
      have HC0 := Lib.hid (new_cv HFR.out (show 1 ≤ V + 1 by omega) (show V + 1 ≤ 6 by omega))
      have z3 : W.heap.size ≤ w3.heap.size := h3.gr.size
      have z4 : w3.heap.size ≤ w4.heap.size := hb4.size
      have h4 : DC w B g p (w4.alloc (.cells #[.slice F nf cf, .slice A n c] 26)) w4.heap.size F nf cf A n c R ⟨xs, List.replicate (V + 1) hz⟩ (p + ((5 : Nat) : Int) + 1) := by
        have rd4 : Rdr w4 B g (p + ((5 : Nat) : Int) + 1) := h3.rd.keep (fun k hk => hb4.block k (by have := h3.rd.lt; omega))
        have b3 : Blk w3 w.heap.size 26 #[.slice none 0 0, .slice none 0 0] := b0.grown h3.gr (fun e => by injection e with e; omega)
        exact ⟨Blk.new _ _ _, (b3.below hb4 b3.lt).alloc _, (o4.mono (by omega)).alloc _, rd4.alloc _, hgl, by omega,
          grown_trans' (grown_trans' (grown_trans' gW h3.gr (fun k hk => .inl hk)) (grownOfBelow hb4) (by simp)) (World.grownBy_alloc w4 _ none) (by simp), ((BW.trans h3.bl).trans (hb4.mono (by omega))).alloc (by omega) _, by simp, by omega⟩
      have f4 := h4.q.two
      clear h3 o4 hb4 HX HFR b0 BW gW
      go_wp2_with fail
      refine (pick_pos B g _ _ _ h4.rd (by omega) (by omega) (by omega) (by omega)).mono ?_
      rintro e w5 ⟨v5, rfl, v50, v51, h5r, h5g, h5s, h5b⟩
      have h5 := h4.picked h5r h5g h5b
      clear h4 h5r h5g h5b h5s f4
      generalize hcx : (⟨xs, List.replicate (V + 1) hz⟩ : CX) = cx0 at h5 HC0
      generalize hSS : w4.heap.size = S at h5
      clear hcx
      generalize hod : (v5 == 0) = od
      go_wp2_with fail
      go_loopw [8] (fun i wr => ∃ (k : Nat) (F : Option Addr) (nf cf : Nat) (A : Option Addr) (n c : Nat) (R : List HR) (cx : CX) (p' : Int), k ≤ 20 ∧ i = .int .i64 k ∧ DC w B g p wr S F nf cf A n c R cx p' ∧ Hid (Cv cx) ∧ p' ≤ p + 10 + 5 * (k : Int)) (fun i _ => 20 - (intOf i).toNat)
      case atStart => exact ⟨0, F, nf, cf, A, n, c, R, cx0, _, by omega, rfl, h5, HC0, by omega⟩
      case round =>
        clear h5 HC0 hSS z3 z4 hod
        obtain ⟨k, F, nf, cf, A, n, c, R, cx, p', hk, rfl, h, HC, hp'⟩ := hrel
        have hpp := h.p0
        have hn16 := h.n16 HC.out
        go_wp2_with fail
        refine (pick_pos B g _ _ _ h.rd (by omega) (by omega) (by omega) (by omega)).mono ?_
        rintro e w1 ⟨u, rfl, u0, u1, h1r, h1g, h1s, h1b⟩
        have h1 := h.picked h1r h1g h1b
        have f1 := h1.q.two
        clear h h1r h1g h1b h1s
        by_cases hlt2 : (k : Int) < u
        · go_wp2_with fail
          refine (pick_pos B g _ (n : Int) _ h1.rd (by omega) (by omega) (by omega) (by omega)).mono ?_
          rintro e w2 ⟨s1, rfl, s10, s11, h2r, h2g, h2s, h2b⟩
          have h2 := h1.picked h2r h2g h2b
          have f2 := h2.q.two
          clear h1 h2r h2g h2b h2s f1
          obtain ⟨S1, hS1⟩ := Int.eq_ofNat_of_zero_le s10
          subst hS1
          have hS1 : S1 < n := by omega
          go_wp2_with fail
          refine (pick_pos B g _ _ _ h2.rd (by omega) (by omega) (by omega) (by omega)).mono ?_
          rintro e w5 ⟨g1, rfl, g10, g11, h5r, h5g, h5s, h5b⟩
          have h5 := h2.picked h5r h5g h5b
          have f5 := h5.q.two
          clear h2 h5r h5g h5b h5s f2
          obtain ⟨G, hG⟩ := Int.eq_ofNat_of_zero_le g10
          subst hG
          obtain ⟨A1, n1, c1, v1, xs1, ⟨gA, rfl, hA1, hA2, hc0⟩, o1, hn1, -, hR1, hk1⟩ := h5.o.rowAt hS1
          have HM := Lib.hid (HC.out.h _ (List.mem_of_getElem? hk1.out))
          have HL := Lib.hid o1.len
          have gS : (S1 : Int) < (n : Int) := by omega
          cases od
          case false =>
            have x6 := Blk.new w5 26 #[.slice F nf cf, .slice (some ⟨gA, 0, none⟩) n c]
            have h6 := h5.alloc (.cells #[.slice F nf cf, .slice (some ⟨gA, 0, none⟩) n c] 26)
            have lS := h5.sz
            have z6 := h6.wsz
            have f6 := h6.q.two
            have fx6 := x6.two
            go_wp2_with fail
            refine (pick_pos B g _ _ _ h6.rd (by omega) (by omega) (by omega) (by omega)).mono ?_
            rintro e w7 ⟨v7, rfl, v70, v71, h7r, h7g, h7s, h7b⟩
            have h7 := h6.picked h7r h7g h7b
            have x7 := x6.grown h7g (fun e => by injection e with e; have := h6.rd.lt; omega)
            have l7 := x7.lt
            have f7 := h7.q.two
            have fx7 := x7.two
            have p7 := h7.p0
            clear h7r h7g h7s h7b f6 fx6
            cases hz : (v7 == 0)
            · go_wp2_with fail
              refine (specAsk_any F nf cf (some ⟨gA, 0, none⟩) n c R cx (S1 : Int) (G : Int) w7 h7.o.reads (by have := h7.nf5 HC.out; omega) (by omega)).mono ?_
              rintro e w8 ⟨F8, nf8, cf8, A8, n8, c8, R8, rfl, o8, hb8⟩
              have h8 := h7.called hb8
              have z7 := h7.wsz
              have o8' := o8.mono (show w.heap.size + 1 ≤ w7.heap.size by omega)
              have x8 := x7.below hb8 x7.lt
              have fx8 := x8.two
              have lx8 := x8.lt
              have h9 := (h8.setX x8 (by omega) (by omega) 0 (.slice F8 nf8 cf8)).setX (x8.set_ 0 (.slice F8 nf8 cf8)) (by omega) (by omega) 1 (.slice A8 n8 c8)
              have x9 := (x8.set_ 0 (.slice F8 nf8 cf8)).set_ 1 (.slice A8 n8 c8)
              have o9 := (o8'.setBox x8 (by decide) (by decide) 0 (.slice F8 nf8 cf8)).setBox (x8.set_ 0 (.slice F8 nf8 cf8)) (by decide) (by decide) 1 (.slice A8 n8 c8)
              have fx9 := x9.two
              have fh9 := h9.q.two
              have ha := h9.setC o9
              have hcv : Cv (askC cx (S1 : Int) (G : Int)) := askC_cv HC.out (by omega) (by have := h7.o.l; omega) (by omega) (by omega)
              go_wp2_with fail
              go_roundw
              case rel => exact ⟨k + 1, F8, nf8, cf8, A8, n8, c8, R8, _, _, by omega, by go_num, ha, Lib.hid hcv, by omega⟩
              case measure => first | (simp [intOf]; done) | (simp [intOf]; omega)
            · go_wp2_with fail
              refine (specGive_any F nf cf (some ⟨gA, 0, none⟩) n c R cx (S1 : Int) w7 h7.o.reads (by have := h7.nf5 HC.out; omega) (by omega)).mono ?_
              rintro e w8 ⟨F8, nf8, cf8, A8, n8, c8, R8, rfl, o8, hb8⟩
              have h8 := h7.called hb8
              have z7 := h7.wsz
              have o8' := o8.mono (show w.heap.size + 1 ≤ w7.heap.size by omega)
              have x8 := x7.below hb8 x7.lt
              have fx8 := x8.two
              have lx8 := x8.lt
              have h9 := (h8.setX x8 (by omega) (by omega) 0 (.slice F8 nf8 cf8)).setX (x8.set_ 0 (.slice F8 nf8 cf8)) (by omega) (by omega) 1 (.slice A8 n8 c8)
              have x9 := (x8.set_ 0 (.slice F8 nf8 cf8)).set_ 1 (.slice A8 n8 c8)
              have o9 := (o8'.setBox x8 (by decide) (by decide) 0 (.slice F8 nf8 cf8)).setBox (x8.set_ 0 (.slice F8 nf8 cf8)) (by decide) (by decide) 1 (.slice A8 n8 c8)
              have fx9 := x9.two
              have fh9 := h9.q.two
              have ha := h9.setC o9
              have hcv : Cv (giveC cx (S1 : Int)) := giveC_cv HC.out (by omega) (by have := h7.o.l; omega)
              go_wp2_with fail
              go_roundw
              case rel => exact ⟨k + 1, F8, nf8, cf8, A8, n8, c8, R8, _, _, by omega, by go_num, ha, Lib.hid hcv, by omega⟩
              case measure => first | (simp [intOf]; done) | (simp [intOf]; omega)
          case true =>
            by_cases h10 : n1 = 0
            · subst h10
              have x6 := Blk.new w5 26 #[.slice F nf cf, .slice (some ⟨gA, 0, none⟩) n c]
              have h6 := h5.alloc (.cells #[.slice F nf cf, .slice (some ⟨gA, 0, none⟩) n c] 26)
              have lS := h5.sz
              have z6 := h6.wsz
              have f6 := h6.q.two
              have fx6 := x6.two
              go_wp2_with fail
              refine (pick_pos B g _ _ _ h6.rd (by omega) (by omega) (by omega) (by omega)).mono ?_
              rintro e w7 ⟨v7, rfl, v70, v71, h7r, h7g, h7s, h7b⟩
              have h7 := h6.picked h7r h7g h7b
              have x7 := x6.grown h7g (fun e => by injection e with e; have := h6.rd.lt; omega)
              have l7 := x7.lt
              have f7 := h7.q.two
              have fx7 := x7.two
              have p7 := h7.p0
              clear h7r h7g h7s h7b f6 fx6
              cases hz : (v7 == 0)
              · go_wp2_with fail
                refine (specAsk_any F nf cf (some ⟨gA, 0, none⟩) n c R cx (S1 : Int) (G : Int) w7 h7.o.reads (by have := h7.nf5 HC.out; omega) (by omega)).mono ?_
                rintro e w8 ⟨F8, nf8, cf8, A8, n8, c8, R8, rfl, o8, hb8⟩
                have h8 := h7.called hb8
                have z7 := h7.wsz
                have o8' := o8.mono (show w.heap.size + 1 ≤ w7.heap.size by omega)
                have x8 := x7.below hb8 x7.lt
                have fx8 := x8.two
                have lx8 := x8.lt
                have h9 := (h8.setX x8 (by omega) (by omega) 0 (.slice F8 nf8 cf8)).setX (x8.set_ 0 (.slice F8 nf8 cf8)) (by omega) (by omega) 1 (.slice A8 n8 c8)
                have x9 := (x8.set_ 0 (.slice F8 nf8 cf8)).set_ 1 (.slice A8 n8 c8)
                have o9 := (o8'.setBox x8 (by decide) (by decide) 0 (.slice F8 nf8 cf8)).setBox (x8.set_ 0 (.slice F8 nf8 cf8)) (by decide) (by decide) 1 (.slice A8 n8 c8)
                have fx9 := x9.two
                have fh9 := h9.q.two
                have ha := h9.setC o9
                have hcv : Cv (askC cx (S1 : Int) (G : Int)) := askC_cv HC.out (by omega) (by have := h7.o.l; omega) (by omega) (by omega)
                go_wp2_with fail
                go_roundw
                case rel => exact ⟨k + 1, F8, nf8, cf8, A8, n8, c8, R8, _, _, by omega, by go_num, ha, Lib.hid hcv, by omega⟩
                case measure => first | (simp [intOf]; done) | (simp [intOf]; omega)
              · go_wp2_with fail
                refine (specGive_any F nf cf (some ⟨gA, 0, none⟩) n c R cx (S1 : Int) w7 h7.o.reads (by have := h7.nf5 HC.out; omega) (by omega)).mono ?_
                rintro e w8 ⟨F8, nf8, cf8, A8, n8, c8, R8, rfl, o8, hb8⟩
                have h8 := h7.called hb8
                have z7 := h7.wsz
                have o8' := o8.mono (show w.heap.size + 1 ≤ w7.heap.size by omega)
                have x8 := x7.below hb8 x7.lt
                have fx8 := x8.two
                have lx8 := x8.lt
                have h9 := (h8.setX x8 (by omega) (by omega) 0 (.slice F8 nf8 cf8)).setX (x8.set_ 0 (.slice F8 nf8 cf8)) (by omega) (by omega) 1 (.slice A8 n8 c8)
                have x9 := (x8.set_ 0 (.slice F8 nf8 cf8)).set_ 1 (.slice A8 n8 c8)
                have o9 := (o8'.setBox x8 (by decide) (by decide) 0 (.slice F8 nf8 cf8)).setBox (x8.set_ 0 (.slice F8 nf8 cf8)) (by decide) (by decide) 1 (.slice A8 n8 c8)
                have fx9 := x9.two
                have fh9 := h9.q.two
                have ha := h9.setC o9
                have hcv : Cv (giveC cx (S1 : Int)) := giveC_cv HC.out (by omega) (by have := h7.o.l; omega)
                go_wp2_with fail
                go_roundw
                case rel => exact ⟨k + 1, F8, nf8, cf8, A8, n8, c8, R8, _, _, by omega, by go_num, ha, Lib.hid hcv, by omega⟩
                case measure => first | (simp [intOf]; done) | (simp [intOf]; omega)
            · obtain ⟨L, hL⟩ : ∃ L : Nat, n1 = L + 1 := ⟨n1 - 1, by omega⟩
              have gL : (L : Int) < (n1 : Int) := by omega
              have hLw : IntKind.i64.wrap ((n1 : Int) - 1) = (L : Int) := by rw [IntWalk.i64_in _ (by omega)]; omega
              have hd0 : decide (0 < n1) = true := decide_eq_true (by omega)
              obtain ⟨adx, y, rfl, hbx, hcx, hky, -⟩ := o1.ints.elem (k := L) (by omega)
              obtain ⟨Y, hY⟩ : ∃ Y : Nat, y = (Y : Int) := ⟨y.toNat, by have := HM.out.m y (List.mem_of_getElem? hky.out); omega⟩
              subst hY
              have hY4 : Y ≤ 4 := by have := HM.out.m _ (List.mem_of_getElem? hky.out); omega
              clear hL
              go_upto_region 14 with (fail)
              go_quiet (fail)
              have hgb : 0 ≤ (if G < Y then (Y : Int) else (G : Int)) ∧ (if G < Y then (Y : Int) else (G : Int)) ≤ 4 := by split <;> omega
              generalize (if G < Y then (Y : Int) else (G : Int)) = gg at hgb ⊢
              obtain ⟨hgb1, hgb2⟩ := hgb
              obtain ⟨G1, hG1⟩ := Int.eq_ofNat_of_zero_le hgb1
              subst hG1
              have hq := h5.called (below_drewN (Below.refl w5.heap.size w5) nq)
              generalize w5.drewN nq = wq at hq ⊢
              clear h5 f5 hc0 hcx o1 hA2
              have fq := hq.q.two
              have zq := hq.wsz
              have x6 := Blk.new wq 26 #[.slice F nf cf, .slice (some ⟨gA, 0, none⟩) n c]
              have h6 := hq.alloc (.cells #[.slice F nf cf, .slice (some ⟨gA, 0, none⟩) n c] 26)
              have lS := hq.sz
              have z6 := h6.wsz
              have f6 := h6.q.two
              have fx6 := x6.two
              go_wp2_with fail
              refine (pick_pos B g _ _ _ h6.rd (by omega) (by omega) (by omega) (by omega)).mono ?_
              rintro e w7 ⟨v7, rfl, v70, v71, h7r, h7g, h7s, h7b⟩
              have h7 := h6.picked h7r h7g h7b
              have x7 := x6.grown h7g (fun e => by injection e with e; have := h6.rd.lt; omega)
              have l7 := x7.lt
              have f7 := h7.q.two
              have fx7 := x7.two
              have p7 := h7.p0
              clear h7r h7g h7s h7b f6 fx6
              cases hz : (v7 == 0)
              · go_wp2_with fail
                refine (specAsk_any F nf cf (some ⟨gA, 0, none⟩) n c R cx (S1 : Int) (G1 : Int) w7 h7.o.reads (by have := h7.nf5 HC.out; omega) (by omega)).mono ?_
                rintro e w8 ⟨F8, nf8, cf8, A8, n8, c8, R8, rfl, o8, hb8⟩
                have h8 := h7.called hb8
                have z7 := h7.wsz
                have o8' := o8.mono (show w.heap.size + 1 ≤ w7.heap.size by omega)
                have x8 := x7.below hb8 x7.lt
                have fx8 := x8.two
                have lx8 := x8.lt
                have h9 := (h8.setX x8 (by omega) (by omega) 0 (.slice F8 nf8 cf8)).setX (x8.set_ 0 (.slice F8 nf8 cf8)) (by omega) (by omega) 1 (.slice A8 n8 c8)
                have x9 := (x8.set_ 0 (.slice F8 nf8 cf8)).set_ 1 (.slice A8 n8 c8)
                have o9 := (o8'.setBox x8 (by decide) (by decide) 0 (.slice F8 nf8 cf8)).setBox (x8.set_ 0 (.slice F8 nf8 cf8)) (by decide) (by decide) 1 (.slice A8 n8 c8)
                have fx9 := x9.two
                have fh9 := h9.q.two
                have ha := h9.setC o9
                have hcv : Cv (askC cx (S1 : Int) (G1 : Int)) := askC_cv HC.out (by omega) (by have := h7.o.l; omega) (by omega) (by omega)
                go_wp2_with fail
                go_roundw
                case rel => exact ⟨k + 1, F8, nf8, cf8, A8, n8, c8, R8, _, _, by omega, by go_num, ha, Lib.hid hcv, by omega⟩
                case measure => first | (simp [intOf]; done) | (simp [intOf]; omega)
              · go_wp2_with fail
                refine (specGive_any F nf cf (some ⟨gA, 0, none⟩) n c R cx (S1 : Int) w7 h7.o.reads (by have := h7.nf5 HC.out; omega) (by omega)).mono ?_
                rintro e w8 ⟨F8, nf8, cf8, A8, n8, c8, R8, rfl, o8, hb8⟩
                have h8 := h7.called hb8
                have z7 := h7.wsz
                have o8' := o8.mono (show w.heap.size + 1 ≤ w7.heap.size by omega)
                have x8 := x7.below hb8 x7.lt
                have fx8 := x8.two
                have lx8 := x8.lt
                have h9 := (h8.setX x8 (by omega) (by omega) 0 (.slice F8 nf8 cf8)).setX (x8.set_ 0 (.slice F8 nf8 cf8)) (by omega) (by omega) 1 (.slice A8 n8 c8)
                have x9 := (x8.set_ 0 (.slice F8 nf8 cf8)).set_ 1 (.slice A8 n8 c8)
                have o9 := (o8'.setBox x8 (by decide) (by decide) 0 (.slice F8 nf8 cf8)).setBox (x8.set_ 0 (.slice F8 nf8 cf8)) (by decide) (by decide) 1 (.slice A8 n8 c8)
                have fx9 := x9.two
                have fh9 := h9.q.two
                have ha := h9.setC o9
                have hcv : Cv (giveC cx (S1 : Int)) := giveC_cv HC.out (by omega) (by have := h7.o.l; omega)
                go_wp2_with fail
                go_roundw
                case rel => exact ⟨k + 1, F8, nf8, cf8, A8, n8, c8, R8, _, _, by omega, by go_num, ha, Lib.hid hcv, by omega⟩
                case measure => first | (simp [intOf]; done) | (simp [intOf]; omega)
        · go_wp2_with fail
          refine (pick_pos B g _ (n : Int) _ h1.rd (by omega) (by omega) (by omega) (by omega)).mono ?_
          rintro e w2 ⟨s1, rfl, s10, s11, h2r, h2g, h2s, h2b⟩
          have h2 := h1.picked h2r h2g h2b
          have f2 := h2.q.two
          clear h1 h2r h2g h2b h2s f1
          obtain ⟨S1, hS1⟩ := Int.eq_ofNat_of_zero_le s10
          subst hS1
          have hS1 : S1 < n := by omega
          have gS : (S1 : Int) < (n : Int) := by omega
          go_wp2_with fail
          refine (pick_pos B g _ _ _ h2.rd (by omega) (by omega) (by omega) (by omega)).mono ?_
          rintro e w5 ⟨v, rfl, v0, v1, h5r, h5g, h5s, h5b⟩
          have h5 := h2.picked h5r h5g h5b
          have f5 := h5.q.two
          have z5 := h5.wsz
          have p5 := h5.p0
          clear h2 h5r h5g h5b h5s f2
          have HN := Lib.hid (h5.nf5 HC.out)
          obtain ⟨gF, rfl, hF1, hF2⟩ := h5.o.f.form (by have := HN.out; omega)
          obtain ⟨gA, rfl, hA1, hA2⟩ := h5.o.form (by omega)
          have hgS := h5.hS
          have hgl2 := h5.gl
          cases hv0 : (v == 0)
          case true =>
            obtain rfl : v = 0 := by simpa using hv0
            go_wp2_with fail
            go_region_held3 (fun W' => W'.cell? ⟨S, 0, none⟩ = some (.slice (some ⟨gF, 0, none⟩) nf cf))
              (first | exact f5.1 | exact f6.1 | exact f7.1 | exact h9.q.two.1)
              (first
                | (go_at_call 32; (with_reducible refine Calls.mono (pick_pos B g _ 5 _ (h5.drew.rd) (by omega) (by omega) (by omega) (by omega)) ?_)
                   rintro e w6 ⟨x, rfl, x0, x1, h6r, h6g, h6s, h6b⟩
                   have h6 := h5.drew.picked h6r h6g h6b
                   have f6 := h6.q.two
                   have p6 := h6.p0)
                | (go_at_call 32; (with_reducible refine Calls.mono (pick_pos B g _ 12 _ h6.rd (by omega) (by omega) (by omega) (by omega)) ?_)
                   rintro e w7 ⟨y, rfl, y0, y1, h7r, h7g, h7s, h7b⟩
                   have h7 := h6.picked h7r h7g h7b
                   have f7 := h7.q.two
                   have p7 := h7.p0
                   have hyw : IntKind.i64.wrap (y - 1) = y - 1 := IntWalk.i64_in _ (by omega)
                   obtain ⟨X, hX⟩ := Int.eq_ofNat_of_zero_le x0
                   subst hX
                   have gX : (X : Int) < (nf : Int) := by have := HN.out; omega
                   have hF7 := h7.o.f.cellAt (k := X) (by omega)
                   have h9 := h7.row (x := gF) (i := X) (u := .int .i64 (y - 1)) (by omega) (Boxes.row h7.o.f _ (.inl rfl)) (h7.o.setFree X (y - 1))))
            all_goals
              clear f6 f7 hF7 f5
              have fr := h9.r.two
              have fq := h9.q.two
              have q := ((h9.r.set_ 0 (.slice (some ⟨gF, 0, none⟩) nf cf)).set_ 1 (.slice (some ⟨gA, 0, none⟩) n c)).two
              have lw := h9.wsz
              go_wp2_with fail
              exact bodyPost_ret (v := .agg #[.slice (some ⟨gF, 0, none⟩) nf cf, .slice (some ⟨gA, 0, none⟩) n c]) (by simp [results, Try.results31, go_sem, q]) rfl (h9.finish (by have := HN.out; omega) (by omega) (by omega))
          cases hv1 : (v == 1)
          case true =>
            obtain rfl : v = 1 := by simpa using hv1
            go_wp2_with fail
            go_region_held3 (fun W' => W'.cell? ⟨S, 1, none⟩ = some (.slice (some ⟨gA, 0, none⟩) n c))
              (first | exact f5.2.1 | exact f6.2.1 | exact h9.q.two.2.1)
              (first
                | (go_at_call 32; (with_reducible refine Calls.mono (pick_pos B g _ 7 _ (h5.drew.rd) (by omega) (by omega) (by omega) (by omega)) ?_)
                   rintro e w6 ⟨x, rfl, x0, x1, h6r, h6g, h6s, h6b⟩
                   have h6 := h5.drew.picked h6r h6g h6b
                   have f6 := h6.q.two
                   have p6 := h6.p0
                   have hxw : IntKind.i64.wrap (x - 2) = x - 2 := IntWalk.i64_in _ (by omega)
                   obtain ⟨A9, n9, c9, v9, xs9, o9, hn9, g0, g1, y0, y1, hR9, hk9, hA9⟩ := h6.o.cells hS1
                   have h9 := h6.row (x := gA) (i := S1 * 2 + 1) (u := .int .i64 (x - 2)) (by omega) (Boxes.row h6.o.o _ (.inr rfl)) (h6.o.setWait hR9.out hk9.out (x - 2))))
            all_goals
              clear f6 g0 g1 y0 y1 f5
              have fr := h9.r.two
              have fq := h9.q.two
              have q := ((h9.r.set_ 0 (.slice (some ⟨gF, 0, none⟩) nf cf)).set_ 1 (.slice (some ⟨gA, 0, none⟩) n c)).two
              have lw := h9.wsz
              go_wp2_with fail
              exact bodyPost_ret (v := .agg #[.slice (some ⟨gF, 0, none⟩) nf cf, .slice (some ⟨gA, 0, none⟩) n c]) (by simp [results, Try.results31, go_sem, q]) rfl (h9.finish (by have := HN.out; omega) (by omega) (by omega))
          cases hv2 : (v == 2)
          case true =>
            obtain rfl : v = 2 := by simpa using hv2
            go_wp2_with fail
            go_region_held3 (fun W' => W'.cell? ⟨S, 1, none⟩ = some (.slice (some ⟨gA, 0, none⟩) n c))
              (first | exact f5.2.1 | exact f6.2.1 | exact h9.q.two.2.1)
              (first
                | (go_at_call 58; (with_reducible refine Calls.mono (l91Set_any B g _ _ (h5.drew.rd) (by omega) (by omega)) ?_)
                   rintro e w6 ⟨A7, n7, c7, xs7, p7, rfl, o7, hn7, h7r, h7p, h7p2, h7g, h7b⟩
                   have h6 := h5.drew.drewn h7r h7p h7g h7b
                   have f6 := h6.q.two
                   obtain ⟨A9, n9, c9, v9, xs9, o9, hn9, g0, g1, y0, y1, hR9, hk9, hA9⟩ := h6.o.cells hS1
                   have h9 := h6.row (x := gA) (i := S1 * 2) (u := .slice A7 n7 c7) (by omega) (Boxes.row h6.o.o _ (.inr rfl)) (h6.o.setHas hR9.out hk9.out (o7.mono (show w.heap.size + 1 ≤ w5.heap.size by omega)) (by omega) (h5.o.fresh o7))))
            all_goals
              clear f6 g0 g1 y0 y1 f5
              have fr := h9.r.two
              have fq := h9.q.two
              have q := ((h9.r.set_ 0 (.slice (some ⟨gF, 0, none⟩) nf cf)).set_ 1 (.slice (some ⟨gA, 0, none⟩) n c)).two
              have lw := h9.wsz
              go_wp2_with fail
              exact bodyPost_ret (v := .agg #[.slice (some ⟨gF, 0, none⟩) nf cf, .slice (some ⟨gA, 0, none⟩) n c]) (by simp [results, Try.results31, go_sem, q]) rfl (h9.finish (by have := HN.out; omega) (by omega) (by omega))
          cases hv3 : (v == 3)
          case true =>
            obtain rfl : v = 3 := by simpa using hv3
            have hcap := h5.o.hcap
            have hsl : ∀ w, (Instr.slice 24 (.slice (some ⟨gA, 0, none⟩) n c) none (some (.int .i64 0)) none).run Try.prog w = .ok (.slice (some ⟨gA, 0, none⟩) 0 c) w := fun w => cutHTo_run _ n c 0 (Nat.zero_le _) hcap w
            have h9 := h5.setZero
            have fh9 := h9.q.two
            have rh9 := h9.r.two
            have q := ((h9.r.set_ 0 (.slice (some ⟨gF, 0, none⟩) nf cf)).set_ 1 (.slice (some ⟨gA, 0, none⟩) 0 c)).two
            go_wp2_with fail
            exact bodyPost_ret (v := .agg #[.slice (some ⟨gF, 0, none⟩) nf cf, .slice (some ⟨gA, 0, none⟩) 0 c]) (by simp [results, Try.results31, go_sem, q]) rfl (h9.finish (by have := HN.out; omega) (by omega) (by omega))
          have fr := h5.r.two
          have q := ((h5.r.set_ 0 (.slice (some ⟨gF, 0, none⟩) nf cf)).set_ 1 (.slice (some ⟨gA, 0, none⟩) n c)).two
          go_wp2_with fail
          exact bodyPost_ret (v := .agg #[.slice (some ⟨gF, 0, none⟩) nf cf, .slice (some ⟨gA, 0, none⟩) n c]) (by simp [results, Try.results31, go_sem, q]) rfl (h5.finish (by have := HN.out; omega) (by omega) (by omega))
end Go.Proofs.Ytehgipbedlamaaa

