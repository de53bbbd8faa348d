/-
  The drawn transaction: the walk.
-/
import Derived.Test.YtaelaldgohppeaaDT
import Derived.Test.YtaelaldgohppeaaRd2
namespace Go.Proofs.Ytaelaldgohppeaa
open Go.RowKit
set_option linter.unusedVariables false

theorem lit4t (wx : World) (gx m : Nat) (a b c d : Int) (hm : m < 4) (hb : Blk wx gx 3 #[.int .i64 a, .int .i64 b, .int .i64 c, .int .i64 d]) : ∃ x : Int, wx.cell? ⟨gx, m, none⟩ = some (.int .i64 x) ∧ wx.frozen? ⟨gx, m, none⟩ = false := by
  have : ∃ x : Int, (#[.int .i64 a, .int .i64 b, .int .i64 c, .int .i64 d] : Array Value)[m]? = some (.int .i64 x) := by
    rcases (by omega : m = 0 ∨ m = 1 ∨ m = 2 ∨ m = 3) with rfl | rfl | rfl | rfl
    · exact ⟨a, rfl⟩
    · exact ⟨b, rfl⟩
    · exact ⟨c, rfl⟩
    · exact ⟨d, rfl⟩
  obtain ⟨x, hx⟩ := this
  exact ⟨x, (hb.cell m).trans hx, hb.frozen m⟩
set_option maxRecDepth 100000 in
set_option maxHeartbeats 16000000 in
theorem l92Txn_any (B g : Nat) (p : Int) (w : World) (hr : Rdr w B g p) (hp0 : 0 ≤ p) (hp1 : p ≤ 1048576) :
    Calls Try.prog 82 #[.pointer (some ⟨g, 0, none⟩)] w (DrewT p B g w) := by
  obtain ⟨hgl, hBg⟩ := hr.lt
  have z0 := (Blk.new w 47 #[.slice none 0 0, .int .i64 0, .slice none 0 0]).alloc (.cells #[] 3)
  have o0 : Own ((w.alloc (.cells #[.slice none 0 0, .int .i64 0, .slice none 0 0] 47)).alloc (.cells #[] 3)) (w.heap.size + 1) (some ⟨w.heap.size + 1, 0, none⟩) 0 0 [] := by (refine Own.lit0 ?_ ?_ <;> first | omega | (simp; done) | (simp; omega))
  have r0 := (hr.alloc (.cells #[.slice none 0 0, .int .i64 0, .slice none 0 0] 47)).alloc (.cells #[] 3)
  have G0 := grown_trans' (World.grownBy_alloc w (.cells #[.slice none 0 0, .int .i64 0, .slice none 0 0] 47) (some g)) (World.grownBy_alloc _ (.cells #[] 3) none) (by simp)
  have B0 := ((Below.refl g w).alloc (by omega) (.cells #[.slice none 0 0, .int .i64 0, .slice none 0 0] 47)).alloc (by simp; omega) (.cells #[] 3)
  generalize hW0 : (w.alloc (.cells #[.slice none 0 0, .int .i64 0, .slice none 0 0] 47)).alloc (.cells #[] 3) = W0 at z0 o0 r0 G0 B0
  go_enter Try.func82, Try.ntmps82
  go_wp2_with fail
  refine (pick_pos B g p _ _ r0 (by omega) (by omega) (by omega) (by omega)).mono ?_
  rintro e w1 ⟨v1, rfl, hv10, hv11, hr1, hg1, hs1, hb1⟩
  have z1 := z0.grown hg1 (fun e => by injection e with e; omega)
  have o1 := o0.kept hg1 (fun k hk e => by injection e with e; have := o0.lt hk; omega)
  have G1 := grown_trans' G0 hg1 (fun k hk => .inl hk)
  have B1 := B0.trans hb1
  clear z0 o0 r0 G0 B0 hg1 hb1 hs1 hW0
  go_wp2_with fail
  refine (pick_pos B g _ _ _ hr1 (by omega) (by omega) (by omega) (by omega)).mono ?_
  rintro e w2 ⟨v2, rfl, hv20, hv21, hr2, hg2, hs2, hb2⟩
  have z2 := z1.grown hg2 (fun e => by injection e with e; omega)
  have o2 := o1.kept hg2 (fun k hk e => by injection e with e; have := o1.lt hk; omega)
  have hst : ∀ nd : Int, DT w B g (w2.heap.size + 1) p _ _ _ _ nd _ _ _ _ _ _ := fun nd => DT.start (x := 0) (y := 0) (p := p) (nd := nd) z2 o2 hr2 hgl (by omega) (grown_trans' G1 hg2 (fun k hk => .inl hk)) (B1.trans hb2)
  clear z1 o1 hr1 G1 B1 hg2 hb2 hs2 z2 o2 hr2
  go_wp2_with fail
  go_loopw [4] (fun i wr => ∃ (k : Nat) (A1 : Option Addr) (n1 c1 : Nat) (nd : Int) (A2 : Option Addr) (n2 c2 : Nat) (rs : List Int) (ps : List (Int × Int)) (p' : Int), k ≤ 15 ∧ i = .int .i64 k ∧ n1 ≤ k ∧ n2 ≤ k ∧ p' ≤ p + 2 + 3 * (k : Int) ∧ DT w B g (w2.heap.size + 1) p wr A1 n1 c1 nd A2 n2 c2 rs ps p') (fun i _ => 15 - (intOf i).toNat)
  case atStart => exact ⟨0, _, _, _, _, _, _, _, _, _, _, by omega, rfl, by omega, by omega, by omega, hst _⟩
  case round =>
    clear hst
    obtain ⟨k, A1, n1, c1, nd, A2, n2, c2, rs, ps, p', hk, rfl, hn1, hn2, hp', h⟩ := hrel
    have hp0' := h.p0
    by_cases hlt : k < 15
    · go_wp2_with fail
      refine (pick_pos B g _ _ _ h.rd (by omega) (by omega) (by omega) (by omega)).mono ?_
      rintro e w3 ⟨u, rfl, hu0, hu1, hr3, hg3, hs3, hb3⟩
      have h3 := h.picked hr3 hg3 hb3
      clear h hr3 hg3 hb3 hs3
      have f3 := h3.b.three
      have z3 := h3.sz
      cases hu : (u == 0)
      · clear f3
        go_wp2_with fail
        refine (pick_pos B g _ _ _ h3.rd (by omega) (by omega) (by omega) (by omega)).mono ?_
        rintro e w6 ⟨u6, rfl, hu60, hu61, hr6, hg6, hs6, hb6⟩
        have h6 := h3.picked hr6 hg6 hb6
        clear h3 hr6 hg6 hb6 hs6
        have f6 := h6.b.three
        have z6 := h6.sz
        cases hu6 : (u6 == 0)
        · go_wp2
          go_roundw
          case rel => exact ⟨k + 1, _, _, _, _, _, _, _, _, _, _, by omega, by go_num, by omega, by omega, by omega, h6⟩
          case measure => simp [intOf]; omega
        · go_wp2_with fail
          go_region_law (first
            | (refine step_appP rfl (.tmp 30) (.tmp 36) rfl (w.heap.size + 1) (by rfl) (h7.a2.alloc _) _ _ _ _ [_] (by rfl) (Puts.one' _ _ (by first | omega | (simp; done) | (simp; omega))) (by omega) (by have := h7.sz; simp; omega) ?_; intro A8 c8 w8 o8 hg8 at8; have h8 := (h7.alloc _).addP hg8 o8; have f8 := ((h7.alloc _).gP hg8).three)
            | (refine step_callv 74 _ _ #[.pointer (some ⟨g, 0, none⟩), .int .i64 21] rfl (fun _ _ => rfl) rfl (by first | (simp [Act.eval]; done) | simp [Act.eval, Act.put]) ?_; refine (pick_pos B g _ 21 _ (h6.rd.drew) (by omega) (by omega) (by omega) (by omega)).mono ?_; rintro e w7 ⟨v7, rfl, hv70, hv71, hr7, hg7, hs7, hb7⟩; refine ⟨_, rfl, ?_⟩; have h7 := h6.drew.picked hr7 hg7 hb7; have f7 := h7.b.three; have z7 := h7.sz; clear hs7))
          all_goals
            clear f6 f7 f8
            generalize hw8 : World.setCell _ _ _ = w9 at h8 ⊢
            clear hw8
            go_wp2_with fail
            go_roundw
            case rel => exact ⟨k + 1, _, _, _, _, _, _, _, _, _, _, by omega, by go_num, by omega, by omega, by omega, h8⟩
            case measure => simp [intOf]; omega
      · go_wp2_with (at_builtin; refine app1 rfl _ _ rfl (w.heap.size + 1) rfl (h3.alloc _).a1 _ _ _ _ [_] rfl (Ints.one' _ (by first | omega | (simp; done) | (simp; omega))) (by omega) (by have := h3.sz; simp; omega) ?_; intro A4 c4 w4 o4 hg4 at4; have h4 := (h3.alloc _).addR hg4 o4; have f4 := ((h3.alloc _).gB hg4).three)
        generalize hw5 : World.setCell _ _ _ = w5 at h4 ⊢
        clear hw5 f4 f3 o4 hg4 at4
        go_wp2_with fail
        refine (pick_pos B g _ _ _ h4.rd (by omega) (by omega) (by omega) (by omega)).mono ?_
        rintro e w6 ⟨u6, rfl, hu60, hu61, hr6, hg6, hs6, hb6⟩
        have h6 := h4.picked hr6 hg6 hb6
        clear h4 hr6 hg6 hb6 hs6
        have f6 := h6.b.three
        have z6 := h6.sz
        cases hu6 : (u6 == 0)
        · go_wp2
          go_roundw
          case rel => exact ⟨k + 1, _, _, _, _, _, _, _, _, _, _, by omega, by go_num, by omega, by omega, by omega, h6⟩
          case measure => simp [intOf]; omega
        · go_wp2_with fail
          go_region_law (first
            | (refine step_appP rfl (.tmp 30) (.tmp 36) rfl (w.heap.size + 1) (by rfl) (h7.a2.alloc _) _ _ _ _ [_] (by rfl) (Puts.one' _ _ (by first | omega | (simp; done) | (simp; omega))) (by omega) (by have := h7.sz; simp; omega) ?_; intro A8 c8 w8 o8 hg8 at8; have h8 := (h7.alloc _).addP hg8 o8; have f8 := ((h7.alloc _).gP hg8).three)
            | (refine step_callv 74 _ _ #[.pointer (some ⟨g, 0, none⟩), .int .i64 21] rfl (fun _ _ => rfl) rfl (by first | (simp [Act.eval]; done) | simp [Act.eval, Act.put]) ?_; refine (pick_pos B g _ 21 _ (h6.rd.drew) (by omega) (by omega) (by omega) (by omega)).mono ?_; rintro e w7 ⟨v7, rfl, hv70, hv71, hr7, hg7, hs7, hb7⟩; refine ⟨_, rfl, ?_⟩; have h7 := h6.drew.picked hr7 hg7 hb7; have f7 := h7.b.three; have z7 := h7.sz; clear hs7))
          all_goals
            clear f6 f7 f8
            generalize hw8 : World.setCell _ _ _ = w9 at h8 ⊢
            clear hw8
            go_wp2_with fail
            go_roundw
            case rel => exact ⟨k + 1, _, _, _, _, _, _, _, _, _, _, by omega, by go_num, by omega, by omega, by omega, h8⟩
            case measure => simp [intOf]; omega
    · obtain rfl : k = 15 := by omega
      go_wp2_with fail
      refine (pick_pos B g _ _ _ h.rd (by omega) (by omega) (by omega) (by omega)).mono ?_
      rintro e w3 ⟨u, rfl, hu0, hu1, hr3, hg3, hs3, hb3⟩
      have h10 := h.picked hr3 hg3 hb3
      clear h hr3 hg3 hb3 hs3
      cases hu : (u == 0)
      · cases hu1 : (u == 1)
        · cases hu2 : (u == 2)
          · have ff := h10.b.three
            have zz := h10.z.three
            have ss := h10.sz
            go_wp2_with fail
            exact bodyPost_ret (v := .agg #[.slice A1 n1 c1, .int .i64 nd, .slice A2 n2 c2]) (by simp [results, Try.results82, go_sem, zz]) rfl (h10.finish (by omega) (by omega) (by omega))
          · go_wp2_with fail
            have f10 := h10.b.three
            have s10 := h10.sz
            have s10a : w2.heap.size < w3.heap.size := by omega
            have hgw := h10.rd.lt.1
            go_region_law (first
              | (refine step_callv 74 _ _ #[.pointer (some ⟨g, 0, none⟩), .int .i64 17] rfl (fun _ _ => rfl) rfl (by first | (simp [Act.eval]; done) | simp [Act.eval, Act.put]) ?_; refine (pick_pos B g _ 17 _ (h10.rd.drew) (by omega) (by omega) (by omega) (by omega)).mono ?_; rintro e w5 ⟨v, rfl, hv0, hv1, hr5, hg5, hs5, hb5⟩; refine ⟨_, rfl, ?_⟩; have h5 := h10.drew.picked hr5 hg5 hb5; have f5 := h5.b.three; have s5 := h5.sz; have s5a : w2.heap.size < w5.heap.size := (by omega); clear hs5)
              | (refine step_callv 74 _ _ #[.pointer (some ⟨g, 0, none⟩), .int .i64 17] rfl (fun _ _ => rfl) rfl (by first | (simp [Act.eval]; done) | simp [Act.eval, Act.put]) ?_; refine (pick_pos B g _ 17 _ ((h10.alloc (.cells #[.int .i64 999, .int .i64 1000, .int .i64 (-1000), .int .i64 (-999)] 3)).drew.rd) (by omega) (by omega) (by omega) (by omega)).mono ?_; rintro e w5 ⟨v, rfl, hv0, hv1, hr5, hg5, hs5, hb5⟩; refine ⟨_, rfl, ?_⟩; have h5 := (h10.alloc (.cells #[.int .i64 999, .int .i64 1000, .int .i64 (-1000), .int .i64 (-999)] 3)).drew.picked hr5 hg5 hb5; have l5 := Blk.grown (Blk.new w3 3 #[.int .i64 999, .int .i64 1000, .int .i64 (-1000), .int .i64 (-999)]).drew hg5 (fun e => by injection e with e; omega); have f5 := h5.b.three; have s5 := h5.sz; have s5a : w2.heap.size < w5.heap.size := (by omega); clear hs5)
              | (refine step_callv 74 _ _ #[.pointer (some ⟨g, 0, none⟩), .int .i64 4] rfl (fun _ _ => rfl) rfl (by first | (simp [Act.eval]; done) | simp [Act.eval, Act.put]) ?_; refine (pick_pos B g _ 4 _ (h5.rd) (by omega) (by omega) (by omega) (by omega)).mono ?_; rintro e w6 ⟨j, rfl, hj0, hj1, hr6, hg6, hs6, hb6⟩; obtain ⟨j, rfl⟩ := Int.eq_ofNat_of_zero_le hj0; refine ⟨_, rfl, ?_⟩; have h6 := h5.picked hr6 hg6 hb6; have f6 := h6.b.three; have s6 := h6.sz; have s6a : w2.heap.size < w6.heap.size := (by omega); have gl6 := h5.rd.lt.1; first | (have l6 := Blk.grown l5 hg6 (fun e => by injection e with e; omega); obtain ⟨x, hx1, hx2⟩ := lit4t _ _ j _ _ _ _ (by omega) l6; have l6 := l6.lt; clear hs6) | (obtain ⟨x, hx1, hx2⟩ := lit4t _ _ j _ _ _ _ (by omega) (Blk.new w6 3 #[.int .i64 999, .int .i64 1000, .int .i64 (-1000), .int .i64 (-999)]); clear hs6))
              | (refine step_callv 74 _ _ #[.pointer (some ⟨g, 0, none⟩), .int .i64 4] rfl (fun _ _ => rfl) rfl (by first | (simp [Act.eval]; done) | simp [Act.eval, Act.put]) ?_; refine (pick_pos B g _ 4 _ ((h5.alloc (.cells #[.int .i64 999, .int .i64 1000, .int .i64 (-1000), .int .i64 (-999)] 3)).rd) (by omega) (by omega) (by omega) (by omega)).mono ?_; rintro e w6 ⟨j, rfl, hj0, hj1, hr6, hg6, hs6, hb6⟩; obtain ⟨j, rfl⟩ := Int.eq_ofNat_of_zero_le hj0; refine ⟨_, rfl, ?_⟩; have h6 := (h5.alloc (.cells #[.int .i64 999, .int .i64 1000, .int .i64 (-1000), .int .i64 (-999)] 3)).picked hr6 hg6 hb6; have gl6 := h5.rd.lt.1; have l6 := Blk.grown (Blk.new w5 3 #[.int .i64 999, .int .i64 1000, .int .i64 (-1000), .int .i64 (-999)]) hg6 (fun e => by injection e with e; omega); obtain ⟨x, hx1, hx2⟩ := lit4t _ _ j _ _ _ _ (by omega) l6; have l6 := l6.lt; have f6 := h6.b.three; have s6 := h6.sz; have s6a : w2.heap.size < w6.heap.size := (by omega); clear hs6)
              | (refine step_appP rfl (.tmp 62) (.tmp 72) rfl (w.heap.size + 1) (by rfl) (h6.a2.alloc _) _ _ _ _ [_] (by rfl) (Puts.one' _ _ (by first | omega | (simp; done) | (simp; omega))) (by omega) (by have := h6.sz; simp; omega) ?_; intro A8 c8 w8 o8 hg8 at8; have h8 := (h6.alloc _).addP hg8 o8; have f8 := ((h6.alloc _).gP hg8).three)
              | (refine step_appP rfl (.tmp 62) (.tmp 72) rfl (w.heap.size + 1) (by rfl) ((h6.alloc (.cells #[.int .i64 999, .int .i64 1000, .int .i64 (-1000), .int .i64 (-999)] 3)).a2.alloc _) _ _ _ _ [_] (by rfl) (Puts.one' _ _ (by first | omega | (simp; done) | (simp; omega))) (by omega) (by have := h6.sz; simp; omega) ?_; intro A8 c8 w8 o8 hg8 at8; have h8 := ((h6.alloc (.cells #[.int .i64 999, .int .i64 1000, .int .i64 (-1000), .int .i64 (-999)] 3)).alloc _).addP hg8 o8; have f8 := (((h6.alloc (.cells #[.int .i64 999, .int .i64 1000, .int .i64 (-1000), .int .i64 (-999)] 3)).alloc _).gP hg8).three))
            all_goals
              clear f10 f5 f6 f8
              generalize hw9 : World.setCell _ _ _ = w9 at h8 ⊢
              clear hw9
              have ff := h8.b.three
              have zz := h8.z.three
              have ss := h8.sz
              go_wp2_with fail
              exact bodyPost_ret (v := .agg #[.slice A1 n1 c1, .int .i64 nd, .slice A8 (n2 + 1) c8]) (by simp [results, Try.results82, go_sem, zz]) rfl (h8.finish (by omega) (by omega) (by omega))
        · go_wp2_with fail
          have f10 := h10.b.three
          have s10 := h10.sz
          go_region_law (first
            | (refine step_callv 74 _ _ #[.pointer (some ⟨g, 0, none⟩), .int .i64 17] rfl (fun _ _ => rfl) rfl (by first | (simp [Act.eval]; done) | simp [Act.eval, Act.put]) ?_; refine (pick_pos B g _ 17 _ (h10.rd.drew) (by omega) (by omega) (by omega) (by omega)).mono ?_; rintro e w5 ⟨v, rfl, hv0, hv1, hr5, hg5, hs5, hb5⟩; refine ⟨_, rfl, ?_⟩; have h5 := h10.drew.picked hr5 hg5 hb5; have f5 := h5.b.three; have s5 := h5.sz; clear hs5)
            | (refine step_app1 rfl (.tmp 52) (.tmp 56) rfl (w.heap.size + 1) (by rfl) (h5.a1.alloc _) _ _ _ _ [_] (by rfl) (Ints.one' _ (by first | omega | (simp; done) | (simp; omega))) (by omega) (by have := h5.sz; simp; omega) ?_; intro A6 c6 w6 o6 hg6 at6; have h6 := (h5.alloc _).addR hg6 o6; have f6 := ((h5.alloc _).gB hg6).three))
          all_goals
            clear f10 f5 f6
            generalize hw7 : World.setCell _ _ _ = w7 at h6 ⊢
            clear hw7
            have ff := h6.b.three
            have zz := h6.z.three
            have ss := h6.sz
            go_wp2_with fail
            exact bodyPost_ret (v := .agg #[.slice A6 (n1 + 1) c6, .int .i64 nd, .slice A2 n2 c2]) (by simp [results, Try.results82, go_sem, zz]) rfl (h6.finish (by omega) (by omega) (by omega))
      · have h11 := h10.alloc (.cells #[.int .i64 (-1), .int .i64 14985, .int .i64 14986] 3)
        have l4 := Blk.new w3 3 #[.int .i64 (-1), .int .i64 14985, .int .i64 14986]
        have hgw := h10.rd.lt.1
        clear h10
        go_wp2_with fail
        refine (pick_pos B g _ _ _ h11.rd (by omega) (by omega) (by omega) (by omega)).mono ?_
        rintro e w4 ⟨v, rfl, hv0, hv1, hr4, hg4, hs4, hb4⟩
        obtain ⟨m, rfl⟩ := Int.eq_ofNat_of_zero_le hv0
        have h12 := h11.picked hr4 hg4 hb4
        have l5 := Blk.grown l4 hg4 (fun e => by injection e with e; omega)
        obtain ⟨x, hx1, hx2⟩ := lit3 _ _ m _ _ _ (by omega) l5
        have l5 := l5.lt
        clear h11 hr4 hg4 hb4 hs4 l4
        have f12 := h12.b.three
        have s12 := h12.sz
        have h13 := h12.need x
        have ff := h13.b.three
        have zz := h13.z.three
        have ss := h13.sz
        go_wp2_with fail
        exact bodyPost_ret (v := .agg #[.slice A1 n1 c1, .int .i64 x, .slice A2 n2 c2]) (by simp [results, Try.results82, go_sem, zz]) rfl (h13.finish (by omega) (by omega) (by omega))
end Go.Proofs.Ytaelaldgohppeaa
