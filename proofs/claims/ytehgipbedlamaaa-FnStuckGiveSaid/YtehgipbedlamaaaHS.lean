/-
  CreditsStuck, the program's.
-/
import Derived.Test.YtehgipbedlamaaaHC
import Derived.Test.YtehgipbedlamaaaCG
namespace Go.Proofs.Ytehgipbedlamaaa
open Go.RowKit
set_option linter.unusedVariables false

def bvl (S : List Bool) : List Value := S.map Value.bool
def Marks (w : World) (base g n : Nat) (S : List Bool) : Prop := w.ownsRow base 4 1 (.slice (some ⟨g, 0, none⟩) n n) n (bvl S)
theorem boolx_info : (Try.prog.info? 4).map (fun i => (i.zero, i.size, i.bytes)) = some (some (.bool false), 1, 1) := by kernel_rfl
section
variable {w w' : World} {base g n : Nat} {S : List Bool}
theorem Marks.len (h : Marks w base g n S) : S.length = n := by have := h.1; simpa [bvl] using this
theorem Marks.below (h : Marks w base g n S) (hb : Below w.heap.size w w') : Marks w' base g n S :=
  World.ownsRow.kept h (row := none) ⟨hb.os, hb.tape, hb.output, hb.size, fun k hk _ => hb.block k hk⟩ (by cases hA : (Value.slice (some ⟨g, 0, none⟩) n n).ownBlock <;> simp)
theorem Marks.at_ (h : Marks w base g n S) {k : Nat} (hk : k < n) : w.cell? ⟨g, k, none⟩ = some (.bool (S.getD k false)) ∧ w.frozen? ⟨g, k, none⟩ = false := by
  refine ⟨?_, World.ownsRow.frozenAt h k⟩
  have hl : k < S.length := by rw [h.len]; exact hk
  rw [World.ownsRow.cellAt h k (by omega)]
  simp [bvl, hl]
theorem Marks.set_ (h : Marks w base g n S) (k : Nat) (x : Bool) : Marks (w.setCell ⟨g, k, none⟩ (.bool x)) base g n (S.set k x) := by
  have := World.ownsRow.stored h k (.bool x)
  unfold Marks bvl
  rw [List.map_set]
  exact this.1
theorem Marks.appd {v : Int} {base' n3 c3 : Nat} {A3 : Option Addr} {xs : List Int} (h : Marks w base g n S) (o : Own w base' A3 n3 c3 xs) (hg : (w.alloc (.cells #[.int .i64 v] 3)).grownBy w' (blk A3)) : Marks w' base g n S :=
  World.ownsRow.kept (h.below ((Below.refl _ _).alloc (Nat.le_refl _) _)) hg (.inr (fun e => by
    have h2 := o.alloc (.cells #[.int .i64 v] 3)
    have h1 : w.ownsRow base 4 1 (.slice (some ⟨g, 0, none⟩) n n) n (bvl S) := h
    have := own_ne_own o h1 (by decide) (k := g) (by rw [blk_own, ← e]; rfl)
    exact this rfl))
theorem Marks.lt (h : Marks w base g n S) : base ≤ g ∧ g < w.heap.size := World.ownsRow.lt h g rfl
end
section
variable {w : World} {ops : Array Oper} {rest : List Oper} {o : Oper} {a : Act} {Q : Exit → Act → World → Prop}
theorem mkMarks (hgd : o.guard = none) (l c : Operand) (hop : o.op = Op.makeSlice 64 l c) (base : Nat) (kl kc : IntKind) (L C : Int) (n : Nat)
    (hl : a.eval l = .int kl L) (hc : a.eval c = .int kc C) (hL : L = (n : Int)) (hC : C = (n : Int)) (hn : n ≤ 4194304) (hb : base ≤ w.heap.size)
    (h : ∀ w', Marks w' base w.heap.size n (List.replicate n false) → w.grownBy w' none → wpList Try.prog ops Q rest (a.put o.dst (.slice (some ⟨w.heap.size, 0, none⟩) n n)) w') :
    wpList Try.prog ops Q (o :: rest) a w := by
  obtain ⟨i0, hi, hz0, hz1, hz2⟩ := info_parts boolx_info
  refine wpList_make_full w hgd l c 64 hop base 4 i0 (.bool false) 1 Try.underlying64 hi hz0 hz1 kl kc L C n hl hc hL hC (by rw [hz2]; omega) (by unfold maxLen; omega) hb ?_
  intro w' ho hg
  refine h w' ?_ hg
  have e : (madeCells (Value.bool false).cells (n * 1)).toList = bvl (List.replicate n false) := by
    simp only [madeCells, Value.cells, bvl, List.map_replicate]
    simp only [Nat.mul_one, List.size_toArray, List.length_cons, List.length_nil]
    refine List.ext_getElem (by simp) (fun i h1 h2 => ?_)
    simp [Nat.mod_one]
  unfold Marks
  rw [← e]
  exact ho
end
def s1 (H : List HX) (k : Nat) : List Bool := (sk0 H).take k ++ List.replicate (H.length - k) false
theorem s1_zero (H : List HX) : s1 H 0 = List.replicate H.length false := by simp [s1]
theorem s1_all (H : List HX) : s1 H H.length = sk0 H := by
  unfold s1
  rw [List.take_of_length_le (by simp [sk0])]; simp
theorem s1_set (H : List HX) (k : Nat) (hk : k < H.length) : (s1 H k).set k ((hAt H k).wait != -1) = s1 H (k + 1) := by
  have hl : (sk0 H).length = H.length := by simp [sk0]
  unfold s1
  rw [List.set_append_right _ _ (by rw [List.length_take]; omega), List.length_take, show k - min k (sk0 H).length = 0 by omega, show H.length - k = (H.length - (k + 1)) + 1 by omega, List.replicate_succ, List.set_cons_zero,
    List.take_succ_eq_append_getElem (by omega), List.append_assoc]
  congr 1
  simp only [List.singleton_append, List.cons.injEq, and_true]
  simp [sk0, hAt, List.getD_eq_getElem?_getD, hk]
theorem fold_range {α : Type} (f : α → Nat → α) (a : α) (k : Nat) : (List.range (k + 1)).foldl f a = f ((List.range k).foldl f a) k := by rw [List.range_succ, List.foldl_append]; rfl
theorem stuckI_succ (S : List Bool) (k : Nat) : stuckI S (k + 1) = stuckI S k ++ (if S.getD k false then [(k : Int)] else []) := by
  unfold stuckI
  rw [List.range_succ, List.filter_append, List.map_append]
  congr 1
  simp only [List.filter_cons, List.filter_nil]
  split <;> simp
theorem stuckL_len (c : CX) : (stuckL c).length ≤ c.holds.length := by
  unfold stuckL
  split
  · unfold stuckI
    rw [List.length_map]
    exact Nat.le_trans (List.length_filter_le _ _) (by simp)
  · simp
set_option maxRecDepth 100000 in
set_option maxHeartbeats 8000000 in
theorem stuck_any (F : Option Addr) (nf cf : Nat) (A : Option Addr) (n c : Nat) (R : List HR) (cx : CX) (w : World) (hc : Cr w w.heap.size F nf A n R cx) (hnf : nf ≤ 1048576) (hn : n ≤ 1048576) :
    Calls Try.prog 15 #[.agg #[.slice F nf cf, .slice A n c]] w (RetInts (stuckL cx) w) := by
  have b0 := Blk.new w 26 #[.slice F nf cf, .slice A n c]
  have X0 := hc.box (.cells #[.slice F nf cf, .slice A n c] 26)
  have B0 : Below w.heap.size w (w.alloc (.cells #[.slice F nf cf, .slice A n c] 26)) := (Below.refl _ _).alloc (Nat.le_refl _) _
  have z0 : w.heap.size ≤ (w.alloc (.cells #[.slice F nf cf, .slice A n c] 26)).heap.size := by simp
  have hnl := Lib.hid hc.h.l
  generalize hW : w.alloc (.cells #[.slice F nf cf, .slice A n c] 26) = W at b0 X0 B0 z0
  have f0 := b0.two
  cases hv : cvB cx
  · go_enter Try.func15, Try.ntmps15
    go_wp2_with fail
    refine (implCV_any F nf cf A n c R cx W X0 hnf hn).mono ?_
    rintro e w1 ⟨rfl, hb1⟩
    rw [hv]
    have HB : Below w.heap.size w w1 := B0.trans (hb1.mono (by omega))
    go_wp2_with fail
    go_ret
    exact ⟨none, 0, 0, rfl, by rw [show stuckL cx = [] by simp [stuckL, hv]]; exact Own.nil _ _, HB⟩
  have HSL := Lib.hid (show stuckL cx = stuckI (skN cx.holds n) n by simp [stuckL, hv, hnl.out])
  have HC := Lib.hid (cv_iff.1 hv)
  have hn6 : n ≤ 6 := by have h1 := HC.out.l6; have h2 := hnl.out; omega
  clear hc
  go_enter Try.func15, Try.ntmps15
  go_wp2_with fail
  refine (implCV_any F nf cf A n c R cx W X0 hnf hn).mono ?_
  rintro e w1 ⟨rfl, hb1⟩
  rw [hv]
  have s1' := hb1.size
  have f1 := (b0.below hb1 b0.lt).two
  clear hv hW f0
  go_wp2_with (first
    | (at_make; refine mkMarks rfl _ _ rfl w1.heap.size _ _ _ _ n rfl rfl rfl rfl (by omega) (Nat.le_refl _) ?_
       intro w2 m2 hg2
       have hb2 : Below w1.heap.size w1 w2 := Below.grown (Below.refl _ _) hg2 (Nat.le_refl _) (fun j hj => by cases hj)
       have f2 := ((b0.below hb1 b0.lt).below hb2 (by have := (b0.below hb1 b0.lt).lt; omega)).two))
  have B2 : Below W.heap.size W w2 := hb1.trans (hb2.mono s1')
  have gB := m2.lt
  rw [← hnl.out, ← s1_zero, hnl.out] at m2
  clear f1 f2 hg2 hb2 hb1
  go_loopw [22] (fun i wr => ∃ k : Nat, k ≤ n ∧ i = .int .i64 k ∧ Below W.heap.size W wr ∧ Marks wr w1.heap.size w1.heap.size n (s1 cx.holds k)) (fun i _ => n - (intOf i).toNat)
  case atStart => exact ⟨0, Nat.zero_le _, rfl, B2, m2⟩
  case round =>
    clear B2 m2
    obtain ⟨k, hk, rfl, hbw, m⟩ := hrel
    have zz := hbw.size
    have b := b0.below hbw b0.lt
    have f := b.two
    have ml := m.lt
    by_cases hlt : k < n
    · have X := X0.up hbw hbw.size
      obtain ⟨ad, A1, n1, c1, v, xs, rfl, hbb, hc0, hc1, hc2, hc3, hi, hn1, hk1, hs1, hR1⟩ := X.h.el hlt
      have mA := m.below ((Below.refl _ _).alloc (Nat.le_refl _) (.cells #[.slice A1 n1 c1, .int .i64 v] 47))
      have hm := mA.at_ hlt
      have fH := (Blk.new wr 47 #[.slice A1 n1 c1, .int .i64 v]).two
      have fB := (b.alloc (.cells #[.slice A1 n1 c1, .int .i64 v] 47)).two
      have hm0 := m.at_ hlt
      have m9 := m.set_ k (v != -1)
      have HT := Lib.hid (hAt_of hk1.out)
      have hst := s1_set cx.holds k (by rw [hnl.out]; exact hlt)
      rw [HT.out] at hst
      simp only at hst
      rw [hst] at m9
      have gk : (k : Int) < (n : Int) := by omega
      have hbA : Below W.heap.size W (wr.alloc (.cells #[.slice A1 n1 c1, .int .i64 v] 47)) := hbw.alloc (by omega) _
      have m8 := m9.below ((Below.refl _ _).alloc (Nat.le_refl _) (.cells #[.slice A1 n1 c1, .int .i64 v] 47))
      clear hst mA
      generalize (s1 cx.holds k).getD k false = old at hm hm0
      go_wp2_with fail
      go_roundw
      case rel => exact ⟨k + 1, by omega, by go_num, (hbw.setCell (p := ⟨w1.heap.size, k, none⟩) (show W.heap.size ≤ w1.heap.size by omega) _).alloc (by simp; omega) _, m8⟩
      case measure => first | (simp [intOf]; done) | (simp [intOf]; omega)
    · obtain rfl : n = k := by omega
      rw [← hnl.out, s1_all, hnl.out] at m
      go_wp2_with fail
      go_loopw [37] (fun i wr => ∃ r : Nat, r ≤ n ∧ i = .int .i64 r ∧ Below W.heap.size W wr ∧ Marks wr w1.heap.size w1.heap.size n (skN cx.holds r)) (fun i _ => n - (intOf i).toNat)
      case atStart => exact ⟨0, Nat.zero_le _, rfl, hbw, m⟩
      case round =>
        clear hbw m b f ml
        obtain ⟨r, hr, rfl, hbw, m⟩ := hrel
        have f := (b0.below hbw b0.lt).two
        by_cases hltr : r < n
        · go_wp2_with fail
          go_loopw [42] (fun i wr => ∃ i' : Nat, i' ≤ n ∧ i = .int .i64 i' ∧ Below W.heap.size W wr ∧ Marks wr w1.heap.size w1.heap.size n ((List.range i').foldl (skI cx.holds) (skN cx.holds r))) (fun i _ => n - (intOf i).toNat)
          case atStart => exact ⟨0, Nat.zero_le _, rfl, hbw, by simpa using m⟩
          case round =>
            clear hbw m f
            obtain ⟨i, hi', rfl, hbw, m⟩ := hrel
            have zz := hbw.size
            have b := b0.below hbw b0.lt
            have f := b.two
            by_cases hlti : i < n
            · have X := X0.up hbw hbw.size
              obtain ⟨ad, A1, n1, c1, v, xs, rfl, hbb, hc0, hc1, hc2, hc3, hi, hn1, hk1, hs1, hR1⟩ := X.h.el hlti
              have fH := (Blk.new wr 47 #[.slice A1 n1 c1, .int .i64 v]).two
              have fB := (b.alloc (.cells #[.slice A1 n1 c1, .int .i64 v] 47)).two
              have HT := Lib.hid (hAt_of hk1.out)
              have gi : (i : Int) < (n : Int) := by omega
              have hbA : Below W.heap.size W (wr.alloc (.cells #[.slice A1 n1 c1, .int .i64 v] 47)) := hbw.alloc (by omega) _
              have mA := m.below ((Below.refl _ _).alloc (Nat.le_refl _) (.cells #[.slice A1 n1 c1, .int .i64 v] 47))
              have hH := Blk.new wr 47 #[.slice A1 n1 c1, .int .i64 v]
              have zH : wr.heap.size < (wr.alloc (.cells #[.slice A1 n1 c1, .int .i64 v] 47)).heap.size := by simp
              go_wp2_with fail
              generalize wr.alloc (.cells #[.slice A1 n1 c1, .int .i64 v] 47) = wh at hbA mA hH zH fH fB ⊢
              clear X hi hc0 hc1 hc2 hc3 hbb m b f hbw
              generalize wr.heap.size = gH at hH zH zz fH ⊢
              generalize hSi : (List.range i).foldl (skI cx.holds) (skN cx.holds r) = Si at mA
              go_loopw [50] (fun j wz => ∃ k : Nat, k ≤ n ∧ j = .int .i64 k ∧ Below W.heap.size W wz ∧ Blk wz gH 47 #[.slice A1 n1 c1, .int .i64 v] ∧ Marks wz w1.heap.size w1.heap.size n ((List.range k).foldl (skK cx.holds i) Si)) (fun j _ => n - (intOf j).toNat)
              case atStart => exact ⟨0, Nat.zero_le _, rfl, hbA, hH, by simpa using mA⟩
              case round =>
                clear hbA mA hH zH fH fB zz
                obtain ⟨k, hkk, rfl, hbw, hH, m⟩ := hrel
                have zz := hbw.size
                have b := b0.below hbw b0.lt
                have f := b.two
                have fH := hH.two
                have lH := hH.lt
                generalize hSk : (List.range k).foldl (skK cx.holds i) Si = Sk at m
                have hmi := m.at_ hlti
                by_cases hltk : k < n
                · have X := X0.up hbw hbw.size
                  obtain ⟨ad', A2, n2, c2, v2, xs2, hA', hbb2, hd0, hd1, hd2, hd3, hi2, hn2, hk2, hs2, hR2⟩ := X.h.el hltk
                  injection hA' with hA'
                  subst hA'
                  have HT2 := Lib.hid (hAt_of hk2.out)
                  have gk : (k : Int) < (n : Int) := by omega
                  have hmk := m.at_ hltk
                  have hG := Blk.new wr 47 #[.slice A2 n2 c2, .int .i64 v2]
                  have fG := hG.two
                  have hHa := hH.alloc (.cells #[.slice A2 n2 c2, .int .i64 v2] 47)
                  have fHa := hHa.two
                  have fBa := (b.alloc (.cells #[.slice A2 n2 c2, .int .i64 v2] 47)).two
                  have ma := m.below ((Below.refl _ _).alloc (Nat.le_refl _) (.cells #[.slice A2 n2 c2, .int .i64 v2] 47))
                  have hmia := ma.at_ hlti
                  have hmka := ma.at_ hltk
                  have hi2a := hi2.alloc (Nat.le_refl _) (.cells #[.slice A2 n2 c2, .int .i64 v2] 47)
                  have hba : Below W.heap.size W (wr.alloc (.cells #[.slice A2 n2 c2, .int .i64 v2] 47)) := hbw.alloc (by omega) _
                  have HNX := Lib.hid (show (List.range (k + 1)).foldl (skK cx.holds i) Si = if Sk.getD i false && (!Sk.getD k false && hasB xs2 v) then Sk.set i false else Sk by rw [fold_range, hSk]; unfold skK; rw [HT.out, HT2.out])
                  clear hSk hSi
                  have m9 := (m.set_ i false).below ((Below.refl _ _).alloc (Nat.le_refl _) (.cells #[.slice A2 n2 c2, .int .i64 v2] 47))
                  have ma9 := ma.set_ i false
                  cases hci : Sk.getD i false
                  · rw [hci] at hmi hmia
                    have HN2 := Lib.hid (show (List.range (k + 1)).foldl (skK cx.holds i) Si = Sk by rw [HNX.out, hci]; simp)
                    clear hci
                    generalize Sk.getD k false = ok at hmk hmka
                    go_wp2_with fail
                    go_roundw
                    case rel => exact ⟨k + 1, by omega, by go_num, hba, hHa, by rw [HN2.out]; exact ma⟩
                    case measure => first | (simp [intOf]; done) | (simp [intOf]; omega)
                  rw [hci] at hmi hmia
                  cases hck : Sk.getD k false
                  case true =>
                    rw [hck] at hmk hmka
                    have HN2 := Lib.hid (show (List.range (k + 1)).foldl (skK cx.holds i) Si = Sk by rw [HNX.out, hck]; simp)
                    clear hci hck
                    go_wp2_with fail
                    go_roundw
                    case rel => exact ⟨k + 1, by omega, by go_num, hba, hHa, by rw [HN2.out]; exact ma⟩
                    case measure => first | (simp [intOf]; done) | (simp [intOf]; omega)
                  rw [hck] at hmk hmka
                  cases hhb : hasB xs2 v
                  · have HN2 := Lib.hid (show (List.range (k + 1)).foldl (skK cx.holds i) Si = Sk by rw [HNX.out, hhb]; simp)
                    have HH := Lib.hid hhb
                    clear hci hck hhb
                    go_wp2_with (go_at_call 41; refine (gHas_any A2 n2 c2 wr.heap.size xs2 _ _ hi2a hn2).mono ?_; rintro e w' ⟨rfl, rfl⟩; rw [HH.out])
                    go_roundw
                    case rel => exact ⟨k + 1, by omega, by go_num, hba, hHa, by rw [HN2.out]; exact ma⟩
                    case measure => first | (simp [intOf]; done) | (simp [intOf]; omega)
                  · have HN2 := Lib.hid (show (List.range (k + 1)).foldl (skK cx.holds i) Si = Sk.set i false by rw [HNX.out, hhb, hci, hck]; simp)
                    have HH := Lib.hid hhb
                    clear hci hck hhb
                    go_wp2_with (go_at_call 41; refine (gHas_any A2 n2 c2 wr.heap.size xs2 _ _ hi2a hn2).mono ?_; rintro e w' ⟨rfl, rfl⟩; rw [HH.out])
                    go_roundw
                    case rel => exact ⟨k + 1, by omega, by go_num, hba.setCell (p := ⟨w1.heap.size, i, none⟩) (show W.heap.size ≤ w1.heap.size by omega) _, hHa.far (fun e => own_ne_box (show World.ownsRow _ _ _ _ _ _ _ from m) hH (by decide) (show blk (some ⟨w1.heap.size, 0, none⟩) = some gH by simp only at e; rw [e]; rfl)) _, by rw [HN2.out]; exact ma9⟩
                    case measure => first | (simp [intOf]; done) | (simp [intOf]; omega)
                · obtain rfl : n = k := by omega
                  have HN := Lib.hid (show (List.range (i + 1)).foldl (skI cx.holds) (skN cx.holds r) = Sk by rw [fold_range, hSi]; unfold skI; rw [hnl.out]; exact hSk)
                  clear hSk hSi
                  go_wp2_with fail
                  go_roundw
                  case rel => exact ⟨i + 1, by omega, by go_num, hbw, by rw [HN.out]; exact m⟩
                  case measure => first | (simp [intOf]; done) | (simp [intOf]; omega)
            · obtain rfl : n = i := by omega
              go_wp2_with fail
              go_roundw
              case rel => exact ⟨r + 1, by omega, by go_num, hbw, by
                have : skN cx.holds (r + 1) = (List.range n).foldl (skI cx.holds) (skN cx.holds r) := by rw [skN, skR, hnl.out]
                rw [this]; exact m⟩
              case measure => first | (simp [intOf]; done) | (simp [intOf]; omega)
        · obtain rfl : n = r := by omega
          generalize skN cx.holds n = SN at m HSL
          have oL : Own (wr.alloc (.cells #[] 3)) W.heap.size (some ⟨wr.heap.size, 0, none⟩) 0 0 [] := Own.lit0 rfl hbw.size
          have mL := m.below ((Below.refl _ _).alloc (Nat.le_refl _) (.cells #[] 3))
          have hbL : Below W.heap.size W (wr.alloc (.cells #[] 3)) := hbw.alloc hbw.size _
          clear m hbw
          go_wp2_with fail
          go_loopw [10, 82] (fun s i wr => ∃ (k : Nat) (A3 : Option Addr) (n3 c3 : Nat), k ≤ n ∧ i = .int .i64 k ∧ s = .slice A3 n3 c3 ∧ n3 ≤ k ∧ Below W.heap.size W wr ∧ Marks wr w1.heap.size w1.heap.size n SN ∧ Own wr W.heap.size A3 n3 c3 (stuckI SN k)) (fun _ i _ => n - (intOf i).toNat)
          case atStart => exact ⟨0, _, 0, 0, Nat.zero_le _, rfl, rfl, Nat.le_refl _, hbL, mL, oL⟩
          case round =>
            clear oL mL hbL
            obtain ⟨k, A3, n3, c3, hk3, rfl, rfl, hn3, hbw, m, o⟩ := hrel
            have zz := hbw.size
            by_cases hltk : k < n
            · have hmk := m.at_ hltk
              have gk : (k : Int) < (n : Int) := by omega
              have HSU := Lib.hid (stuckI_succ SN k)
              cases hck : SN.getD k false
              · rw [hck] at hmk
                have HS2 := Lib.hid (show stuckI SN (k + 1) = stuckI SN k by rw [HSU.out, hck]; simp)
                clear hck
                go_wp2_with fail
                go_roundw
                case rel => exact ⟨k + 1, A3, n3, c3, by omega, by go_num, rfl, by omega, hbw, m, by rw [HS2.out]; exact o⟩
                case measure => first | (simp [intOf]; done) | (simp [intOf]; omega)
              · rw [hck] at hmk
                have HS2 := Lib.hid (show stuckI SN (k + 1) = stuckI SN k ++ [(k : Int)] by rw [HSU.out, hck]; simp)
                clear hck
                go_wp2_with (at_builtin; refine app1 rfl _ _ rfl W.heap.size rfl (o.alloc _) _ _ _ _ [_] rfl (Ints.one' _ (by first | omega | (simp; done) | (simp; omega))) (by omega) (by simp; omega) ?_; intro A4 c4 w4 o4 hg4 at4; have hb4 : Below W.heap.size W w4 := Below.grown (hbw.alloc zz _) hg4 (by simp; omega) (fun j hj => (o.lt hj).1); have m4 := m.appd o hg4)
                go_roundw
                case rel => exact ⟨k + 1, A4, n3 + 1, c4, by omega, by go_num, rfl, by omega, hb4, m4, by rw [HS2.out]; exact o4⟩
                case measure => first | (simp [intOf]; done) | (simp [intOf]; omega)
            · obtain rfl : n = k := by omega
              go_wp2_with fail
              go_ret
              exact ⟨A3, n3, c3, rfl, by rw [HSL.out]; exact o.mono (by omega), B0.trans (hbw.mono (by omega))⟩
end Go.Proofs.Ytehgipbedlamaaa
