/-
  Contracts: the groups of a transaction.
-/
import Derived.Test.YtaelaldgohppeaaTF
import Derived.Test.YtaelaldgohppeaaT2
import Derived.Test.YtaelaldgohppeaaG2
namespace Go.Proofs.Ytaelaldgohppeaa
open Go.RowKit
set_option linter.unusedVariables false

theorem inG_hit {ks : List Int} {k : Nat} {x g : Int} (h : ks[k]? = some x) (hd : (x % 5 == g) = true) : inG ks g = true :=
  inG_iff.2 ⟨x, List.mem_of_getElem? h, beq_iff_eq.1 hd⟩
theorem Ints.drew1 {w : World} {B n : Nat} {A : Option Addr} {xs : List Int} (h : Ints w B A n xs) : Ints w.drew B A n xs := h
theorem Puts.drew1 {w : World} {B n : Nat} {A : Option Addr} {ps : List (Int × Int)} (h : Puts w B A n ps) : Puts w.drew B A n ps := h
theorem Own.setBlk {w : World} {g b n c : Nat} {t : TypeId} {cs : Array Value} {A : Option Addr} {xs : List Int} (h : Own w b A n c xs) (hb : Blk w g t cs) (ht : 3 ≠ t) (i : Nat) (u : Value) : Own (w.setCell ⟨g, i, none⟩ u) b A n c xs :=
  h.setCell (fun k hk e => by
    have := own_blk_ne h hb ht
    rw [blk_own] at this
    exact this (by rw [hk, e])) u
theorem Blk.tri {w : World} {g : Nat} {t : TypeId} {a b c : Value} (h : Blk w g t #[a, b, c]) : w.cell? ⟨g, 0, none⟩ = some a ∧ w.cell? ⟨g, 1, none⟩ = some b ∧ w.cell? ⟨g, 2, none⟩ = some c :=
  ⟨h.cell 0, h.cell 1, h.cell 2⟩
theorem Seen.step {w wr w1 : World} {T : TypeId} {n m c d : Nat} {A Bp : Option Addr} {rs : List Int} {ps : List (Int × Int)} {nd : Int} (h : Seen w T n m c d A Bp rs ps nd wr) (hb : Below wr.heap.size wr w1) : Seen w T n m c d A Bp rs ps nd w1 :=
  ⟨h.b.below hb h.b.lt, h.r.below (hb.mono h.bl.size), h.p.below (hb.mono h.bl.size), h.bl.trans (hb.mono h.bl.size)⟩
theorem Seen.start {w : World} {T : TypeId} {n m c d : Nat} {A Bp : Option Addr} {rs : List Int} {ps : List (Int × Int)} {nd : Int} (hr : Ints w w.heap.size A n rs) (hp : Puts w w.heap.size Bp m ps) : Seen w T n m c d A Bp rs ps nd (w.alloc (.cells #[.slice A n c, .int .i64 nd, .slice Bp m d] T)) :=
  ⟨Blk.new w _ _, hr.alloc (Nat.le_refl _) _, hp.alloc (Nat.le_refl _) _, (by repeat' (first | with_reducible exact Below.refl _ _ | with_reducible assumption | with_reducible refine Below.setCell ?_ (by first | omega | (simp; done) | (simp; omega)) _ | with_reducible refine Below.alloc ?_ (by first | omega | (simp; done) | (simp; omega)) _ | with_reducible refine below_drewN ?_ _ | with_reducible refine Below.drew ?_ | (with_reducible refine Below.trans ?_ (Below.mono (by with_reducible assumption) (by first | omega | (simp; done) | (simp; omega))))))⟩

theorem Seen.alloc {w wr : World} {T : TypeId} {n m c d : Nat} {A Bp : Option Addr} {rs : List Int} {ps : List (Int × Int)} {nd : Int} (h : Seen w T n m c d A Bp rs ps nd wr) (o : Obj) : Seen w T n m c d A Bp rs ps nd (wr.alloc o) := h.step ((Below.refl _ _).alloc (Nat.le_refl _) _)
theorem Seen.drew {w wr : World} {T : TypeId} {n m c d : Nat} {A Bp : Option Addr} {rs : List Int} {ps : List (Int × Int)} {nd : Int} (h : Seen w T n m c d A Bp rs ps nd wr) : Seen w T n m c d A Bp rs ps nd wr.drew := ⟨h.b, h.r, h.p, h.bl.drew⟩
theorem Seen.set {w wr : World} {T : TypeId} {n m c d : Nat} {A Bp : Option Addr} {rs : List Int} {ps : List (Int × Int)} {nd : Int} (h : Seen w T n m c d A Bp rs ps nd wr) {p : Addr} (hp : w.heap.size + 1 ≤ p.block) (u : Value) : Seen w T n m c d A Bp rs ps nd (wr.setCell p u) :=
  ⟨h.b.far (by omega) u, h.r.setCell (by omega) u, h.p.setCell (by omega) u, h.bl.setCell (by omega) u⟩
theorem Seen.grown {w wr w1 : World} {T : TypeId} {n m c d : Nat} {A Bp : Option Addr} {rs : List Int} {ps : List (Int × Int)} {nd : Int} {row : Option Nat} (h : Seen w T n m c d A Bp rs ps nd wr) (hg : wr.grownBy w1 row) (hr : ∀ k, row = some k → w.heap.size + 1 ≤ k) : Seen w T n m c d A Bp rs ps nd w1 :=
  ⟨Blk.grown h.b hg (fun e => by have := hr _ e.symm; omega), h.r.grown hg h.bl.size (fun k hk => by have := hr k hk; omega), Reads.grown h.p hg h.bl.size (fun k hk => by have := hr k hk; omega), h.bl.grown hg h.bl.size (fun k hk => by have := hr k hk; omega)⟩
theorem size_le_drew {w : World} {k : Nat} (h : k ≤ w.heap.size) : k ≤ w.drew.heap.size := h
theorem size_le_alloc {w : World} {k : Nat} (h : k ≤ w.heap.size) (o : Obj) : k ≤ (w.alloc o).heap.size := by simp; omega
theorem Own.grownBlk {w w' : World} {g b n c : Nat} {t : TypeId} {cs : Array Value} {A : Option Addr} {xs : List Int} (h : Own w b A n c xs) (hb : Blk w g t cs) (ht : 3 ≠ t) (hg : w.grownBy w' (blk A)) : Blk w' g t cs :=
  Blk.grown hb hg (fun e => by
    have := own_blk_ne h hb ht
    rw [blk_own] at this
    exact this e.symm)
theorem tgAcc_any (g1 : Nat) (A : Option Addr) (n c B : Nat) (g : Int) (ks : List Int) (w : World) (b1 : Blk w g1 22 #[.slice A n c]) (hr : Ints w B A n ks) (hk : Hid (∀ k ∈ ks, 0 ≤ k)) (hn : n ≤ 1048576) :
    Calls Try.prog 85 #[.int .i64 g, .pointer (some ⟨g1, 0, none⟩)] w (RetV (.bool (inG ks g)) w) := by
  have hlen := Lib.hid hr.len
  have f1 := b1.one
  go_enter Try.func85, Try.ntmps85
  go_wp2
  go_loop [8] (fun i => ∃ k : Nat, k ≤ n ∧ i = .int .i64 k ∧ inG (ks.take k) g = false) (fun i => n - (intOf i).toNat)
  case atStart => exact ⟨0, Nat.zero_le _, rfl, rfl⟩
  case round =>
    obtain ⟨k, hk1, rfl, hall⟩ := hrel
    have HA := Lib.hid hall
    clear hall
    by_cases hlt : k < n
    · obtain ⟨ad, x, rfl, hb, hc, hx, hs⟩ := hr.elem hlt
      have hx0 : 0 ≤ x := hk.out x (List.mem_of_getElem? hx.out)
      cases hd : (x % 5 == g)
      · go_wp2
        go_round
        case rel => exact ⟨k + 1, by omega, by go_num, by rw [hs.out, inG_snoc, HA.out, hd]; rfl⟩
        case measure => simp [intOf]; omega
      · go_wp2
        go_ret
        exact ⟨ret_bool (inG_hit hx.out hd).symm, Below.refl _ _⟩
    · have : k = n := by omega
      subst this
      go_wp2
      go_ret
      exact ⟨ret_bool (by rw [← HA.out, List.take_of_length_le (by rw [hlen.out]; exact Nat.le_refl _)]), Below.refl _ _⟩
/-- The box of a transaction's keys. -/
structure KB (w W : World) (g n c : Nat) (A : Option Addr) (ks : List Int) : Prop where
  b : Blk W g 22 #[.slice A n c]
  i : Ints W W.heap.size A n ks
  bl : Below w.heap.size w W
theorem KB.drew {w W : World} {g n c : Nat} {A : Option Addr} {ks : List Int} (h : KB w W g n c A ks) : KB w W.drew g n c A ks := ⟨h.b, h.i, h.bl.drew⟩
theorem KB.new {w W : World} {b n c : Nat} {A : Option Addr} {ks : List Int} (h : Own W b A n c ks) (hb : Below w.heap.size w W) (hz : w.heap.size ≤ W.heap.size) : KB w (W.alloc (.cells #[.slice A n c] 22)) W.heap.size n c A ks :=
  ⟨Blk.new _ _ _, h.ints.box _, hb.alloc hz _⟩
theorem KB.set {w W : World} {g b n c : Nat} {A : Option Addr} {ks : List Int} (h : Own W b A n c ks) (hk : Blk W g 22 #[.slice none 0 0]) (hb : Below w.heap.size w W) (hg : w.heap.size ≤ g) : KB w (W.setCell ⟨g, 0, none⟩ (.slice A n c)) g n c A ks :=
  ⟨hk.set_ 0 _, (h.setBlk hk (by decide) 0 _).ints, hb.setCell hg _⟩
theorem keys0 {t : TX} (h : Hid (Tv t)) : Hid (∀ k ∈ tkeys t, 0 ≤ k) := Lib.hid fun k hk => by
  rcases List.mem_append.1 hk with h1 | h1
  · exact (h.out.rk k h1).1
  · obtain ⟨p, hp, rfl⟩ := List.mem_map.1 h1
    exact (h.out.pk p hp).1
set_option maxHeartbeats 8000000 in
theorem implTG_any (A : Option Addr) (n c : Nat) (nd : Int) (Bp : Option Addr) (m d : Nat) (rs : List Int) (ps : List (Int × Int)) (w : World) (hr : Ints w w.heap.size A n rs) (hp : Puts w w.heap.size Bp m ps) (hn : n ≤ 1048576) (hm : m ≤ 1048576) :
    Calls Try.prog 48 #[.agg #[.slice A n c, .int .i64 nd, .slice Bp m d]] w (RetInts (tgL ⟨rs, nd, ps⟩) w) := by
  have HL := Lib.hid hr.len
  have HM := Lib.hid hp.len
  have S0 := Seen.start (T := 47) (c := c) (d := d) (nd := nd) hr hp
  have z0 : (w.alloc (.cells #[.slice A n c, .int .i64 nd, .slice Bp m d] 47)).heap.size = w.heap.size + 1 := by simp
  generalize hW : w.alloc (.cells #[.slice A n c, .int .i64 nd, .slice Bp m d] 47) = W at S0 z0
  have f0 := S0.b.three
  clear hr hp
  go_enter Try.func48, Try.ntmps48
  go_wp2_with fail
  refine (implTV_any _ _ _ nd _ _ _ rs ps W (S0.r.more (by omega)) (S0.p.more (by omega)) hn hm).mono ?_
  rintro e w1 ⟨rfl, hb1⟩
  have S1 := S0.step hb1
  have z1 : w.heap.size + 1 ≤ w1.heap.size := by have := hb1.size; omega
  clear S0 f0 hb1 z0 hW
  cases hv : tvB ⟨rs, nd, ps⟩
  · have f1 := S1.b.three
    go_wp2
    go_ret
    exact ⟨none, 0, 0, rfl, by rw [tgL_no hv]; exact Own.nil _ _, S1.bl⟩
  have TV := Lib.hid (tv_iff.1 hv)
  have ln : n ≤ 15 := by have := HL.out; have := TV.out.rl; simp at this; omega
  have lm : m ≤ 15 := by have := HM.out; have := TV.out.pl; simp at this; omega
  have HV := Lib.hid hv
  have f1 := S1.b.three
  clear hv
  go_wp2_with fail
  clear f1
  go_region_held3 (fun w' => w'.cell? ⟨w.heap.size, 0, none⟩ = some (.slice A n c) ∧ w'.cell? ⟨w.heap.size, 1, none⟩ = some (.int .i64 nd) ∧ w'.cell? ⟨w.heap.size, 2, none⟩ = some (.slice Bp m d))
    (exact Blk.tri (Seen.b (show Seen w 47 n m c d A Bp rs ps nd _ by repeat' (first | (with_reducible refine Seen.set ?_ (by first | omega | (simp; done) | (simp; omega)) _) | with_reducible exact S4 | with_reducible exact S3 | with_reducible exact S2 | with_reducible exact S1 | with_reducible refine Seen.drew ?_ | with_reducible refine Seen.alloc ?_ _))))
    (first
      | (go_at_call 83; (with_reducible refine Calls.mono (clone_any A n c w.heap.size rs _ ?_ ?_ hn) ?_)
         · exact Seen.r (show Seen w 47 n m c d A Bp rs ps nd _ by repeat' (first | with_reducible exact S4 | with_reducible exact S3 | with_reducible exact S2 | with_reducible exact S1 | with_reducible refine Seen.drew ?_ | with_reducible refine Seen.alloc ?_ _))
         · exact (Seen.bl (show Seen w 47 n m c d A Bp rs ps nd _ by repeat' (first | with_reducible exact S4 | with_reducible exact S3 | with_reducible exact S2 | with_reducible exact S1 | with_reducible refine Seen.drew ?_ | with_reducible refine Seen.alloc ?_ _))).size
         rintro e w2 ⟨A2, n2, c2, rfl, o2, hb2⟩
         have z2 := hb2.size
         try simp at z2
         have S2 := Seen.step (show Seen w 47 n m c d A Bp rs ps nd _ by repeat' (first | with_reducible exact S4 | with_reducible exact S3 | with_reducible exact S2 | with_reducible exact S1 | with_reducible refine Seen.drew ?_ | with_reducible refine Seen.alloc ?_ _)) hb2
         refine (fun (p2 : Own w2 w1.heap.size A2 n2 c2 rs) => ?_) (Own.mono o2 ?_)
         rotate_left
         · repeat' (first | with_reducible exact Nat.le_refl _ | with_reducible refine size_le_drew ?_ | with_reducible refine size_le_alloc ?_ _)
         first
           | (refine (fun (k2 : Blk w2 w1.heap.size 22 #[.slice none 0 0]) => ?_) (Blk.below ?_ hb2 ?_)
              rotate_left
              · repeat' (first | with_reducible exact k2 | (with_reducible refine Blk.newAt ?_; first | omega | (simp; done) | (simp; omega)) | with_reducible refine Blk.drew ?_ | with_reducible refine Blk.alloc ?_ _)
              · (first | omega | (simp; done) | (simp; omega)))
           | skip
         have l2 := o2.len)
      | (go_at_call 80; (with_reducible refine Calls.mono (keysOf_any Bp m d ps _ ?_ hm) ?_)
         · exact Puts.more (Seen.p (show Seen w 47 n m c d A Bp rs ps nd _ by repeat' (first | with_reducible exact S4 | with_reducible exact S3 | with_reducible exact S2 | with_reducible exact S1 | with_reducible refine Seen.drew ?_ | with_reducible refine Seen.alloc ?_ _))) (Seen.bl (show Seen w 47 n m c d A Bp rs ps nd _ by repeat' (first | with_reducible exact S4 | with_reducible exact S3 | with_reducible exact S2 | with_reducible exact S1 | with_reducible refine Seen.drew ?_ | with_reducible refine Seen.alloc ?_ _))).size
         rintro e w3 ⟨A3, n3, c3, rfl, o3, hb3⟩
         have z3 := hb3.size
         try simp at z3
         have S3 := Seen.step (show Seen w 47 n m c d A Bp rs ps nd _ by repeat' (first | with_reducible exact S4 | with_reducible exact S3 | with_reducible exact S2 | with_reducible exact S1 | with_reducible refine Seen.drew ?_ | with_reducible refine Seen.alloc ?_ _)) hb3
         have o2' := Own.below (show Own _ w1.heap.size A2 n2 c2 rs by repeat' (first | with_reducible exact p2 | with_reducible refine Own.alloc ?_ _)) hb3
         first
           | (refine (fun (k3 : Blk w3 w1.heap.size 22 #[.slice none 0 0]) => ?_) (Blk.below ?_ hb3 ?_)
              rotate_left
              · repeat' (first | with_reducible exact k2 | (with_reducible refine Blk.newAt ?_; first | omega | (simp; done) | (simp; omega)) | with_reducible refine Blk.drew ?_ | with_reducible refine Blk.alloc ?_ _)
              · (first | omega | (simp; done) | (simp; omega)))
           | (refine (fun (k3 : Blk w3 w2.heap.size 22 #[.slice none 0 0]) => ?_) (Blk.below ?_ hb3 ?_)
              rotate_left
              · repeat' (first | with_reducible exact k2 | (with_reducible refine Blk.newAt ?_; first | omega | (simp; done) | (simp; omega)) | with_reducible refine Blk.drew ?_ | with_reducible refine Blk.alloc ?_ _)
              · (first | omega | (simp; done) | (simp; omega)))
           | skip
         have l3 := o3.len)
      | (refine step_app1 rfl (.tmp 9) (.tmp 12) rfl w1.heap.size (xs := rs) rfl ?_ w3.heap.size _ _ _ (pkeys ps) rfl ?_ ?_ ?_ ?_
         · repeat' (first | with_reducible exact o2' | with_reducible refine Own.alloc ?_ _)
         · repeat' (first | with_reducible exact o3.ints | with_reducible refine Ints.alloc ?_ (by first | omega | (simp; done) | (simp; omega)) _)
         · rw [pkeys_len] at l3; have := HM.out; have := HL.out; omega
         · (first | omega | (simp; done) | (simp; omega))
         intro A4 c4 w4 o4 hg4 at4
         have z4 := hg4.size
         try simp at z4
         have S4 := Seen.grown (show Seen w 47 n m c d A Bp rs ps nd _ by repeat' (first | with_reducible exact S4 | with_reducible exact S3 | with_reducible exact S2 | with_reducible exact S1 | with_reducible refine Seen.drew ?_ | with_reducible refine Seen.alloc ?_ _)) hg4 (fun k hk => by have := (o2'.lt hk).1; omega)
         first
           | (refine (fun (k4 : Blk w4 w1.heap.size 22 #[.slice none 0 0]) => ?_) (Own.grownBlk (xs := rs) (b := w1.heap.size) (n := n2) (c := c2) ?_ ?_ (by decide) hg4)
              rotate_left
              · repeat' (first | with_reducible exact o2' | with_reducible refine Own.alloc ?_ _)
              · repeat' (first | with_reducible exact k3 | (with_reducible refine Blk.newAt ?_; first | omega | (simp; done) | (simp; omega)) | with_reducible refine Blk.drew ?_ | with_reducible refine Blk.alloc ?_ _)
              have fk4 := k4.one; have lk4 := k4.lt)
           | (refine (fun (k4 : Blk w4 w2.heap.size 22 #[.slice none 0 0]) => ?_) (Own.grownBlk (xs := rs) (b := w1.heap.size) (n := n2) (c := c2) ?_ ?_ (by decide) hg4)
              rotate_left
              · repeat' (first | with_reducible exact o2' | with_reducible refine Own.alloc ?_ _)
              · repeat' (first | with_reducible exact k3 | (with_reducible refine Blk.newAt ?_; first | omega | (simp; done) | (simp; omega)) | with_reducible refine Blk.drew ?_ | with_reducible refine Blk.alloc ?_ _)
              have fk4 := k4.one; have lk4 := k4.lt)
           | (refine (fun (k4 : Blk w4 w3.heap.size 22 #[.slice none 0 0]) => ?_) (Own.grownBlk (xs := rs) (b := w1.heap.size) (n := n2) (c := c2) ?_ ?_ (by decide) hg4)
              rotate_left
              · repeat' (first | with_reducible exact o2' | with_reducible refine Own.alloc ?_ _)
              · repeat' (first | with_reducible exact k3 | (with_reducible refine Blk.newAt ?_; first | omega | (simp; done) | (simp; omega)) | with_reducible refine Blk.drew ?_ | with_reducible refine Blk.alloc ?_ _)
              have fk4 := k4.one; have lk4 := k4.lt)
           | skip))
  all_goals
    first
      | (refine (fun (KK : KB w _ _ _ _ _ (rs ++ pkeys ps)) => ?_) (KB.set o4 k4 S4.bl (by omega))
         go_wp2_with fail
         refine (pick5_any 85 #[.pointer (some ⟨_, 0, none⟩)] (inG (tkeys ⟨rs, nd, ps⟩)) _ (fun _ _ => rfl) ?_).mono ?_
         · intro k w' hk hb
           exact tgAcc_any _ A4 _ c4 _ k (tkeys ⟨rs, nd, ps⟩) w' (KK.b.below hb KK.b.lt) (KK.i.below hb) (keys0 TV) (by rw [pkeys_len] at l3; have := HM.out; have := HL.out; omega)
         · rintro e w5 ⟨A5, n5, c5, rfl, o5, hb5⟩
           go_wp2
           go_ret
           exact ⟨A5, n5, c5, rfl, by rw [tgL_yes HV.out]; exact o5.mono KK.bl.size, KK.bl.trans (hb5.mono KK.bl.size)⟩)
      | (refine (fun (KK : KB w _ _ _ _ _ (rs ++ pkeys ps)) => ?_) (KB.new o4 S4.bl S4.bl.size)
         go_wp2_with fail
         refine (pick5_any 85 #[.pointer (some ⟨_, 0, none⟩)] (inG (tkeys ⟨rs, nd, ps⟩)) _ (fun _ _ => rfl) ?_).mono ?_
         · intro k w' hk hb
           exact tgAcc_any _ A4 _ c4 _ k (tkeys ⟨rs, nd, ps⟩) w' (KK.b.below hb KK.b.lt) (KK.i.below hb) (keys0 TV) (by rw [pkeys_len] at l3; have := HM.out; have := HL.out; omega)
         · rintro e w5 ⟨A5, n5, c5, rfl, o5, hb5⟩
           go_wp2
           go_ret
           exact ⟨A5, n5, c5, rfl, by rw [tgL_yes HV.out]; exact o5.mono KK.bl.size, KK.bl.trans (hb5.mono KK.bl.size)⟩)
end Go.Proofs.Ytaelaldgohppeaa
