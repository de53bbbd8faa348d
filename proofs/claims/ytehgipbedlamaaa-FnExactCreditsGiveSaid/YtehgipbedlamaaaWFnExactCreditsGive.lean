/-
  The walk of FnExactCreditsGive: the law returns true and writes nothing that was there. Printed by gen_ec.py.
-/
import Derived.Test.YtehgipbedlamaaaHZ
import Derived.Deep.RegionHeld3
namespace Go.Proofs.Ytehgipbedlamaaa
open Go.RowKit
set_option linter.unusedVariables false

set_option maxRecDepth 100000 in
set_option maxHeartbeats 8000000 in
theorem fnExactCreditsGive_walk (F : Option Addr) (nf cf : Nat) (free : List Int) (A : Option Addr) (n c : Nat) (R : List HR) (hs : List HX) (s : Int) (w : World) (hnf : nf ≤ 9223372036854775807) (hx : Ints w w.heap.size F nf free) (hn : n ≤ 9223372036854775807) (hh : HoldW w w.heap.size A n R hs) (hl : ∀ r ∈ R, r.n ≤ 9223372036854775807) (wf1 : (Lit.int .i64 s).wf = true) :
    Calls Try.prog 5 #[.agg #[.slice F nf cf, .slice A n c], .int .i64 s] w fun e w' => e = .returned (.bool true) ∧ Below w.heap.size w w' := by
  clear wf1
  have P0 : Bp w (w.alloc (.cells #[.slice F nf cf, .slice A n c] 42)) F nf cf A n c R ⟨free, hs⟩ → True := fun _ => trivial
  have b0 := Blk.new w 42 #[.slice F nf cf, .slice A n c]
  have B0 : Below w.heap.size w (w.alloc (.cells #[.slice F nf cf, .slice A n c] 42)) := (Below.refl _ _).alloc (Nat.le_refl _) _
  have z0 : w.heap.size < (w.alloc (.cells #[.slice F nf cf, .slice A n c] 42)).heap.size := by simp
  clear P0
  generalize hW : w.alloc (.cells #[.slice F nf cf, .slice A n c] 42) = W at b0 B0 z0
  have f0 := b0.two
  have t0 := totR_nonneg R
  have hh0 := hh.below B0
  have hhW : HoldW W W.heap.size A n R hs := ⟨hh0.o.more B0.size, hh0.l, fun k r t hr ht => ⟨(hh0.i k r t hr ht).1.more B0.size, (hh0.i k r t hr ht).2⟩⟩
  by_cases hbig : (1048576 : Int) < (nf : Int) + ((n : Int) + totR R)
  · go_enter Try.func5, Try.ntmps5
    go_wp2_with fail
    refine (szCredits_no F nf cf A n c R hs 1048576 W hhW (by omega) (by omega) hnf hn hl hbig).mono ?_
    rintro e w1 ⟨rfl, hb1⟩
    go_wp2_with fail
    go_ret
    exact ⟨rfl, B0.trans (hb1.mono (by omega))⟩
  have hn' : n ≤ 1048576 := by omega
  have hnf' : nf ≤ 1048576 := by omega
  have HSm := Lib.hid (small_totR (R := R) (by omega))
  have HMK := Lib.hid hh.tot
  have hmk : mkN (lensH hs) ≤ 1048576 := by have := HMK.out; omega
  have P : Bp w W F nf cf A n c R ⟨free, hs⟩ := ⟨b0, ⟨hx.below B0, (hh.holds HSm.out).below B0⟩, B0⟩
  have hmk2 : mkN (lensH (⟨free, hs⟩ : CX).holds) ≤ 1048576 := hmk
  clear hh0
  generalize hcx : (⟨free, hs⟩ : CX) = cx at P hmk2
  have HRes := Lib.hid (resSmall (giveRes cx s))
  have g1 : ¬ ((1048576 : Int) - nf - n - totR R < 0) := by omega
  go_enter Try.func5, Try.ntmps5
  go_wp2_with fail
  refine (szCredits_yes F nf cf A n c R hs 1048576 W hhW (by omega) (by omega)).mono ?_
  rintro e w1 ⟨rfl, hb1⟩
  have P1 := P.step hb1
  have fP1 := P1.b.two
  clear hW f0 b0 hhW hb1 P hbig hx hh hl HMK hmk hcx B0 z0
  go_wp2_with fail
  refine (toC_any F nf cf A n c R cx w1 P1.cr hnf' hn').mono ?_
  rintro e w2 ⟨Fa, nfa, cfa, Aa, na, ca, Ra, rfl, oa, hb2⟩
  have hnfa : nfa ≤ 1048576 := by have h1 := oa.f.len; have h2 := P1.x.f.len; omega
  have hna : na ≤ 1048576 := by have h1 := oa.l; have h2 := P1.x.h.l; omega
  have P2 := P1.step hb2
  have fP2 := P2.b.two
  have xa := oa.reads
  clear fP1 P1 hb2 oa
  go_wp2_with fail
  refine (specGive_any Fa nfa cfa Aa na ca Ra cx s w2 xa hnfa hna).mono ?_
  rintro e w3 ⟨Fw, nfw, cfw, Aw, nw, cw, Rw, rfl, ow, hb3⟩
  have P3' := P2.step hb3
  have G3 := Bo.start ow
  have P3 := P3'.alloc (.cells #[.slice Fw nfw cfw, .slice Aw nw cw] 26)
  have fP3 := P3.b.two
  have fG3 := G3.b.two
  have HLw := Lib.hid (show nfw ≤ 5 ∧ nw ≤ 6 by have h1 := ow.f.len; have h2 := ow.l; have h3 := HRes.out.2; omega)
  clear fP2 P2 P3' ow hb3 xa
  go_wp2_with fail
  generalize hw3 : w3.alloc (.cells #[.slice Fw nfw cfw, .slice Aw nw cw] 26) = W3 at P3 G3 fP3 fG3
  refine (toC_any F nf cf A n c R cx W3 P3.cr hnf' hn').mono ?_
  rintro e w4 ⟨Fx, nfx, cfx, Ax, nx, cx', Rx, rfl, ox, hb4⟩
  have hnfx : nfx ≤ 1048576 := by have h1 := ox.f.len; have h2 := P3.x.f.len; omega
  have hnx : nx ≤ 1048576 := by have h1 := ox.l; have h2 := P3.x.h.l; omega
  have X5 := Bo.start ox
  have P5 := (P3.step hb4).alloc (.cells #[.slice Fx nfx cfx, .slice Ax nx cx'] 26)
  have G5 := (G3.step hb4).alloc (.cells #[.slice Fx nfx cfx, .slice Ax nx cx'] 26)
  have fP5 := P5.b.two
  have fG5 := G5.b.two
  have fX5 := X5.b.two
  have zz1 := G3.tl
  have zz1' := P3.bl.size
  have zz4 := hb4.size
  clear fP3 fG3 hb4 P3 G3 hw3 ox
  go_wp2_with fail
  generalize hw5 : w4.alloc (.cells #[.slice Fx nfx cfx, .slice Ax nx cx'] 26) = W5 at P5 G5 X5 fP5 fG5 fX5
  have zz2 := X5.tl
  refine (implGive_any Fx nfx cfx Ax nx cx' Rx cx s W5 X5.reads hnfx hnx).mono ?_
  rintro e w6 ⟨Fg, nfg, cfg, Ag, ng, cg, Rg, rfl, og, hb6⟩
  have Q7 := Bo.start og
  have P7 := (P5.step hb6).alloc (.cells #[.slice Fg nfg cfg, .slice Ag ng cg] 26)
  have G7 := (G5.step hb6).alloc (.cells #[.slice Fg nfg cfg, .slice Ag ng cg] 26)
  have X7 := (X5.step hb6).alloc (.cells #[.slice Fg nfg cfg, .slice Ag ng cg] 26)
  have fP7 := P7.b.two
  have fG7 := G7.b.two
  have fX7 := X7.b.two
  have fQ7 := Q7.b.two
  have HLg := Lib.hid (show nfg ≤ 5 ∧ ng ≤ 6 by have h1 := og.f.len; have h2 := og.l; have h3 := HRes.out.2; omega)
  clear fP5 fG5 fX5 hb6 P5 G5 X5 og
  go_wp2_with fail
  generalize hw7 : w6.alloc (.cells #[.slice Fg nfg cfg, .slice Ag ng cg] 26) = W7 at P7 G7 X7 Q7 fP7 fG7 fX7 fQ7
  have zz3 := Q7.tl
  generalize hBB : giveB cx s = bb
  have hbb : (bb != bb) = false := by cases bb <;> rfl
  refine (eqC_same Fg Fw nfg cfg nfw cfw Ag Aw ng cg nw cw Rg Rw (giveC cx s) W7 Q7.reads G7.reads (by have := HLg.out; omega) (by have := HLg.out; omega)).mono ?_
  rintro e w8 ⟨rfl, hb8⟩
  have P8 := P7.step hb8
  have G8 := G7.step hb8
  have X8 := X7.step hb8
  have Q8 := Q7.step hb8
  have fP8 := P8.b.two
  have fG8 := G8.b.two
  have fX8 := X8.b.two
  have fQ8 := Q8.b.two
  clear fP7 fG7 fX7 fQ7 hb8 P7 G7 X7 Q7 hw5 hw7
  go_wp2_with fail
  have KS : ∀ W', Below w8.heap.size w8 W' → W'.cell? ⟨w4.heap.size, 0, none⟩ = some (.slice Fx nfx cfx) ∧ W'.cell? ⟨w4.heap.size, 1, none⟩ = some (.slice Ax nx cx') ∧ W'.cell? ⟨w.heap.size, 0, none⟩ = some (.slice F nf cf) ∧ W'.cell? ⟨w.heap.size, 1, none⟩ = some (.slice A n c) := fun W' h => ⟨(X8.b.below h X8.b.lt).two.1, (X8.b.below h X8.b.lt).two.2.1, (P8.b.below h P8.b.lt).two.1, (P8.b.below h P8.b.lt).two.2.1⟩
  have hD : Below w8.heap.size w8 w8.drew := (Below.refl _ _).drew
  have P8d := P8.step hD
  have X8d := X8.step hD
  go_region_held3 (fun W' => W'.cell? ⟨w4.heap.size, 0, none⟩ = some (.slice Fx nfx cfx) ∧ W'.cell? ⟨w4.heap.size, 1, none⟩ = some (.slice Ax nx cx') ∧ W'.cell? ⟨w.heap.size, 0, none⟩ = some (.slice F nf cf) ∧ W'.cell? ⟨w.heap.size, 1, none⟩ = some (.slice A n c))
    (first | exact KS _ hD | exact KS _ hD9 | exact KS _ hDa)
    (first
      | (go_at_call 23; (with_reducible refine Calls.mono (toC_any F nf cf A n c R cx _ P8d.cr hnf' hn') ?_); rintro e w9 ⟨Fy, nfy, cfy, Ay, ny, cy, Ry, rfl, oy, hb9⟩; have hD9 : Below w8.heap.size w8 w9 := hD.trans hb9; have X9 := X8d.step hb9; have xy := oy.reads)
      | (go_at_call 24; (with_reducible refine Calls.mono (eqC_same Fx Fy nfx cfx nfy cfy Ax Ay nx cx' ny cy Rx Ry cx _ X9.reads xy hnfx hnx) ?_); rintro e wa ⟨rfl, hba⟩; have hDa : Below w8.heap.size w8 wa := hD9.trans (hba.mono hD9.size)))
  have Pa := P8.step hDa
  have Ga := G8.step hDa
  have Xa := X8.step hDa
  have Qa := Q8.step hDa
  have fPa := Pa.b.two
  have fGa := Ga.b.two
  have fXa := Xa.b.two
  have fQa := Qa.b.two
  clear fP8 fG8 fX8 fQ8 P8 G8 X8 Q8 KS hD hD9 hDa P8d X8d X9 xy oy hb9 hba
  go_wp2_with fail
  refine (markC_any Fx Ax nfx cfx nx cx' _ Rx cx 1 wa Xa.o (by omega) (by omega) (by omega) hnfx hnx).mono ?_
  rintro e wb ⟨rfl, Rx2, oxb, hwb, hrb⟩
  have Pb := Pa.other Xa hwb (by omega)
  have Gb := Ga.other Xa hwb (.inl (by omega))
  have Qb := Qa.other Xa hwb (.inr (by omega))
  have fPb := Pb.b.two
  have fGb := Gb.b.two
  have fQb := Qb.b.two
  have tm := mkN_nonneg (lensH cx.holds)
  have hk0 : ¬ ((1 : Int) + nfx + mkN (lensH cx.holds) < 0) := by omega
  clear fPa fGa fXa fQa Pa Ga Xa Qa hwb oxb hrb hmk2
  generalize mkN (lensH cx.holds) = MM at hk0 tm ⊢
  go_wp2_with fail
  refine (eqC_same Fg Fw nfg cfg nfw cfw Ag Aw ng cg nw cw Rg Rw (giveC cx s) wb Qb.reads Gb.reads (by have := HLg.out; omega) (by have := HLg.out; omega)).mono ?_
  rintro e wc ⟨rfl, hbc⟩
  have Pc := Pb.step hbc
  have Gc := Gb.step hbc
  have Qc := Qb.step hbc
  have fPc := Pc.b.two
  have fGc := Gc.b.two
  have fQc := Qc.b.two
  clear fPb fGb fQb Pb Gb Qb hbc
  go_wp2_with fail
  refine (markC_any Fg Ag nfg cfg ng cg _ Rg (giveC cx s) 1 wc Qc.o (by omega) (by have := HLg.out; omega) (by have := HRes.out.1; omega) (by have := HLg.out; omega) (by have := HLg.out; omega)).mono ?_
  rintro e wd ⟨rfl, Rg2, ogd, hwd, hrd⟩
  have Pd := Pc.other Qc hwd (by omega)
  have Gd := Gc.other Qc hwd (.inl (by omega))
  have Qd := Qc.marked hwd ogd hrd
  have fPd := Pd.b.two
  have fGd := Gd.b.two
  have fQd := Qd.b.two
  have HMg := Lib.hid HRes.out.1
  have tg := mkN_nonneg (lensH ((giveC cx s)).holds)
  generalize hLG : lensH ((giveC cx s)).holds = LG at Qd HMg tg
  have hq0 : ¬ ((1 : Int) + nfg + mkN LG < 0) := by omega
  have hqq : ((1 : Int) + nfg + mkN LG != 1 + nfg + mkN LG) = false := by simp
  clear fPc fGc fQc Pc Gc Qc hwd ogd hrd
  go_wp2_with fail
  refine (heldC_any Fg nfg cfg Ag ng cg Rg2 LG 1 wd Qd.reads (by omega) (by have := HLg.out; omega) (by have := HMg.out; omega) (by have := HLg.out; omega) (by have := HLg.out; omega)).mono ?_
  rintro e we ⟨rfl, hbe⟩
  have Pe := Pd.step hbe
  have Ge := Gd.step hbe
  have Qe := Qd.step hbe
  have fPe := Pe.b.two
  have fGe := Ge.b.two
  have fQe := Qe.b.two
  clear fPd fGd fQd Pd Gd Qd hbe
  go_wp2_with fail
  refine (toC_any F nf cf A n c R cx we Pe.cr hnf' hn').mono ?_
  rintro e wf ⟨Fz, nfz, cfz, Az, nz, cz, Rz, rfl, oz, hbf⟩
  have hnfz : nfz ≤ 1048576 := by have h1 := oz.f.len; have h2 := Pe.x.f.len; omega
  have hnz : nz ≤ 1048576 := by have h1 := oz.l; have h2 := Pe.x.h.l; omega
  have Pf := Pe.step hbf
  have Gf := Ge.step hbf
  have Qf := Qe.step hbf
  have fGf := Gf.b.two
  have fQf := Qf.b.two
  have xz := oz.reads
  clear fPe fGe fQe Pe Ge Qe hbf oz
  go_wp2_with fail
  refine (implGive_any Fz nfz cfz Az nz cz Rz cx s wf xz hnfz hnz).mono ?_
  rintro e wg ⟨Fh, nfh, cfh, Ah, nh, ch, Rh, rfl, oh, hbg⟩
  rw [hBB]
  have HLh := Lib.hid (show nfh ≤ 5 ∧ nh ≤ 6 by have h1 := oh.f.len; have h2 := oh.l; have h3 := HRes.out.2; omega)
  have Hh := Bo.start oh
  have Ph := (Pf.step hbg).alloc (.cells #[.slice Fh nfh cfh, .slice Ah nh ch] 26)
  have Gh := (Gf.step hbg).alloc (.cells #[.slice Fh nfh cfh, .slice Ah nh ch] 26)
  have Qh := (Qf.step hbg).alloc (.cells #[.slice Fh nfh cfh, .slice Ah nh ch] 26)
  have fHh := Hh.b.two
  have fGh := Gh.b.two
  have fQh := Qh.b.two
  clear fGf fQf Pf Gf Qf hbg oh xz
  go_wp2_with fail
  generalize hwi : wg.alloc (.cells #[.slice Fh nfh cfh, .slice Ah nh ch] 26) = Wi at Ph Gh Qh Hh fHh fGh fQh
  refine (eqC_same Fh Fw nfh cfh nfw cfw Ah Aw nh ch nw cw Rh Rw (giveC cx s) Wi Hh.reads Gh.reads (by have := HLh.out; omega) (by have := HLh.out; omega)).mono ?_
  rintro e wj ⟨rfl, hbj⟩
  have Pj := Ph.step hbj
  have Qj := Qh.step hbj
  have fQj := Qj.b.two
  clear fHh fGh fQh Ph Gh Qh Hh hbj hwi
  go_wp2_with fail
  refine (heldC_any Fg nfg cfg Ag ng cg Rg2 LG 1 wj Qj.reads (by omega) (by have := HLg.out; omega) (by have := HMg.out; omega) (by have := HLg.out; omega) (by have := HLg.out; omega)).mono ?_
  rintro e wk ⟨rfl, hbk⟩
  have Pk := Pj.step hbk
  go_wp2_with fail
  go_ret
  exact ⟨rfl, Pk.bl⟩
end Go.Proofs.Ytehgipbedlamaaa
