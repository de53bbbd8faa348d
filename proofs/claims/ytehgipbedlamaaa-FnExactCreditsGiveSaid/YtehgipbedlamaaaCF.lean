/-
  The plain facts that the laws of credits come to. No program in sight.
-/
import Derived.Test.YtehgipbedlamaaaCL
namespace Go.Proofs.Ytehgipbedlamaaa
set_option linter.unusedVariables false

/-- The senders' states with the giver's own struck. -/
def H0 (c : CX) (s : Int) : List HX := c.holds.set s.toNat hz
def hasS (c : CX) (s : Int) : List Int := (hAt c.holds s.toNat).has
theorem H0_len (c : CX) (s : Int) : (H0 c s).length = c.holds.length := by simp [H0]
theorem H0_at {c : CX} {s : Int} (h : Gv c s) (k : Nat) : hAt (H0 c s) k = if s.toNat = k then hz else hAt c.holds k := hAt_set h.sl k
theorem H0_wait {c : CX} {s : Int} (h : Gv c s) (k : Nat) : (hAt (H0 c s) k).wait = (hAt c.holds k).wait := by
  rw [H0_at h]
  split
  · rename_i e; rw [← e, h.w]; rfl
  · rfl
theorem H0_first {c : CX} {s : Int} (h : Gv c s) (g : Int) : firstW (H0 c s) g = firstW c.holds g := firstW_congr (H0_len c s) fun k _ => by rw [H0_wait h]
theorem give_form {c : CX} {s : Int} (h : Gv c s) : giveY c s = ⟨gFree (hasS c s) (H0 c s) c.free, gHolds (hasS c s) (H0 c s)⟩ := give_is h
theorem give_len {c : CX} {s : Int} (h : Gv c s) : (giveY c s).holds.length = c.holds.length ∧ (giveY c s).free.length = 5 := by
  rw [give_form h]; exact ⟨by rw [gHolds_len, H0_len], gFree_len _ _ _⟩
theorem give_free {c : CX} {s : Int} (h : Gv c s) {g : Nat} (hg : g < 5) : (giveY c s).free.getD g 0 = c.free.getD g 0 + (if hasB (hasS c s) (g : Int) && (firstW c.holds (g : Int)).isNone then 1 else 0) := by
  rw [give_form h]; simp only; rw [gFree_at _ _ _ hg, H0_first h]
theorem give_hold {c : CX} {s : Int} (h : Gv c s) {k : Nat} (hk : k < c.holds.length) : hAt (giveY c s).holds k = gHold (hasS c s) (H0 c s) k := by
  rw [give_form h]; exact gHolds_at _ _ (by rw [H0_len]; exact hk)
/-- The giver; one that is served; the others. -/
theorem give_giver {c : CX} {s : Int} (h : Gv c s) : hAt (giveY c s).holds s.toNat = hz := by
  have hS := h.cv.at_ h.sl
  rw [give_hold h h.sl]
  unfold gHold
  have e : hAt (H0 c s) s.toNat = hz := by rw [H0_at h, if_pos rfl]
  rw [e]
  have : hasB (hasS c s) hz.wait = false := hasB_no.2 fun hm => by have := hS.m _ hm; simp [hz] at this
  rw [this]; simp
theorem give_served {c : CX} {s : Int} (h : Gv c s) {g : Int} {k : Nat} (hg : g ∈ hasS c s) (hf : firstW c.holds g = some k) : k ≠ s.toNat ∧ k < c.holds.length ∧ hAt (giveY c s).holds k = ⟨wiL (hAt c.holds k).has g, -1⟩ := by
  obtain ⟨hk, hw, _⟩ := firstW_some hf
  have hS := h.cv.at_ h.sl
  have hne : k ≠ s.toNat := fun e => by
    rw [e, h.w] at hw
    have := hS.m g hg; omega
  refine ⟨hne, hk, ?_⟩
  rw [give_hold h hk]
  unfold gHold
  have e : hAt (H0 c s) k = hAt c.holds k := by rw [H0_at h, if_neg (fun e => hne e.symm)]
  rw [e, hw, H0_first h, hf, hasB_iff.2 hg]
  simp
theorem give_other {c : CX} {s : Int} (h : Gv c s) {k : Nat} (hk : k < c.holds.length) (hne : k ≠ s.toNat) (hn : ∀ g ∈ hasS c s, firstW c.holds g ≠ some k) : hAt (giveY c s).holds k = hAt c.holds k := by
  rw [give_hold h hk]
  unfold gHold
  have e : hAt (H0 c s) k = hAt c.holds k := by rw [H0_at h, if_neg (fun e => hne e.symm)]
  rw [e, H0_first h]
  cases hb : hasB (hasS c s) (hAt c.holds k).wait with
  | false => simp
  | true =>
    have := hn _ (hasB_iff.1 hb)
    have : (firstW c.holds (hAt c.holds k).wait == some k) = false := by rw [beq_eq_false_iff_ne]; exact this
    rw [this]; simp
/-- Each sender's state behind a giving. -/
theorem give_each {c : CX} {s : Int} (h : Gv c s) {k : Nat} (hk : k < c.holds.length) :
    (k = s.toNat ∧ hAt (giveY c s).holds k = hz) ∨ (k ≠ s.toNat ∧ hAt (giveY c s).holds k = hAt c.holds k) ∨
    (k ≠ s.toNat ∧ ∃ g ∈ hasS c s, firstW c.holds g = some k ∧ (hAt c.holds k).wait = g ∧ hAt (giveY c s).holds k = ⟨wiL (hAt c.holds k).has g, -1⟩) := by
  by_cases e : k = s.toNat
  · subst e; exact .inl ⟨rfl, give_giver h⟩
  · by_cases hx : ∃ g ∈ hasS c s, firstW c.holds g = some k
    · obtain ⟨g, hg, hf⟩ := hx
      exact .inr (.inr ⟨e, g, hg, hf, (firstW_some hf).2.1, (give_served h hg hf).2.2⟩)
    · exact .inr (.inl ⟨e, give_other h hk e fun g hg hf => hx ⟨g, hg, hf⟩⟩)
theorem give_cv {c : CX} {s : Int} (h : Gv c s) : Cv (giveY c s) := by
  obtain ⟨hl, hf5⟩ := give_len h
  have hS := h.cv.at_ h.sl
  refine cv_at hf5 (fun k hk => ?_) (by rw [hl]; exact h.cv.l1) (by rw [hl]; exact h.cv.l6) fun k hk => ?_
  · rw [give_free h hk]
    have := h.cv.fr k hk
    split
    · rename_i hh
      simp only [Bool.and_eq_true, hasB_iff] at hh
      have := h.n _ hh.1
      rw [Int.toNat_natCast] at this
      omega
    · omega
  · rw [hl] at hk
    have hK := h.cv.at_ hk
    rcases give_each h hk with ⟨_, e⟩ | ⟨hne, e⟩ | ⟨hne, g, hg, hf, hw, e⟩
    · rw [e]; exact ⟨by simp [hz], by simp [hz], .inl rfl⟩
    · rw [e]
      refine ⟨hK.m, hK.p, ?_⟩
      rcases hK.w with e1 | ⟨e1, e2, e3, e4⟩
      · exact .inl e1
      · refine .inr ⟨e1, e2, ?_, e4⟩
        rw [give_free h (by omega)]
        have : (firstW c.holds (((hAt c.holds k).wait.toNat : Nat) : Int)).isNone = false := by
          rw [show (((hAt c.holds k).wait.toNat : Nat) : Int) = (hAt c.holds k).wait by omega]
          cases hf : firstW c.holds (hAt c.holds k).wait with
          | none => exact absurd rfl (firstW_none.1 hf k hk)
          | some j => rfl
        rw [this]
        simpa using e3
    · rw [e]; exact ⟨wi_range _ _, wi_sorted _ _, .inl rfl⟩

/-- The credits of a group: those that are free, and those that are held. -/
def cntH (H : List HX) (g : Int) : Nat := H.countP fun h => hasB h.has g
def crOf (c : CX) (g : Int) : Int := c.free.getD g.toNat 0 + (cntH c.holds g : Int)
theorem cnt_set {H : List HX} {k : Nat} (hk : k < H.length) (h : HX) (g : Int) : (cntH (H.set k h) g : Int) + (if hasB (hAt H k).has g then 1 else 0) = cntH H g + (if hasB h.has g then 1 else 0) := by
  unfold cntH
  rw [List.countP_set hk]
  have e : H[k] = hAt H k := by simp [hAt, List.getD_eq_getElem?_getD, hk]
  rw [e]
  have hpos : hasB (hAt H k).has g = true → 0 < H.countP fun h => hasB h.has g := fun hh => List.countP_pos_iff.2 ⟨_, List.getElem_mem hk, by rw [e]; exact hh⟩
  cases hb : hasB (hAt H k).has g with
  | false => cases hb2 : hasB h.has g <;> simp
  | true => have := hpos hb; cases hb2 : hasB h.has g <;> simp <;> omega
theorem kept_ask {c : CX} {s g : Int} (h : askB c s g = true) {x : Int} (h0 : 0 ≤ x) (h4 : x < 5) : crOf (askY c s g) x = crOf c x := by
  obtain ⟨hc, ⟨hs0, hs⟩, ⟨hg0, hg4⟩, hw, hn, _⟩ := ask_yes h
  have hS := hc.at_ hs
  unfold askY
  by_cases hf : c.free.getD g.toNat 0 ≤ 0
  · rw [if_pos hf]
    unfold crOf
    have := cnt_set hs ⟨(hAt c.holds s.toNat).has, g⟩ x
    simp only at this ⊢
    omega
  · rw [if_neg hf]
    unfold crOf
    have := cnt_set hs ⟨wiL (hAt c.holds s.toNat).has g, -1⟩ x
    simp only [wi_has hS.m hg0 hg4] at this ⊢
    rw [getD_set5 (by rw [hc.f]; omega)]
    by_cases e : x = g
    · subst e
      rw [if_pos rfl]
      have e2 : hasB (hAt c.holds s.toNat).has x = false := hasB_no.2 hn
      rw [e2] at this
      simp at this
      omega
    · rw [if_neg (by omega)]
      have e2 : (x == g) = false := by rw [beq_eq_false_iff_ne]; exact e
      rw [e2, Bool.false_or] at this
      omega
theorem kept_step {st : CX} {g x : Int} (hf : st.free.length = 5) (hg0 : 0 ≤ g) (hg4 : g ≤ 4) (h0 : 0 ≤ x) (h4 : x < 5) (hw : ∀ k, firstW st.holds g = some k → g ∉ (hAt st.holds k).has ∧ ∀ y ∈ (hAt st.holds k).has, 0 ≤ y ∧ y ≤ 4) :
    crOf (giveStep st g) x = crOf st x + (if x = g then 1 else 0) := by
  unfold giveStep
  cases hfw : firstW st.holds g with
  | none =>
    unfold crOf
    simp only
    rw [getD_set5 (by rw [hf]; omega)]
    by_cases e : x = g
    · subst e; rw [if_pos rfl, if_pos rfl]; omega
    · rw [if_neg (by omega), if_neg e]; omega
  | some k =>
    obtain ⟨hk, _, _⟩ := firstW_some hfw
    obtain ⟨hn, hm⟩ := hw k hfw
    unfold crOf
    have := cnt_set hk ⟨wiL (hAt st.holds k).has g, -1⟩ x
    simp only [wi_has hm hg0 hg4] at this ⊢
    by_cases e : x = g
    · subst e
      have e2 : hasB (hAt st.holds k).has x = false := hasB_no.2 hn
      rw [e2] at this
      simp at this
      rw [if_pos rfl]
      omega
    · have e2 : (x == g) = false := by rw [beq_eq_false_iff_ne]; exact e
      rw [e2, Bool.false_or] at this
      rw [if_neg e]
      omega
theorem kept_fold {c : CX} {s : Int} (h : Gv c s) {x : Int} (h0 : 0 ≤ x) (h4 : x < 5) : ∀ (Q P : List Int), hasS c s = P ++ Q →
    crOf (Q.foldl giveStep ⟨gFree P (H0 c s) c.free, gHolds P (H0 c s)⟩) x = crOf ⟨gFree P (H0 c s) c.free, gHolds P (H0 c s)⟩ x + (if x ∈ Q then 1 else 0)
  | [], P, _ => by simp
  | g :: Q, P, hPQ => by
    have hS := h.cv.at_ h.sl
    have hp : (P ++ g :: Q).Pairwise (· < ·) := by rw [← hPQ]; exact hS.p
    have hm : 0 ≤ g ∧ g ≤ 4 := hS.m g (by show g ∈ hasS c s; rw [hPQ]; simp)
    have hn : g ∉ P := fun hg => by
      have := (List.pairwise_append.1 hp).2.2 g hg g (by simp); omega
    have hgQ : g ∉ Q := fun hg => by
      have := (List.pairwise_cons.1 (List.pairwise_append.1 hp).2.1).1 g hg; omega
    rw [List.foldl_cons]
    have ks := kept_step (st := ⟨gFree P (H0 c s) c.free, gHolds P (H0 c s)⟩) (g := g) (x := x) (gFree_len _ _ _) hm.1 hm.2 h0 h4 (fun k hk => by
      simp only at hk ⊢
      obtain ⟨hkl, hkw, _⟩ := firstW_some hk
      rw [gHolds_len] at hkl
      have hkc : k < c.holds.length := by rw [H0_len] at hkl; exact hkl
      have hK := h.cv.at_ hkc
      rw [gHolds_at _ _ hkl] at hkw ⊢
      have e : gHold P (H0 c s) k = hAt (H0 c s) k := by
        unfold gHold at hkw ⊢
        split
        · rename_i hh
          rw [if_pos hh] at hkw
          simp only at hkw
          omega
        · rfl
      rw [e] at hkw ⊢
      rw [H0_wait h] at hkw
      have hks : s.toNat ≠ k := fun e2 => by rw [← e2, h.w] at hkw; omega
      rw [H0_at h, if_neg hks]
      refine ⟨?_, hK.m⟩
      rcases hK.w with e1 | ⟨_, _, _, e4⟩
      · omega
      · rwa [hkw] at e4)
    rw [give_step hm.1 hm.2 hn] at ks ⊢
    rw [kept_fold h h0 h4 Q (P ++ [g]) (by rw [hPQ]; simp), ks]
    by_cases e : x = g
    · subst e
      rw [if_neg hgQ, if_pos rfl, if_pos (by simp)]; omega
    · rw [if_neg e]
      have : (x ∈ g :: Q) ↔ x ∈ Q := by simp [e]
      simp only [this]; omega
theorem kept_give {c : CX} {s : Int} (h : Gv c s) {x : Int} (h0 : 0 ≤ x) (h4 : x < 5) : crOf (giveY c s) x = crOf c x := by
  have h1 := kept_fold h h0 h4 (hasS c s) [] rfl
  rw [gFree_nil h.cv.f, gHolds_nil] at h1
  show crOf ((hasS c s).foldl giveStep ⟨c.free, H0 c s⟩) x = _
  rw [h1]
  have h2 := cnt_set h.sl hz x
  have h3 : hasB hz.has x = false := rfl
  rw [h3] at h2
  unfold crOf H0
  simp only
  by_cases e : x ∈ hasS c s
  · rw [if_pos e]
    have e2 : hasB (hAt c.holds s.toNat).has x = true := hasB_iff.2 e
    rw [e2] at h2
    simp at h2
    omega
  · rw [if_neg e]
    have e2 : hasB (hAt c.holds s.toNat).has x = false := hasB_no.2 e
    rw [e2] at h2
    simp at h2
    omega

/-- A credit that was taken is given back. -/
theorem round_yes {c : CX} {s g : Int} (h : askB c s g = true) (he : (hAt c.holds s.toNat).has.length = 0) (hf : c.free.getD g.toNat 0 ≠ 0) : giveB (askC c s g) s = true ∧ giveC (askC c s g) s = c := by
  obtain ⟨hc, ⟨hs0, hs⟩, ⟨hg0, hg4⟩, hw, hn, e⟩ := ask_yes h
  have hcv := ask_cv h
  have hfr := hc.fr g.toNat (by omega)
  have hf' : ¬ c.free.getD g.toNat 0 ≤ 0 := by omega
  have hl : g.toNat < c.free.length := by rw [hc.f]; omega
  have hnil := List.eq_nil_of_length_eq_zero he
  have hY : askY c s g = ⟨c.free.set g.toNat (c.free.getD g.toNat 0 - 1), c.holds.set s.toNat ⟨[g], -1⟩⟩ := by
    unfold askY
    rw [if_neg hf', hnil, wi_nil hg0 hg4]
  have hz' : hAt c.holds s.toNat = hz := by
    have : hAt c.holds s.toNat = ⟨(hAt c.holds s.toNat).has, (hAt c.holds s.toNat).wait⟩ := rfl
    rw [this, hnil, hw]; rfl
  have hat : hAt (askY c s g).holds s.toNat = ⟨[g], -1⟩ := by rw [hY]; simp only; rw [hAt_set hs, if_pos rfl]
  have hok : giveOk (askY c s g) s = true := by
    have hlen : (askY c s g).holds.length = c.holds.length := by rw [hY]; simp
    unfold giveOk
    rw [cv_iff.2 hcv, hlen]
    simp only [inB, Bool.true_and, Bool.and_eq_true, decide_eq_true_eq]
    exact ⟨hs0, by omega⟩
  have hst : stopG (askY c s g) s = false := by
    simp only [stopG, hat]
    have h9 : ((c.free.set g.toNat (c.free.getD g.toNat 0 - 1)).getD g.toNat 0 == 9) = false := by
      rw [getD_set5 hl, if_pos rfl, beq_eq_false_iff_ne]; omega
    rw [hY]
    simp only [List.any_cons, List.any_nil, h9]
    rfl
  rw [e]
  have hgB : giveB (askY c s g) s = true := by simp [giveB, hok, hst]
  refine ⟨hgB, ?_⟩
  rw [(give_yes hgB).e]
  unfold giveY give0
  rw [hat]
  simp only [List.foldl_cons, List.foldl_nil]
  have hH : (askY c s g).holds.set s.toNat hz = c.holds := by
    rw [hY]; simp only
    refine hs_ext (by simp) fun k hk => ?_
    have hk' : k < c.holds.length := by simpa using hk
    rw [hAt_set (by simpa using hs), hAt_set hs]
    split
    · rename_i e2; rw [← e2, hz']
    · rfl
  rw [hH]
  have hfn : firstW c.holds g = none := firstW_none.2 fun k hk hkw => by
    have hK := hc.at_ hk
    rcases hK.w with e1 | ⟨_, _, e3, _⟩
    · omega
    · rw [hkw] at e3; omega
  unfold giveStep
  simp only [hfn]
  have hF : (askY c s g).free.set g.toNat ((askY c s g).free.getD g.toNat 0 + 1) = c.free := by
    rw [hY]; simp only
    refine ext5 (by simpa using hc.f) hc.f fun k hk => ?_
    rw [getD_set5 (by simpa using hl), getD_set5 hl, if_pos rfl, getD_set5 hl]
    split
    · rename_i e2; rw [← e2]; omega
    · rfl
  rw [hF]

/-- Credits are ordered. -/
def ohB (h : HX) : Bool := h.wait == -1 || (decide (h.has.length = 0) || decide (h.has.getD (h.has.length - 1) 0 ≤ h.wait))
def orB (c : CX) : Bool := cvB c && c.holds.all ohB
theorem or_iff {c : CX} : orB c = true ↔ cvB c = true ∧ ∀ k, k < c.holds.length → ohB (hAt c.holds k) = true := by
  simp only [orB, Bool.and_eq_true, List.all_eq_true]
  refine and_congr_right fun _ => ⟨fun h k hk => h _ (List.mem_of_getElem? (hAt_some hk)), fun h x hx => ?_⟩
  obtain ⟨k, hk, rfl⟩ := List.mem_iff_getElem.1 hx
  have := h k hk
  rwa [hAt_of (List.getElem?_eq_getElem hk)] at this
theorem ask_ordered {c : CX} {s g : Int} (h : askB c s g = true) (ho : orB c = true) (hg : (hAt c.holds s.toNat).has.length = 0 ∨ (hAt c.holds s.toNat).has.getD ((hAt c.holds s.toNat).has.length - 1) 0 ≤ g) : orB (askC c s g) = true := by
  obtain ⟨hc, ⟨hs0, hs⟩, ⟨hg0, hg4⟩, hw, hn, e⟩ := ask_yes h
  rw [e]
  refine or_iff.2 ⟨cv_iff.2 (ask_cv h), ?_⟩
  have ho := (or_iff.1 ho).2
  unfold askY
  split
  · intro k hk
    simp only at hk ⊢
    rw [hAt_set hs]
    split
    · simp only [ohB, Bool.or_eq_true, decide_eq_true_eq, beq_iff_eq]
      exact .inr hg
    · exact ho k (by simpa using hk)
  · intro k hk
    simp only at hk ⊢
    rw [hAt_set hs]
    split
    · rfl
    · exact ho k (by simpa using hk)
theorem give_ordered {c : CX} {s : Int} (h : giveB c s = true) (ho : orB c = true) : orB (giveC c s) = true := by
  have hg := give_yes h
  rw [hg.e]
  refine or_iff.2 ⟨cv_iff.2 (give_cv hg), fun k hk => ?_⟩
  rw [(give_len hg).1] at hk
  rcases give_each hg hk with ⟨_, e⟩ | ⟨_, e⟩ | ⟨_, g, _, _, _, e⟩
  · rw [e]; rfl
  · rw [e]; exact (or_iff.1 ho).2 k hk
  · rw [e]; rfl

/-- The stuck senders, as the program reckons them. -/
def skK (H : List HX) (i : Nat) (S : List Bool) (k : Nat) : List Bool := if S.getD i false && (!S.getD k false && hasB (hAt H k).has (hAt H i).wait) then S.set i false else S
def skI (H : List HX) (S : List Bool) (i : Nat) : List Bool := (List.range H.length).foldl (skK H i) S
def skR (H : List HX) (S : List Bool) : List Bool := (List.range H.length).foldl (skI H) S
def sk0 (H : List HX) : List Bool := H.map fun h => h.wait != -1
def skN (H : List HX) : Nat → List Bool
  | 0 => sk0 H
  | n + 1 => skR H (skN H n)
def stuckI (S : List Bool) (k : Nat) : List Int := ((List.range k).filter fun i => S.getD i false).map fun (i : Nat) => (i : Int)
def stuckL (c : CX) : List Int := if cvB c then stuckI (skN c.holds c.holds.length) c.holds.length else []
theorem skK_len (H : List HX) (i : Nat) (S : List Bool) (k : Nat) : (skK H i S k).length = S.length := by unfold skK; split <;> simp
theorem fold_len {α : Type} (f : List Bool → α → List Bool) (hf : ∀ S a, (f S a).length = S.length) : ∀ (l : List α) (S : List Bool), (l.foldl f S).length = S.length
  | [], _ => rfl
  | a :: l, S => by rw [List.foldl_cons, fold_len f hf l, hf]
theorem skI_len (H : List HX) (S : List Bool) (i : Nat) : (skI H S i).length = S.length := fold_len _ (fun S k => skK_len H i S k) _ _
theorem skR_len (H : List HX) (S : List Bool) : (skR H S).length = S.length := fold_len _ (fun S i => skI_len H S i) _ _
theorem skN_len (H : List HX) : ∀ n, (skN H n).length = H.length
  | 0 => by simp [skN, sk0]
  | n + 1 => by rw [skN, skR_len, skN_len H n]
/-- One list of marks says less than another. -/
def Less (S T : List Bool) : Prop := ∀ i, S.getD i false = true → T.getD i false = true
theorem Less.refl (S : List Bool) : Less S S := fun _ h => h
theorem Less.trans {S T U : List Bool} (h : Less S T) (h' : Less T U) : Less S U := fun i hi => h' i (h i hi)
theorem skK_less (H : List HX) (i : Nat) (S : List Bool) (k : Nat) : Less (skK H i S k) S := by
  unfold skK
  split
  · intro j hj
    rw [List.getD_eq_getElem?_getD, List.getElem?_set] at hj
    split at hj
    · split at hj <;> simp at hj
    · rw [List.getD_eq_getElem?_getD]; exact hj
  · exact Less.refl S
theorem fold_less {α : Type} (f : List Bool → α → List Bool) (hf : ∀ S a, Less (f S a) S) : ∀ (l : List α) (S : List Bool), Less (l.foldl f S) S
  | [], S => Less.refl S
  | a :: l, S => by rw [List.foldl_cons]; exact (fold_less f hf l (f S a)).trans (hf S a)
theorem skI_less (H : List HX) (S : List Bool) (i : Nat) : Less (skI H S i) S := fold_less _ (fun S k => skK_less H i S k) _ _
theorem skR_less (H : List HX) (S : List Bool) : Less (skR H S) S := fold_less _ (fun S i => skI_less H S i) _ _
def cntB (S : List Bool) : Nat := S.countP id
theorem cnt_less : ∀ {S T : List Bool}, S.length = T.length → Less S T → cntB S ≤ cntB T ∧ (cntB S = cntB T → S = T)
  | [], [], _, _ => ⟨Nat.le_refl _, fun _ => rfl⟩
  | [], _ :: _, h, _ => by simp at h
  | _ :: _, [], h, _ => by simp at h
  | a :: S, b :: T, h, hl => by
    have ih := cnt_less (S := S) (T := T) (by simpa using h) (fun i hi => by have := hl (i + 1) (by simpa using hi); simpa using this)
    have h0 := hl 0
    simp only [cntB, List.countP_cons, id] at *
    cases a <;> cases b <;> simp_all
    all_goals first | omega | (refine ⟨by omega, fun e => ?_⟩; omega) | skip
/-- No more senders can be freed. -/
def Closed (H : List HX) (S : List Bool) : Prop := ∀ i k, i < H.length → k < H.length → S.getD i false = true → S.getD k false = false → hasB (hAt H k).has (hAt H i).wait = false
theorem fold_fix {α : Type} (f : List Bool → α → List Bool) (hl : ∀ S a, (f S a).length = S.length) (hf : ∀ S a, Less (f S a) S) : ∀ (l : List α) (S : List Bool), l.foldl f S = S → ∀ a ∈ l, f S a = S
  | [], S, _, a, ha => by cases ha
  | b :: l, S, h, a, ha => by
    rw [List.foldl_cons] at h
    have h1 := hf S b
    have h2 := fold_less f hf l (f S b)
    rw [h] at h2
    have e1 := cnt_less (hl S b) h1
    have e2 := cnt_less (hl S b).symm h2
    have e : f S b = S := e1.2 (by omega)
    rw [e] at h
    rcases List.mem_cons.1 ha with e3 | e3
    · rw [e3, e]
    · exact fold_fix f hl hf l S h a e3
theorem closed_of_fix {H : List HX} {S : List Bool} (hS : S.length = H.length) (h : skR H S = S) : Closed H S := by
  intro i k hi hk h1 h2
  have e1 := fold_fix (skI H) (skI_len H) (skI_less H) _ S h i (List.mem_range.2 hi)
  have e2 := fold_fix (skK H i) (skK_len H i) (skK_less H i) _ S e1 k (List.mem_range.2 hk)
  cases hb : hasB (hAt H k).has (hAt H i).wait with
  | false => rfl
  | true =>
    unfold skK at e2
    rw [h1, h2, hb] at e2
    simp only [Bool.not_false, Bool.and_self, if_true] at e2
    have : (S.set i false).getD i false = true := by rw [e2]; exact h1
    rw [List.getD_eq_getElem?_getD, List.getElem?_set] at this
    simp at this
    split at this <;> simp at this
theorem closed_N (H : List HX) : ∀ n, skR H (skN H n) = skN H n ∨ cntB (skN H n) + n ≤ H.length
  | 0 => .inr (by
      have : cntB (sk0 H) ≤ (sk0 H).length := List.countP_le_length
      simpa [skN, sk0] using this)
  | n + 1 => by
    have h1 := cnt_less (S := skR H (skN H n)) (T := skN H n) (skR_len _ _) (skR_less _ _)
    by_cases e : skR H (skN H n) = skN H n
    · left; show skR H (skR H (skN H n)) = skR H (skN H n); rw [e, e]
    · rcases closed_N H n with h | h
      · exact absurd h e
      · right
        show cntB (skR H (skN H n)) + (n + 1) ≤ H.length
        have : cntB (skR H (skN H n)) ≠ cntB (skN H n) := fun e2 => e (h1.2 e2)
        omega
theorem cnt_zero {S : List Bool} (h : cntB S = 0) (i : Nat) : S.getD i false = false := by
  unfold cntB at h
  rw [List.countP_eq_zero] at h
  rw [List.getD_eq_getElem?_getD]
  cases e : S[i]? with
  | none => rfl
  | some b => have := h b (List.mem_of_getElem? e); simpa using this
theorem stuck_closed (H : List HX) : Closed H (skN H H.length) := by
  rcases closed_N H H.length with h | h
  · exact closed_of_fix (skN_len H _) h
  · intro i k _ _ h1 _
    rw [cnt_zero (by omega) i] at h1; cases h1
/-- Whoever is in a closed set of waiting senders stays stuck. -/
def Cand (H : List HX) (X : Nat → Prop) : Prop := ∀ i, i < H.length → X i → (hAt H i).wait ≠ -1 ∧ ∀ k, k < H.length → ¬ X k → hasB (hAt H k).has (hAt H i).wait = false
theorem cand_K {H : List HX} {X : Nat → Prop} (hX : Cand H X) {S : List Bool} (h : ∀ j, j < H.length → X j → S.getD j false = true) {i k : Nat} (hi : i < H.length) (hk : k < H.length) : ∀ j, j < H.length → X j → (skK H i S k).getD j false = true := by
  intro j hj hXj
  unfold skK
  split
  · rename_i hc
    simp only [Bool.and_eq_true, Bool.not_eq_true'] at hc
    rw [List.getD_eq_getElem?_getD, List.getElem?_set]
    split
    · rename_i e
      subst e
      by_cases hXk : X k
      · have := h k hk hXk; rw [this] at hc; exact absurd hc.2.1 (by simp)
      · have := (hX i hi hXj).2 k hk hXk
        rw [this] at hc; exact absurd hc.2.2 (by simp)
    · rw [← List.getD_eq_getElem?_getD]; exact h j hj hXj
  · exact h j hj hXj
theorem fold_cand {α : Type} (f : List Bool → α → List Bool) (P : List Bool → Prop) : ∀ (l : List α) (S : List Bool), (∀ a ∈ l, ∀ S, P S → P (f S a)) → P S → P (l.foldl f S)
  | [], S, _, h => h
  | a :: l, S, hf, h => by rw [List.foldl_cons]; exact fold_cand f P l _ (fun b hb => hf b (by simp [hb])) (hf a (by simp) S h)
theorem cand_N {H : List HX} {X : Nat → Prop} (hX : Cand H X) : ∀ n, ∀ j, j < H.length → X j → (skN H n).getD j false = true
  | 0 => fun j hj hXj => by
    have := (hX j hj hXj).1
    show (sk0 H).getD j false = true
    unfold sk0
    rw [List.getD_eq_getElem?_getD, List.getElem?_map, hAt_some hj]
    simpa using this
  | n + 1 => fold_cand (skI H) (fun S => ∀ j, j < H.length → X j → S.getD j false = true) _ _ (fun i hi S hS => fold_cand (skK H i) (fun S => ∀ j, j < H.length → X j → S.getD j false = true) _ _ (fun k hk S hS => cand_K hX hS (List.mem_range.1 hi) (List.mem_range.1 hk)) hS) (cand_N hX n)
theorem mem_stuck {S : List Bool} {n : Nat} {x : Int} : x ∈ stuckI S n ↔ ∃ i : Nat, i < n ∧ S.getD i false = true ∧ x = (i : Int) := by
  simp only [stuckI, List.mem_map, List.mem_filter, List.mem_range]
  constructor
  · rintro ⟨i, ⟨h1, h2⟩, rfl⟩; exact ⟨i, h1, h2, rfl⟩
  · rintro ⟨i, h1, h2, rfl⟩; exact ⟨i, ⟨h1, h2⟩, rfl⟩
theorem skN_less0 (H : List HX) : ∀ n, Less (skN H n) (sk0 H)
  | 0 => Less.refl _
  | n + 1 => (skR_less H _).trans (skN_less0 H n)
/-- Giving back makes nobody stuck. -/
theorem stuck_give {c : CX} {s : Int} (h : giveB c s = true) {x : Int} (hx : x ∈ stuckL (giveC c s)) : x ∈ stuckL c := by
  have hg := give_yes h
  rw [hg.e] at hx
  have hl := (give_len hg).1
  unfold stuckL at hx ⊢
  rw [cv_iff.2 (give_cv hg), hl] at hx
  rw [cv_iff.2 hg.cv]
  simp only [if_true] at hx ⊢
  obtain ⟨i, hi, hS, rfl⟩ := mem_stuck.1 hx
  have hcl := stuck_closed (giveY c s).holds
  rw [hl] at hcl
  have hw : ∀ i, (skN (giveY c s).holds c.holds.length).getD i false = true → i < c.holds.length → (hAt (giveY c s).holds i).wait ≠ -1 := fun i hi hil => by
    have := skN_less0 _ _ i hi
    unfold sk0 at this
    rw [List.getD_eq_getElem?_getD, List.getElem?_map, hAt_some (by rw [hl]; exact hil)] at this
    simpa using this
  have hcand : Cand c.holds (fun i => (skN (giveY c s).holds c.holds.length).getD i false = true) := by
    intro i hi hXi
    have hwi := hw i hXi hi
    have hsame : hAt (giveY c s).holds i = hAt c.holds i := by
      rcases give_each hg hi with ⟨_, e⟩ | ⟨_, e⟩ | ⟨_, g, _, _, _, e⟩
      · rw [e] at hwi; exact absurd rfl hwi
      · exact e
      · rw [e] at hwi; exact absurd rfl hwi
    rw [hsame] at hwi
    refine ⟨hwi, fun k hk hXk => ?_⟩
    have hXk' : (skN (giveY c s).holds c.holds.length).getD k false = false := by simpa using hXk
    have hc1 := hcl i k (by rw [hl]; exact hi) (by rw [hl]; exact hk) hXi hXk'
    rw [hsame] at hc1
    rw [hasB_no] at hc1 ⊢
    intro hm
    have hK := hg.cv.at_ hk
    rcases give_each hg hk with ⟨e0, e⟩ | ⟨_, e⟩ | ⟨_, g, hgm, hf, hwk, e⟩
    · -- the giver had it: the first that waits for it has it now
      subst e0
      have hm' : (hAt c.holds i).wait ∈ hasS c s := hm
      cases hf : firstW c.holds (hAt c.holds i).wait with
      | none => exact absurd rfl (firstW_none.1 hf i hi)
      | some j =>
        obtain ⟨hjs, hj, hje⟩ := give_served hg hm' hf
        have hXj : (skN (giveY c s).holds c.holds.length).getD j false = false := by
          cases hb : (skN (giveY c s).holds c.holds.length).getD j false with
          | false => rfl
          | true => have := hw j hb hj; rw [hje] at this; exact absurd rfl this
        have hc2 := hcl i j (by rw [hl]; exact hi) (by rw [hl]; exact hj) hXi hXj
        have hS' := hg.cv.at_ hg.sl
        have hr := hS'.m _ hm
        have hJ := hg.cv.at_ hj
        rw [hsame, hje, hasB_no] at hc2
        exact hc2 ((mem_wi hJ.m hr.1 hr.2).2 (.inl rfl))
    · rw [e] at hc1; exact hc1 hm
    · rw [e] at hc1
      have hS' := hg.cv.at_ hg.sl
      have hr := hS'.m _ hgm
      exact hc1 ((mem_wi hK.m hr.1 hr.2).2 (.inr hm))
  exact mem_stuck.2 ⟨i, hi, cand_N hcand _ i hi hS, rfl⟩
end Go.Proofs.Ytehgipbedlamaaa
