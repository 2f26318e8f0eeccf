/-
  What loops and branches of register programs do, in plain words.
-/
import Derived.Test.YtdlojbabnelbdaaPbStartI1
import Derived.Test.YtdlojbabnelbdaaPkRegisterChoices0
import Derived.Deep.DeepCutAuto
import Derived.BigRegion
import Derived.BigQuiet
namespace Go.Proofs.Ytdlojbabnelbdaa

/-- An instruction with new targets. -/
def redI (f : Int → Int) (x : R4) : R4 := if x.a = 1 then ⟨x.a, x.b, f x.c, f x.d⟩ else ⟨x.a, x.b, f x.c, x.d⟩
/-- Where a part's targets lead: its halt to 'halt', others 'at' further. -/
def toF (len at_ halt : Int) (t : Int) : Int := if t = len then halt else t + at_
def partP (p : List R4) (at_ halt : Int) : List R4 := p.map (redI (toF (p.length : Int) at_ halt))
theorem partP_len (p : List R4) (a h : Int) : (partP p a h).length = p.length := by simp [partP]
def loopP (r : Int) (body : List R4) : List R4 := [⟨1, r, 1, (body.length : Int) + 2⟩, ⟨0, r, if body.length = 0 then 0 else 2, 0⟩] ++ partP body 2 0
def branchP (r : Int) (zero other : List R4) : List R4 :=
  ([⟨1, r, 1, 2 + (other.length : Int)⟩, ⟨0, r, if other.length = 0 then 2 + (other.length : Int) + (zero.length : Int) else 2, 0⟩] ++ partP other 2 (2 + (other.length : Int) + (zero.length : Int))) ++ partP zero (2 + (other.length : Int)) (2 + (other.length : Int) + (zero.length : Int))
theorem loopP_len (r : Int) (b : List R4) : (loopP r b).length = b.length + 2 := by simp [loopP, partP_len]
theorem branchP_len (r : Int) (p q : List R4) : (branchP r p q).length = p.length + q.length + 2 := by simp [branchP, partP_len]; omega
theorem redI_valid {n m : Int} {f : Int → Int} {x : R4} (hx : validInstrB n x = true) (hf : ∀ t, 0 ≤ t → t ≤ n → 0 ≤ f t ∧ f t ≤ m) : validInstrB m (redI f x) = true := by
  rw [validInstr_iff] at hx ⊢
  obtain ⟨h1, h2, h3, h4, h5⟩ := hx
  have := hf x.c h3 h4
  rcases h5 with ⟨h5, h6⟩ | ⟨h5, h6, h7⟩
  · unfold redI; rw [if_neg (by omega)]; exact ⟨h1, h2, this.1, this.2, .inl ⟨h5, h6⟩⟩
  · have h8 := hf x.d h6 h7
    unfold redI; rw [if_pos h5]; exact ⟨h1, h2, this.1, this.2, .inr ⟨h5, h8.1, h8.2⟩⟩
theorem all_valid {p : List R4} (hv : validProgB p = true) : ∀ x ∈ p, validInstrB p.length x = true := by
  unfold validProgB at hv
  simp only [Bool.and_eq_true, decide_eq_true_eq, List.all_eq_true] at hv
  exact hv.2
theorem validProg_of {p : List R4} (hl : p.length ≤ 400) (h : ∀ x ∈ p, validInstrB p.length x = true) : validProgB p = true := by
  unfold validProgB
  simp only [Bool.and_eq_true, decide_eq_true_eq, List.all_eq_true]
  exact ⟨hl, h⟩
theorem validProg_len {p : List R4} (hv : validProgB p = true) : p.length ≤ 400 := by
  unfold validProgB at hv
  simp only [Bool.and_eq_true, decide_eq_true_eq] at hv
  exact hv.1
theorem partP_valid {p : List R4} {a h m : Int} (hv : validProgB p = true) (ha : 0 ≤ a) (hm : (p.length : Int) + a ≤ m) (h0 : 0 ≤ h) (h1 : h ≤ m) : ∀ x ∈ partP p a h, validInstrB m x = true := by
  intro x hx
  unfold partP at hx
  rw [List.mem_map] at hx
  obtain ⟨y, hy, rfl⟩ := hx
  refine redI_valid (all_valid hv y hy) (fun t t0 t1 => ?_)
  unfold toF
  split <;> omega
theorem loopP_valid {r : Int} {b : List R4} (hv : validProgB b = true) (h0 : 0 ≤ r) (h1 : r < 24) (hl : b.length ≤ 398) : validProgB (loopP r b) = true := by
  refine validProg_of (by rw [loopP_len]; omega) (fun x hx => ?_)
  rw [loopP_len]
  unfold loopP at hx
  rcases List.mem_append.1 hx with h | h
  · rcases List.mem_cons.1 h with rfl | h
    · rw [validInstr_iff]; dsimp only; omega
    · obtain rfl := List.mem_singleton.1 h
      rw [validInstr_iff]; dsimp only; split <;> omega
  · exact partP_valid hv (by omega) (by omega) (by omega) (by omega) x h
theorem branchP_valid {r : Int} {p q : List R4} (hp : validProgB p = true) (hq : validProgB q = true) (h0 : 0 ≤ r) (h1 : r < 24) (hl : p.length + q.length ≤ 398) : validProgB (branchP r p q) = true := by
  refine validProg_of (by rw [branchP_len]; omega) (fun x hx => ?_)
  rw [branchP_len]
  unfold branchP at hx
  rcases List.mem_append.1 hx with h | h
  · rcases List.mem_append.1 h with h | h
    · rcases List.mem_cons.1 h with rfl | h
      · rw [validInstr_iff]; dsimp only; omega
      · obtain rfl := List.mem_singleton.1 h
        rw [validInstr_iff]; dsimp only; split <;> omega
    · exact partP_valid hq (by omega) (by omega) (by omega) (by omega) x h
  · exact partP_valid hp (by omega) (by omega) (by omega) (by omega) x h
/-- Where an instruction of a part lies. -/
theorem part_at {g : List R4} {l r p : List R4} {a h : Int} (hg : g = l ++ partP p a h ++ r) (hl : (l.length : Int) = a) {k : Int} (h0 : 0 ≤ k) (hk : k < p.length) : instrOf g (k + a) = redI (toF (p.length : Int) a h) (instrOf p k) := by
  have e1 : (k + a).toNat = l.length + k.toNat := by omega
  have e2 : k.toNat < p.length := by omega
  unfold instrOf
  rw [hg, e1, List.append_assoc, List.getD_eq_getElem?_getD, List.getElem?_append_right (by omega), show l.length + k.toNat - l.length = k.toNat by omega, List.getElem?_append_left (by rw [partP_len]; exact e2), List.getD_eq_getElem?_getD]
  simp [partP, List.getElem?_eq_getElem e2]
/-- A part makes the steps of its program. -/
theorem part_step {g : List R4} {l r p : List R4} {a h : Int} (hg : g = l ++ partP p a h ++ r) (hl : (l.length : Int) = a) (hv : validProgB p = true) {s : Sto} (h0 : 0 ≤ s.p) (hk : s.p < p.length) :
    stepP g ⟨s.p + a, s.xs⟩ = ⟨toF (p.length : Int) a h (stepP p s).p, (stepP p s).xs⟩ ∧ (roomP g ⟨s.p + a, s.xs⟩ ↔ roomP p s) := by
  have hi := part_at hg hl h0 hk
  obtain ⟨_, hvi⟩ := prog_instr hv h0 hk
  rw [validInstr_iff] at hvi
  have key : stepP g ⟨s.p + a, s.xs⟩ = ⟨toF (p.length : Int) a h (stepP p s).p, (stepP p s).xs⟩ := by
    unfold stepP
    dsimp only
    rw [hi]
    generalize instrOf p s.p = x at *
    rcases hvi.2.2.2.2 with ⟨e, _⟩ | ⟨e, _⟩
    · have n1 : ¬ x.a = 1 := by omega
      have hr : redI (toF (p.length : Int) a h) x = ⟨x.a, x.b, toF (p.length : Int) a h x.c, x.d⟩ := by unfold redI; rw [if_neg n1]
      rw [hr]
      dsimp only
      rw [if_pos e, if_pos e]
    · have n0 : ¬ x.a = 0 := by omega
      have hr : redI (toF (p.length : Int) a h) x = ⟨x.a, x.b, toF (p.length : Int) a h x.c, toF (p.length : Int) a h x.d⟩ := by unfold redI; rw [if_pos e]
      rw [hr]
      dsimp only
      rw [if_neg n0, if_neg n0]
      split <;> rfl
  refine ⟨key, ?_⟩
  have e2 : (instrOf g (s.p + a)).b = (instrOf p s.p).b := by
    rw [hi]; unfold redI; split <;> rfl
  unfold roomP
  rw [key]
  dsimp only
  rw [e2]
/-- A run of a part. -/
theorem part_run {g : List R4} {l r p : List R4} {a h : Int} (hg : g = l ++ partP p a h ++ r) (hl : (l.length : Int) = a) (hv : validProgB p = true) {s : Sto} (hs : storeB p s = true) : ∀ i, AliveP p s i →
    AliveP g ⟨toF (p.length : Int) a h s.p, s.xs⟩ i ∧ itP g ⟨toF (p.length : Int) a h s.p, s.xs⟩ i = ⟨toF (p.length : Int) a h (itP p s i).p, (itP p s i).xs⟩ := by
  intro i
  induction i with
  | zero => intro _; exact ⟨AliveP.zero _ _, rfl⟩
  | succ i ih =>
    intro hA
    have hA' : AliveP p s i := fun j hj => hA j (by omega)
    obtain ⟨h1, h2⟩ := ih hA'
    obtain ⟨he, hr⟩ := hA i (by omega)
    have hvs := hA'.valid hv hs
    rw [storeB_iff] at hvs
    unfold endP at he
    have ht : toF (p.length : Int) a h (itP p s i).p = (itP p s i).p + a := by unfold toF; rw [if_neg he]
    rw [ht] at h2
    obtain ⟨k1, k2⟩ := part_step hg hl hv (s := itP p s i) hvs.1 (by omega)
    have hgl : (g.length : Int) = a + (p.length : Int) + (r.length : Int) := by rw [hg]; simp [partP_len]; omega
    refine ⟨h1.next ?_ ?_, ?_⟩
    · rw [h2]; unfold endP; dsimp only; omega
    · rw [h2, k2]; exact hr
    · show stepP g (itP g _ i) = _
      rw [h2, k1]; rfl
/-- A loop ends with its register 0. -/
theorem loop_ends {r : Int} {b : List R4} (hv : validProgB b = true) (h0 : 0 ≤ r) (h1 : r < 24) (hl : b.length ≤ 398) {xs : List Int} (hx : xs.length = 24) (hxs : ∀ x ∈ xs, 0 ≤ x ∧ x ≤ 1000000) {i : Nat} (hA : AliveP (loopP r b) ⟨0, xs⟩ i) (he : endP (loopP r b) (itP (loopP r b) ⟨0, xs⟩ i)) :
    getI (itP (loopP r b) ⟨0, xs⟩ i).xs r = 0 := by
  have hlen := loopP_len r b
  have hgv := loopP_valid hv h0 h1 hl
  have hst : storeB (loopP r b) ⟨0, xs⟩ = true := by rw [storeB_iff]; exact ⟨by dsimp only; omega, by dsimp only; omega, hx, hxs⟩
  cases i with
  | zero => unfold endP at he; rw [hlen] at he; have h2 : (0 : Int) = ((b.length + 2 : Nat) : Int) := he; omega
  | succ i =>
    have hA' : AliveP (loopP r b) ⟨0, xs⟩ i := fun j hj => hA j (by omega)
    have hvs := hA'.valid hgv hst
    obtain ⟨hne, _⟩ := hA i (by omega)
    obtain ⟨s, hs⟩ : ∃ s, s = itP (loopP r b) ⟨0, xs⟩ i := ⟨_, rfl⟩
    rw [← hs] at hvs hne
    have e1 : itP (loopP r b) ⟨0, xs⟩ (i + 1) = stepP (loopP r b) s := by rw [hs]; rfl
    rw [e1] at he ⊢
    rw [storeB_iff, hlen] at hvs
    obtain ⟨s0, s1, s2, s3⟩ := hvs
    unfold endP at hne he
    rw [hlen] at hne he
    rcases Int.lt_or_le s.p 2 with h | h
    · rcases Int.lt_or_le s.p 1 with h' | h'
      · obtain hp : s.p = 0 := by omega
        have i0 : instrOf (loopP r b) s.p = ⟨1, r, 1, (b.length : Int) + 2⟩ := by rw [hp]; rfl
        have hm : 0 ≤ getI s.xs r := by
          unfold getI
          rw [List.getD_eq_getElem?_getD, List.getElem?_eq_getElem (by omega)]
          exact (s3 _ (List.getElem_mem _)).1
        by_cases hg : 0 < getI s.xs r
        · obtain ⟨p1, _⟩ := step_dec i0 h0 (by omega) hg
          rw [p1] at he; omega
        · obtain ⟨p1, _⟩ := step_else i0 (by omega)
          rw [p1]; dsimp only; omega
      · obtain hp : s.p = 1 := by omega
        have i0 : instrOf (loopP r b) s.p = ⟨0, r, if b.length = 0 then 0 else 2, 0⟩ := by rw [hp]; rfl
        obtain ⟨p1, _⟩ := step_inc i0 h0 (by omega)
        rw [p1] at he
        split at he <;> omega
    · obtain ⟨t, ht⟩ : ∃ t : Sto, t = ⟨s.p - 2, s.xs⟩ := ⟨_, rfl⟩
      have hts : s = ⟨t.p + 2, t.xs⟩ := by
        rw [ht]
        cases s
        simp
      have ht0 : 0 ≤ t.p := by rw [ht]; dsimp only; omega
      have ht1 : t.p < b.length := by rw [ht]; dsimp only; omega
      obtain ⟨k1, _⟩ := part_step (g := loopP r b) (l := [⟨1, r, 1, (b.length : Int) + 2⟩, ⟨0, r, if b.length = 0 then 0 else 2, 0⟩]) (r := []) (p := b) (a := 2) (h := 0) (by simp [loopP]) rfl hv (s := t) ht0 ht1
      rw [hts, k1] at he
      dsimp only at he
      obtain ⟨_, hvi⟩ := prog_instr hv ht0 ht1
      rw [validInstr_iff] at hvi
      have hb : (stepP b t).p ≤ b.length := by
        unfold stepP
        generalize instrOf b t.p = x at *
        dsimp only
        rcases hvi.2.2.2.2 with ⟨e, _⟩ | ⟨e, e2, e3⟩
        · rw [if_pos e]; exact hvi.2.2.2.1
        · rw [if_neg (by omega)]
          split
          · exact hvi.2.2.2.1
          · exact e3
      unfold toF at he
      split at he <;> omega
/-- A branch comes to where the chosen program comes. -/
theorem branch_runs {r : Int} {p q : List R4} (hp : validProgB p = true) (hq : validProgB q = true) (h0 : 0 ≤ r) (h1 : r < 24) {xs : List Int} (hx : xs.length = 24) (hxs : ∀ x ∈ xs, 0 ≤ x ∧ x ≤ 1000000) {k : Nat}
    (hA : AliveP (if 0 < getI xs r then q else p) ⟨0, xs⟩ k) (he : endP (if 0 < getI xs r then q else p) (itP (if 0 < getI xs r then q else p) ⟨0, xs⟩ k)) :
    ∃ n, k ≤ n ∧ n ≤ k + 2 ∧ AliveP (branchP r p q) ⟨0, xs⟩ n ∧ endP (branchP r p q) (itP (branchP r p q) ⟨0, xs⟩ n) ∧ (itP (branchP r p q) ⟨0, xs⟩ n).xs = (itP (if 0 < getI xs r then q else p) ⟨0, xs⟩ k).xs := by
  have hlen := branchP_len r p q
  have hm : 0 ≤ getI xs r ∧ getI xs r ≤ 1000000 := by
    unfold getI
    rw [List.getD_eq_getElem?_getD, List.getElem?_eq_getElem (by omega)]
    exact hxs _ (List.getElem_mem _)
  have i0 : instrOf (branchP r p q) 0 = ⟨1, r, 1, 2 + (q.length : Int)⟩ := rfl
  have i1 : instrOf (branchP r p q) 1 = ⟨0, r, if q.length = 0 then 2 + (q.length : Int) + (p.length : Int) else 2, 0⟩ := rfl
  by_cases hg : 0 < getI xs r
  · rw [if_pos hg] at hA he ⊢
    obtain ⟨p1, l1, g1, r1⟩ := step_dec (p := branchP r p q) (s := ⟨0, xs⟩) i0 h0 (by dsimp only; omega) hg
    obtain ⟨s1, hs1⟩ : ∃ s1, s1 = stepP (branchP r p q) ⟨0, xs⟩ := ⟨_, rfl⟩
    rw [← hs1] at p1 l1 g1
    have x1 : getI s1.xs r = getI xs r - 1 := by rw [g1 r h0, if_pos rfl]
    dsimp only at l1
    obtain ⟨p2, l2, g2, r2⟩ := step_inc (p := branchP r p q) (s := s1) (by rw [p1]; exact i1) h0 (by omega)
    have e2 : itP (branchP r p q) ⟨0, xs⟩ 2 = ⟨toF (q.length : Int) 2 (2 + (q.length : Int) + (p.length : Int)) 0, xs⟩ := by
      show stepP (branchP r p q) (stepP (branchP r p q) ⟨0, xs⟩) = _
      rw [← hs1]
      have ex : (stepP (branchP r p q) s1).xs = xs := by
        apply List.ext_getElem (by omega)
        intro j hj hj'
        have a1 := g2 (j : Int) (by omega)
        have a2 := g1 (j : Int) (by omega)
        have a3 : ∀ (ys : List Int) (h : j < ys.length), getI ys (j : Int) = ys[j] := by
          intro ys h
          unfold getI
          rw [Int.toNat_natCast, List.getD_eq_getElem?_getD, List.getElem?_eq_getElem h]; rfl
        rw [← a3 _ hj, ← a3 _ hj', a1]
        by_cases ej : (j : Int) = r
        · rw [if_pos ej, x1, ej]; omega
        · rw [if_neg ej, a2, if_neg ej]
      have ep : (stepP (branchP r p q) s1).p = toF (q.length : Int) 2 (2 + (q.length : Int) + (p.length : Int)) 0 := by
        rw [p2]; unfold toF
        by_cases e : q.length = 0
        · rw [if_pos e, if_pos (by omega)]
        · rw [if_neg e, if_neg (by omega)]; omega
      cases h : stepP (branchP r p q) s1
      rw [h] at ex ep
      simp only at ex ep
      rw [ex, ep]
    have hstq : storeB q ⟨0, xs⟩ = true := by rw [storeB_iff]; exact ⟨by dsimp only; omega, by dsimp only; omega, hx, hxs⟩
    obtain ⟨k1, k2⟩ := part_run (g := branchP r p q) (l := [⟨1, r, 1, 2 + (q.length : Int)⟩, ⟨0, r, if q.length = 0 then 2 + (q.length : Int) + (p.length : Int) else 2, 0⟩]) (r := partP p (2 + (q.length : Int)) (2 + (q.length : Int) + (p.length : Int))) (p := q) (a := 2) (h := 2 + (q.length : Int) + (p.length : Int)) rfl rfl hq hstq k hA
    refine ⟨2 + k, by omega, by omega, ?_, ?_, ?_⟩
    · refine AliveP.add (fun j hj => ?_) (by rw [e2]; exact k1)
      match j, hj with
      | 0, _ => exact ⟨by show ¬ (0 : Int) = _; omega, r1 (by dsimp only; omega)⟩
      | 1, _ => exact ⟨by show ¬ (stepP (branchP r p q) ⟨0, xs⟩).p = _; rw [← hs1, p1]; omega, by show roomP _ (stepP (branchP r p q) ⟨0, xs⟩); rw [← hs1]; exact r2 (by omega)⟩
    · rw [itP_add, e2, k2]
      unfold endP at he ⊢
      dsimp only
      rw [he]; unfold toF; rw [if_pos rfl]; omega
    · rw [itP_add, e2, k2]
  · rw [if_neg hg] at hA he ⊢
    obtain ⟨p1, r1⟩ := step_else (p := branchP r p q) (s := ⟨0, xs⟩) i0 (by dsimp only; omega)
    have e1 : itP (branchP r p q) ⟨0, xs⟩ 1 = ⟨toF (p.length : Int) (2 + (q.length : Int)) (2 + (q.length : Int) + (p.length : Int)) 0, xs⟩ := by
      show stepP (branchP r p q) ⟨0, xs⟩ = _
      rw [p1]
      unfold toF
      by_cases e : (0 : Int) = (p.length : Int)
      · rw [if_pos e]; congr 1; omega
      · rw [if_neg e]; congr 1; omega
    have hstp : storeB p ⟨0, xs⟩ = true := by rw [storeB_iff]; exact ⟨by dsimp only; omega, by dsimp only; omega, hx, hxs⟩
    obtain ⟨k1, k2⟩ := part_run (g := branchP r p q) (l := [⟨1, r, 1, 2 + (q.length : Int)⟩, ⟨0, r, if q.length = 0 then 2 + (q.length : Int) + (p.length : Int) else 2, 0⟩] ++ partP q 2 (2 + (q.length : Int) + (p.length : Int))) (r := []) (p := p) (a := 2 + (q.length : Int)) (h := 2 + (q.length : Int) + (p.length : Int)) (by simp [branchP]) (by simp [partP_len]; omega) hp hstp k hA
    refine ⟨1 + k, by omega, by omega, ?_, ?_, ?_⟩
    · exact AliveP.add (alive_one (by show ¬ (0 : Int) = _; omega) r1) (by rw [e1]; exact k1)
    · rw [itP_add, e1, k2]
      unfold endP at he ⊢
      dsimp only
      rw [he]; unfold toF; rw [if_pos rfl]; omega
    · rw [itP_add, e1, k2]
end Go.Proofs.Ytdlojbabnelbdaa

/-
  Slices of records whose cells hold numbers and slices: a spine and its rows. No program is in sight.
-/
namespace Go.Proofs.Ytdlojbabnelbdaa
open Go.RowKit

/-! ### lists of cells, element by element -/
section
variable {α : Type} {f : α → List Value} {s : Nat}
theorem flat_len (hf : ∀ a, (f a).length = s) (ts : List α) : (ts.flatMap f).length = ts.length * s := by
  induction ts with
  | nil => simp
  | cons t r ih => rw [List.flatMap_cons, List.length_append, hf, ih, List.length_cons, Nat.succ_mul]; omega
theorem flat_get (hf : ∀ a, (f a).length = s) : ∀ {ts : List α} {k : Nat} {t : α} {j : Nat}, ts[k]? = some t → j < s → (ts.flatMap f)[k * s + j]? = (f t)[j]?
  | [], k, t, j, h, _ => by simp at h
  | u :: r, 0, t, j, h, hj => by
    simp at h; subst h
    rw [List.flatMap_cons, Nat.zero_mul, Nat.zero_add, List.getElem?_append_left (by rw [hf]; exact hj)]
  | u :: r, k + 1, t, j, h, hj => by
    have ih := flat_get hf (ts := r) (k := k) (t := t) (j := j) (by simpa using h) hj
    rw [List.flatMap_cons, List.getElem?_append_right (by rw [hf, Nat.succ_mul]; omega), hf, show (k + 1) * s + j - s = k * s + j from by rw [Nat.succ_mul]; omega]
    exact ih
theorem flat_snoc (ts : List α) (t : α) : (ts ++ [t]).flatMap f = ts.flatMap f ++ f t := by simp
theorem flat_set (hf : ∀ a, (f a).length = s) : ∀ {ts : List α} {k j : Nat} {t u : α} {v : Value}, ts[k]? = some t → j < s → (f t).set j v = f u → (ts.flatMap f).set (k * s + j) v = (ts.set k u).flatMap f
  | [], k, j, t, u, v, h, _, _ => by simp at h
  | x :: r, 0, j, t, u, v, h, hj, he => by
    simp at h; subst h
    rw [List.flatMap_cons, Nat.zero_mul, Nat.zero_add, List.set_append_left _ _ (by rw [hf]; exact hj), he]; rfl
  | x :: r, k + 1, j, t, u, v, h, hj, he => by
    have ih := flat_set hf (ts := r) (k := k) (j := j) (t := t) (u := u) (v := v) (by simpa using h) hj he
    rw [List.flatMap_cons, List.set_append_right _ _ (by rw [hf, Nat.succ_mul]; omega), hf, show (k + 1) * s + j - s = k * s + j from by rw [Nat.succ_mul]; omega, ih]
    rfl
end

/-! ### rows of any kind -/
structure Rw where
  A : Option Addr
  n : Nat
  c : Nat
  e : TypeId
  s : Nat
  cs : List Value
def Rw.val (r : Rw) : Value := .slice r.A r.n r.c
def Rw.own (r : Rw) (w : World) (lo : Nat) : Prop := Own w lo r.e r.s r.A r.n r.c r.cs
def AptR (t u : Rw) : Prop := ∀ b, blk t.A = some b → blk u.A ≠ some b
/-- A row of numbers. -/
def Rw.i (e : TypeId) (A : Option Addr) (c : Nat) (xs : List Int) : Rw := ⟨A, xs.length, c, e, 1, ints xs⟩

/-- An owned spine, cells of s to an element, and its rows, all apart. -/
structure Recs (w : World) (lo : Nat) (e : TypeId) (s : Nat) (A : Option Addr) (n c : Nat) (cs : List Value) (rows : List Rw) : Prop where
  spine : Own w lo e s A n c cs
  each : ∀ r ∈ rows, r.own w lo
  apt : rows.Pairwise AptR
  types : ∀ r ∈ rows, r.e ≠ e
section
variable {w w' w2 : World} {lo lo' n c s : Nat} {e : TypeId} {A : Option Addr} {cs : List Value} {rows : List Rw}
theorem Rw.own.below {r : Rw} (h : r.own w lo) (z : Below w.heap.size w w') : r.own w' lo := Own.below h z
theorem Rw.own.mono {r : Rw} (h : r.own w lo) (hl : lo' ≤ lo) : r.own w lo' := Own.mono h hl
theorem Recs.nil (h : Own w lo e s A 0 c []) : Recs w lo e s A 0 c [] [] := ⟨h, by simp, List.Pairwise.nil, by simp⟩
theorem Recs.below (h : Recs w lo e s A n c cs rows) (z : Below w.heap.size w w') : Recs w' lo e s A n c cs rows := ⟨h.spine.below z, fun r hr => (h.each r hr).below z, h.apt, h.types⟩
theorem Recs.mono (h : Recs w lo e s A n c cs rows) (hl : lo' ≤ lo) : Recs w lo' e s A n c cs rows := ⟨h.spine.mono hl, fun r hr => (h.each r hr).mono hl, h.apt, h.types⟩
theorem Recs.drewN (h : Recs w lo e s A n c cs rows) (k : Nat) : Recs (w.drewN k) lo e s A n c cs rows := ⟨h.spine.drewN k, fun r hr => Own.drewN (h.each r hr) k, h.apt, h.types⟩
theorem Recs.alloc (h : Recs w lo e s A n c cs rows) (o : Obj) : Recs (w.alloc o) lo e s A n c cs rows := ⟨h.spine.alloc o, fun r hr => (Own.alloc (h.each r hr) o), h.apt, h.types⟩
/-- A row's block is not the spine's. -/
theorem Recs.row_ne (h : Recs w lo e s A n c cs rows) : ∀ r ∈ rows, ∀ b, blk A = some b → blk r.A ≠ some b := fun r hr b hb hb' => Own.blk_ne h.spine (h.each r hr) (fun he => h.types r hr he.symm) b hb hb'
theorem Recs.kept (h : Recs w lo e s A n c cs rows) (hA : ∀ b, blk A = some b → w'.heap[b]? = w.heap[b]?) (hR : ∀ r ∈ rows, ∀ b, blk r.A = some b → w'.heap[b]? = w.heap[b]?) : Recs w' lo e s A n c cs rows :=
  ⟨h.spine.kept (fun b hb _ _ => hA b hb), fun r hr => Own.kept (h.each r hr) (fun b hb _ _ => hR r hr b hb), h.apt, h.types⟩
theorem Recs.set_far (h : Recs w lo e s A n c cs rows) {g i : Nat} (hg : g < lo) (u : Value) : Recs (w.setCell ⟨g, i, none⟩ u) lo e s A n c cs rows :=
  ⟨h.spine.far (p := ⟨g, i, none⟩) (fun e => by have h1 : lo ≤ g := h.spine.blk_ge _ e; omega) u, fun r hr => Own.far (h.each r hr) (p := ⟨g, i, none⟩) (fun e => by have h1 : lo ≤ g := Own.blk_ge (h.each r hr) _ e; omega) u, h.apt, h.types⟩
/-- One record more: the spine has grown, the new rows are apart from the old ones. -/
theorem Recs.append {A2 : Option Addr} {n2 c2 : Nat} {news : List Value} {more : List Rw} (h : Recs w lo e s A n c cs rows) (hs : Own w2 lo e s A2 n2 c2 (cs ++ news)) (hg : w.grownBy w2 (blk A)) (hm : ∀ r ∈ more, r.own w lo) (ha : more.Pairwise AptR) (ht : ∀ r ∈ more, r.e ≠ e)
    (hx : ∀ r ∈ rows, ∀ m ∈ more, AptR r m) : Recs w2 lo e s A2 n2 c2 (cs ++ news) (rows ++ more) := by
  have far : ∀ r : Rw, r.own w lo → r.e ≠ e → r.own w2 lo := fun r hr hne =>
    Own.grown hr hg (fun g hgA hb => Own.blk_ne h.spine hr (fun he => hne he.symm) g hgA hb)
  refine ⟨hs, fun r hr => ?_, ?_, fun r hr => ?_⟩
  · rcases List.mem_append.1 hr with h1 | h1
    · exact far r (h.each r h1) (h.types r h1)
    · exact far r (hm r h1) (ht r h1)
  · rw [List.pairwise_append]; exact ⟨h.apt, ha, hx⟩
  · rcases List.mem_append.1 hr with h1 | h1
    · exact h.types r h1
    · exact ht r h1
/-- New rows that lie from k on, old ones below it. -/
theorem Recs.apart {more : List Rw} {k : Nat} (h : Recs w lo e s A n c cs rows) (hk : w.heap.size ≤ k) (hm : ∀ r ∈ more, ∀ b, blk r.A = some b → k ≤ b) : ∀ r ∈ rows, ∀ m ∈ more, AptR r m := fun r hr m hm' b hb hb' => by
  have h1 := Own.blk_lt (h.each r hr) b hb
  have h2 := hm m hm' b hb'
  omega
theorem Recs.fr {X : Nat → Prop} (h : Recs w lo e s A n c cs rows) (hf : ∀ b, X b → w'.heap[b]? = w.heap[b]?) (hA : ∀ b, blk A = some b → X b) (hR : ∀ r ∈ rows, ∀ b, blk r.A = some b → X b) : Recs w' lo e s A n c cs rows :=
  h.kept (fun b hb => hf b (hA b hb)) (fun r hr b hb => hf b (hR r hr b hb))
theorem Blk.apt {w : World} {g : Nat} {t e : TypeId} {cur : Array Value} {lo n c s : Nat} {A : Option Addr} {cs : List Value} (h : Blk w g t cur) (h' : Own w lo e s A n c cs) (hne : t ≠ e) : blk A ≠ some g := by
  intro hb
  rcases h'.2 with ⟨rfl, _⟩ | ⟨b, off, cur2, rfl, _, hg, _⟩
  · simp [blk] at hb
  · simp [blk] at hb; subst hb
    unfold Blk at h
    rw [hg] at h
    simp at h
    exact hne h.2.symm
theorem Blk.grown {w w2 : World} {g : Nat} {t e : TypeId} {cur : Array Value} {lo n c s : Nat} {A : Option Addr} {cs : List Value} (h : Blk w g t cur) (h' : Own w lo e s A n c cs) (hg : w.grownBy w2 (blk A)) (hne : t ≠ e) : Blk w2 g t cur :=
  (hg.block g (Array.getElem?_eq_some_iff.1 h).1 (fun e => h.apt h' hne e.symm)).trans h
theorem Own.grown_apt {w w2 : World} {lo lo' n n' c c' s s' : Nat} {e e' : TypeId} {A A' : Option Addr} {cs cs' : List Value} (h : Own w lo' e' s' A' n' c' cs') (h0 : Own w lo e s A n c cs) (hg : w.grownBy w2 (blk A)) (hne : e' ≠ e) : Own w2 lo' e' s' A' n' c' cs' :=
  h.grown hg (fun g hg' hb => Own.blk_ne h0 h (fun he => hne he.symm) g hg' hb)
theorem Recs.set_blk {g i : Nat} {t : TypeId} {cur : Array Value} (h : Recs w lo e s A n c cs rows) (hb : Blk w g t cur) (ht : t ≠ e) (hr : ∀ r ∈ rows, t ≠ r.e) (u : Value) : Recs (w.setCell ⟨g, i, none⟩ u) lo e s A n c cs rows :=
  ⟨h.spine.far (p := ⟨g, i, none⟩) (hb.apt h.spine ht) u, fun r hr' => Own.far (h.each r hr') (p := ⟨g, i, none⟩) (hb.apt (h.each r hr') (hr r hr')) u, h.apt, h.types⟩
/-- The blocks of a slice of records. -/
def RecsB (A : Option Addr) (rows : List Rw) (b : Nat) : Prop := blk A = some b ∨ ∃ r ∈ rows, blk r.A = some b
theorem Recs.blk_ge (h : Recs w lo e s A n c cs rows) : ∀ b, RecsB A rows b → lo ≤ b ∧ b < w.heap.size := by
  rintro b (hb | ⟨r, hr, hb⟩)
  · exact ⟨h.spine.blk_ge b hb, h.spine.blk_lt b hb⟩
  · exact ⟨Own.blk_ge (h.each r hr) b hb, Own.blk_lt (h.each r hr) b hb⟩
theorem Recs.keptB (h : Recs w lo e s A n c cs rows) (hk : ∀ b, RecsB A rows b → w'.heap[b]? = w.heap[b]?) : Recs w' lo e s A n c cs rows :=
  h.kept (fun b hb => hk b (.inl hb)) (fun r hr b hb => hk b (.inr ⟨r, hr, hb⟩))
end
end Go.Proofs.Ytdlojbabnelbdaa

/-
  Programs of registers that are being built: contracts of the assembly's methods, redirected, moveRegister, joinPrograms.
-/
namespace Go.Proofs.Ytdlojbabnelbdaa
open Go.RowKit

theorem elQ : Elem Try.prog 24 133 4 32 (.agg #[.int .i64 0, .int .i64 0, .int .i64 0, .int .i64 0]) := ⟨Try.underlying24, by kernel_rfl, rfl, by decide⟩
theorem R4.new (w : World) (r : R4) : Rd (w.alloc (.cells #[.int .i64 r.a, .int .i64 r.b, .int .i64 r.c, .int .i64 r.d] 133)) 4 (some ⟨w.heap.size, 0, none⟩) 1 (cells4 [r]) := by
  refine ⟨rfl, fun _ => ⟨_, 0, rfl, fun k hk => ?_⟩⟩
  rw [cell_of_row _ w.heap.size (0 + k) _ 133 (0, 0) (heap_alloc_new w _)]
  rw [length_cells4] at hk
  simp at hk
  match k, hk with
  | 0, _ => rfl
  | 1, _ => rfl
  | 2, _ => rfl
  | 3, _ => rfl
/-- A program that is being built, behind a pointer. -/
def Asm (w0 : World) (g : Nat) (rs : List R4) (W : World) : Prop :=
  w0.heap.size ≤ g ∧ Below w0.heap.size w0 W ∧ ∃ A c, Blk W g 129 #[.slice A rs.length c] ∧ Own W w0.heap.size 133 4 A rs.length c (cells4 rs)
theorem Asm.below {w0 W W' : World} {g : Nat} {rs : List R4} (h : Asm w0 g rs W) (z : Below W.heap.size W W') : Asm w0 g rs W' := by
  obtain ⟨h1, h2, A, c, h3, h4⟩ := h
  exact ⟨h1, h2.trans (z.mono h2.size), A, c, h3.below' z, h4.below z⟩
/-- More instructions: behind an append and the store of the new slice. -/
theorem Asm.more {w0 W1 W2 : World} {g : Nat} {rs qs : List R4} {A A2 : Option Addr} {c c2 : Nat} (h1 : w0.heap.size ≤ g) (h2 : Below w0.heap.size w0 W1) (h3 : Blk W1 g 129 #[.slice A rs.length c]) (h4 : Own W1 w0.heap.size 133 4 A rs.length c (cells4 rs))
    (o : Own W2 w0.heap.size 133 4 A2 (rs.length + qs.length) c2 (cells4 rs ++ cells4 qs)) (hg : W1.grownBy W2 (blk A)) :
    Asm w0 g (rs ++ qs) (W2.setCell ⟨g, 0, none⟩ (.slice A2 (rs.length + qs.length) c2)) := by
  have hb := h3.grown h4 hg (by decide)
  refine ⟨h1, (h4.below_of h2 hg h2.size).setCell (p := ⟨g, 0, none⟩) h1 _, A2, c2, ?_, ?_⟩
  · have h := hb.set_ 0 (.slice A2 (rs.length + qs.length) c2)
    rw [List.length_append]
    simpa using h
  · rw [List.length_append, ← cells4_append]
    exact o.far (p := ⟨g, 0, none⟩) (hb.apt o (by decide)) _
def AsmPost (w0 : World) (g : Nat) (rs : List R4) (e : Ending) (w' : World) : Prop := e = .returned (.pointer (some ⟨g, 0, none⟩)) ∧ Asm w0 g rs w'
set_option maxHeartbeats 1000000 in
theorem dec_any (w0 w : World) (g : Nat) (rs : List R4) (r t d : Int) (h : Asm w0 g rs w) (hl : rs.length ≤ 1000) :
    Calls Try.prog 81 #[.pointer (some ⟨g, 0, none⟩), .int .i64 r, .int .i64 t, .int .i64 d] w (AsmPost w0 g (rs ++ [⟨1, r, t, d⟩])) := by
  obtain ⟨h1, h2, A, c, h3, h4⟩ := h
  have HB := Lib.hid h3
  have HO := Lib.hid h4
  have HZ := Lib.hid h2
  have k0 : w.cell? ⟨g, 0, none⟩ = some (.slice A rs.length c) := h3.cell 0
  clear h3 h4 h2
  go_enter Try.func81, Try.ntmps81
  go_wp2_with (at_builtin; refine wpList_append_Own rfl (.tmp 13) (.tmp 18) rfl elQ (lo := w0.heap.size) rfl (HO.out.alloc _) rfl (R4.new w ⟨1, r, t, d⟩) (cells4_one _) (by omega) (by simp only [maxLen]; omega) (by have := HZ.out.size; simp; omega) ?_; intro A2 c2 w2 o2 g2 _; have hf := ((HB.out.alloc _).grown (HO.out.alloc _) g2 (by decide)).frozen 0; have hc : w2.cell? ⟨g, 0, none⟩ = some (.slice A rs.length c) := ((HB.out.alloc _).grown (HO.out.alloc _) g2 (by decide)).cell 0)
  have HF := Lib.hid (Asm.more (qs := [⟨1, r, t, d⟩]) h1 (HZ.out.alloc HZ.out.size _) (HB.out.alloc _) (HO.out.alloc _) o2 g2)
  clear o2 g2
  go_ret
  exact ⟨rfl, HF.out⟩
set_option maxHeartbeats 1000000 in
theorem inc_any (w0 w : World) (g : Nat) (rs : List R4) (r t : Int) (h : Asm w0 g rs w) (hl : rs.length ≤ 1000) :
    Calls Try.prog 83 #[.pointer (some ⟨g, 0, none⟩), .int .i64 r, .int .i64 t] w (AsmPost w0 g (rs ++ [⟨0, r, t, 0⟩])) := by
  obtain ⟨h1, h2, A, c, h3, h4⟩ := h
  have HB := Lib.hid h3
  have HO := Lib.hid h4
  have HZ := Lib.hid h2
  have k0 : w.cell? ⟨g, 0, none⟩ = some (.slice A rs.length c) := h3.cell 0
  clear h3 h4 h2
  go_enter Try.func83, Try.ntmps83
  go_wp2_with (at_builtin; refine wpList_append_Own rfl (.tmp 11) (.tmp 15) rfl elQ (lo := w0.heap.size) rfl (HO.out.alloc _) rfl (R4.new w ⟨0, r, t, 0⟩) (cells4_one _) (by omega) (by simp only [maxLen]; omega) (by have := HZ.out.size; simp; omega) ?_; intro A2 c2 w2 o2 g2 _; have hf := ((HB.out.alloc _).grown (HO.out.alloc _) g2 (by decide)).frozen 0; have hc : w2.cell? ⟨g, 0, none⟩ = some (.slice A rs.length c) := ((HB.out.alloc _).grown (HO.out.alloc _) g2 (by decide)).cell 0)
  have HF := Lib.hid (Asm.more (qs := [⟨0, r, t, 0⟩]) h1 (HZ.out.alloc HZ.out.size _) (HB.out.alloc _) (HO.out.alloc _) o2 g2)
  clear o2 g2
  go_ret
  exact ⟨rfl, HF.out⟩
end Go.Proofs.Ytdlojbabnelbdaa

/-
  Contracts of impl.redirected and of the assembly's method part.
-/
namespace Go.Proofs.Ytdlojbabnelbdaa
open Go.RowKit

/-- A new slice of instructions. -/
def NewQ (w : World) (rs : List R4) (e : Ending) (w' : World) : Prop :=
  ∃ A c, e = .returned (.slice A rs.length c) ∧ Own w' w.heap.size 133 4 A rs.length c (cells4 rs) ∧ Below w.heap.size w w'
set_option maxHeartbeats 400000 in
theorem cloneQ_any (A : Option Addr) (n c : Nat) (rs : List R4) (w : World) (hx : S4 w A n rs) (hn : n ≤ 1048576) :
    Calls Try.prog 251 #[.slice A n c] w (NewQ w rs) := by
  have HL := Lib.hid hx.len
  have hnil := fun (w : World) (a : Option Addr) (n c : Nat) => Lib.run_eql_slice_nil (P := Try.prog) w 24 133 a n c 0 0 Try.underlying24
  rcases A with _ | ad
  · have hn0 : n = 0 := by
      rcases Nat.eq_zero_or_pos n with h | h
      · exact h
      · obtain ⟨_, b, off, _, _, e, _⟩ := hx.pick h; cases e
    subst hn0
    have hx0 : rs = [] := List.eq_nil_of_length_eq_zero HL.out
    subst hx0
    go_enter Try.func251, Try.ntmps251
    go_wp2
    go_ret
    exact ⟨none, 0, rfl, Own.nil, Below.refl _ _⟩
  · go_enter Try.func251, Try.ntmps251
    go_wp2_with (at_builtin; refine wpList_append_Own rfl (.tmp 5) (.tmp 6) rfl elQ (lo := w.heap.size) rfl (Own.lit0 w _ 4) rfl (Rd.alloc hx _) (cells4_one rs) (by omega) (by simp only [maxLen]; omega) (by simp) ?_; intro A2 c2 w2 ho2 hg2 _)
    go_ret
    have hbb := (Own.lit0 w 133 4).below_of ((Below.refl _ _).alloc (Nat.le_refl _) _) hg2 (by simp)
    simp only [List.nil_append] at ho2
    refine ⟨A2, c2, ?_, ?_, hbb⟩
    · rw [HL.out]; simp
    · rw [HL.out]; simpa using ho2
theorem sizeQ_any (A : Option Addr) (n c : Nat) (w : World) (_h : n ≤ 9223372036854775807) :
    Calls Try.prog 82 #[.slice A n c] w fun e w' => e = .returned (.int .i64 n) ∧ w = w' := by
  go_enter Try.func82, Try.ntmps82
  go_wp2
  go_ret
  exact ⟨rfl, rfl⟩
/-- After k instructions. -/
def redTo (F : Int → Int) (ps : List R4) (k : Nat) : List R4 := (ps.take k).map (redI F) ++ ps.drop k
theorem redTo_len (F : Int → Int) (ps : List R4) (k : Nat) (h : k ≤ ps.length) : (redTo F ps k).length = ps.length := by simp [redTo]; omega
theorem redTo_at {F : Int → Int} {ps : List R4} {k : Nat} {r : R4} (h : ps[k]? = some r) : (redTo F ps k)[k]? = some r := by
  obtain ⟨hk, _⟩ := List.getElem?_eq_some_iff.1 h
  unfold redTo
  rw [List.getElem?_append_right (by simp; omega)]
  simp
  rw [show k + (k - min k ps.length) = k by omega]
  exact h
theorem redTo_next {F : Int → Int} {ps : List R4} {k : Nat} {r : R4} (h : ps[k]? = some r) : (redTo F ps k).set k (redI F r) = redTo F ps (k + 1) := by
  obtain ⟨hk, rfl⟩ := List.getElem?_eq_some_iff.1 h
  unfold redTo
  have e1 : ((ps.take k).map (redI F)).length = k := by simp; omega
  rw [List.set_append_right _ _ (by omega), e1, Nat.sub_self, List.drop_eq_getElem_cons hk, List.take_succ_eq_append_getElem hk, List.map_append]
  simp only [List.set_cons_zero, List.map_cons, List.map_nil, List.append_assoc, List.singleton_append]
theorem redTo_end {F : Int → Int} {ps : List R4} {k : Nat} (h : ps.length ≤ k) : redTo F ps k = ps.map (redI F) := by
  unfold redTo
  rw [List.take_of_length_le h, List.drop_eq_nil_of_le h, List.append_nil]
set_option maxRecDepth 100000 in
set_option maxHeartbeats 4000000 in
theorem redirected_any (P : Option Addr) (k : Nat) (ps : List R4) (f : FuncId) (c1 c2 c3 : Value) (F : Int → Int) (w : World) (hx : S4 w P ps.length ps) (hm : ps.length ≤ 1000) (hcall : ∀ (args : Array Value) (w : World), (callFunc f args).run Try.prog w = .ok (.enter f args) w)
    (hf : Hid (∀ x ∈ ps, ∀ t, t = x.c ∨ t = x.d → ∀ W', Below w.heap.size w W' → Calls Try.prog f #[.int .i64 t, c1, c2, c3] W' fun e w'' => e = .returned (.int .i64 (F t)) ∧ W' = w'')) :
    Calls Try.prog 175 #[.slice P ps.length k, .func (.func f) #[] #[c1, c2, c3]] w (NewQ w (ps.map (redI F))) := by
  go_enter Try.func175, Try.ntmps175
  go_wp2_with fail
  refine (cloneQ_any _ _ _ ps _ hx (by omega)).mono ?_
  rintro e w1 ⟨D, c, rfl, o1, z1⟩
  have HO1 := Lib.hid o1
  have HZ1 := Lib.hid z1
  clear o1 z1 hx
  go_wp2_with fail
  go_loopw [12] (fun i wr => ∃ j : Nat, j ≤ ps.length ∧ i = .int .i64 (j : Int) ∧ Hid (Own wr w.heap.size 133 4 D ps.length c (cells4 (redTo F ps j))) ∧ Hid (Below w.heap.size w wr)) (fun i _ => ps.length - (intOf i).toNat)
  case atStart => exact ⟨0, by omega, rfl, HO1, HZ1⟩
  case round =>
    obtain ⟨j, hj, rfl, HO, HZ⟩ := hrel
    clear HO1 HZ1
    by_cases hlt : j < ps.length
    rotate_left
    · have i1 : ¬ (j : Int) < (ps.length : Int) := by omega
      have HE : Hid (NewQ w (ps.map (redI F)) (.returned (.slice D ps.length c)) wr) := Lib.hid ⟨D, c, by rw [List.length_map], by rw [List.length_map]; have h := HO.out; rw [redTo_end (by omega)] at h; exact h, HZ.out⟩
      go_wp2_with fail
      go_ret
      exact HE.out
    obtain ⟨r, hr⟩ : ∃ r, ps[j]? = some r := ⟨_, List.getElem?_eq_getElem hlt⟩
    have HR := Lib.hid hr
    have hrm : r ∈ ps := List.mem_of_getElem? hr
    have i0 : (0 : Int) ≤ (j : Int) := by omega
    have i1 : (j : Int) < (ps.length : Int) := by omega
    have hl4 : (cells4 (redTo F ps j)).length = ps.length * 4 := by rw [length_cells4, redTo_len _ _ _ hj]
    have hat := redTo_at (F := F) hr
    clear hr
    obtain ⟨g0, g1, g2, g3⟩ := cells4_get _ j r hat
    obtain ⟨b, off, rfl, hb0, hb1, x0, _⟩ := HO.out.at_ (k := j * 4) (by omega)
    obtain ⟨b', off', e1, _, _, x1, _⟩ := HO.out.at_ (k := j * 4 + 1) (by omega)
    simp only [Option.some.injEq, Addr.mk.injEq, and_true] at e1
    obtain ⟨rfl, rfl⟩ := e1
    obtain ⟨b', off', e1, _, _, x2, y2⟩ := HO.out.at_ (k := j * 4 + 2) (by omega)
    simp only [Option.some.injEq, Addr.mk.injEq, and_true] at e1
    obtain ⟨rfl, rfl⟩ := e1
    obtain ⟨b', off', e1, _, _, x3, y3⟩ := HO.out.at_ (k := j * 4 + 3) (by omega)
    simp only [Option.some.injEq, Addr.mk.injEq, and_true] at e1
    obtain ⟨rfl, rfl⟩ := e1
    rw [(List.getElem?_eq_some_iff.1 g0).2] at x0
    rw [(List.getElem?_eq_some_iff.1 g1).2, ← Nat.add_assoc] at x1
    rw [(List.getElem?_eq_some_iff.1 g2).2, ← Nat.add_assoc] at x2
    rw [(List.getElem?_eq_some_iff.1 g3).2, ← Nat.add_assoc] at x3
    rw [← Nat.add_assoc] at y2 y3
    clear g0 g1 g2 g3
    obtain ⟨V, hW_⟩ : ∃ W_, W_ = wr.alloc (.cells #[.int .i64 r.a, .int .i64 r.b, .int .i64 r.c, .int .i64 r.d] 133) := ⟨_, rfl⟩
    have bV : Blk V wr.heap.size 133 #[.int .i64 r.a, .int .i64 r.b, .int .i64 r.c, .int .i64 r.d] := by rw [hW_]; exact Blk.new wr _ _
    have zV : Below wr.heap.size wr V := by rw [hW_]; exact (Below.refl _ _).alloc (Nat.le_refl _) _
    have HV := Lib.hid hW_
    clear hW_
    have HOV := Lib.hid (HO.out.below zV)
    have HZV := Lib.hid (HZ.out.trans (zV.mono HZ.out.size))
    have HBV := Lib.hid bV
    have hbV : b < V.heap.size := by have := bV.lt; omega
    have hbn : ¬ wr.heap.size = b := by omega
    have y2V : V.frozen? ⟨b, off + j * 4 + 2, none⟩ = false := by rw [zV.frozen (p := ⟨b, off + j * 4 + 2, none⟩) hb1]; exact y2
    have y3V : V.frozen? ⟨b, off + j * 4 + 3, none⟩ = false := by rw [zV.frozen (p := ⟨b, off + j * 4 + 3, none⟩) hb1]; exact y3
    have x2V : V.cell? ⟨b, off + j * 4 + 2, none⟩ = some (.int .i64 r.c) := by rw [zV.cell (p := ⟨b, off + j * 4 + 2, none⟩) hb1]; exact x2
    have x3V : V.cell? ⟨b, off + j * 4 + 3, none⟩ = some (.int .i64 r.d) := by rw [zV.cell (p := ⟨b, off + j * 4 + 3, none⟩) hb1]; exact x3
    have u0 : V.cell? ⟨wr.heap.size, 0, none⟩ = some (.int .i64 r.a) := bV.cell 0
    have u1 : V.cell? ⟨wr.heap.size, 1, none⟩ = some (.int .i64 r.b) := bV.cell 1
    have u2 : V.cell? ⟨wr.heap.size, 2, none⟩ = some (.int .i64 r.c) := bV.cell 2
    have u3 : V.cell? ⟨wr.heap.size, 3, none⟩ = some (.int .i64 r.d) := bV.cell 3
    have HC := Lib.hid (hf.out r hrm r.c (.inl rfl) V HZV.out)
    have HD := Lib.hid (fun W' (h : Below w.heap.size w W') => hf.out r hrm r.d (.inr rfl) W' h)
    have HAT := Lib.hid hat
    clear HO HZ zV bV hat y2 y3 hrm
    go_upto_region 5 with fail
    rw [← HV.out]
    clear x0 x1 x2 x3 HV
    go_wp2_with fail
    refine HC.out.mono ?_
    rintro e w2 ⟨rfl, rfl⟩
    go_upto_region 6 with fail
    obtain ⟨V2, hV2⟩ : ∃ V2, V2 = V.setCell ⟨b, off + j * 4 + 2, none⟩ (.int .i64 (F r.c)) := ⟨_, rfl⟩
    have HO2 : Hid (Own V2 w.heap.size 133 4 (some ⟨b, off, none⟩) ps.length c (cells4 ((redTo F ps j).set j { r with c := F r.c }))) := Lib.hid (by
      have h := HOV.out.set_ (k := j * 4 + 2) (by omega) (.int .i64 (F r.c))
      rw [cells4_set_c _ _ _ _ HAT.out, ← Nat.add_assoc] at h
      rw [hV2]; exact h)
    have b2 : Blk V2 wr.heap.size 133 #[.int .i64 r.a, .int .i64 r.b, .int .i64 r.c, .int .i64 r.d] := by rw [hV2]; exact HBV.out.far (p := ⟨b, off + j * 4 + 2, none⟩) hbn _
    have HZ2 : Hid (Below w.heap.size w V2) := Lib.hid (by rw [hV2]; exact HZV.out.setCell (p := ⟨b, off + j * 4 + 2, none⟩) hb0 _)
    have y3W : V2.frozen? ⟨b, off + j * 4 + 3, none⟩ = false := by rw [hV2]; simpa using y3V
    have x3W : V2.cell? ⟨b, off + j * 4 + 3, none⟩ = some (.int .i64 r.d) := by rw [hV2]; exact (World.cell?_setCell_other V ⟨b, off + j * 4 + 2, none⟩ ⟨b, off + j * 4 + 3, none⟩ _ (by intro h; simp only [Addr.mk.injEq] at h; omega)).trans x3V
    rw [← hV2]
    clear hV2 u0 u1 u2 u3 y2V y3V x2V x3V HOV HZV HBV
    have u0 : V2.cell? ⟨wr.heap.size, 0, none⟩ = some (.int .i64 r.a) := b2.cell 0
    have u1 : V2.cell? ⟨wr.heap.size, 1, none⟩ = some (.int .i64 r.b) := b2.cell 1
    have u2 : V2.cell? ⟨wr.heap.size, 2, none⟩ = some (.int .i64 r.c) := b2.cell 2
    have u3 : V2.cell? ⟨wr.heap.size, 3, none⟩ = some (.int .i64 r.d) := b2.cell 3
    by_cases ha : r.a = 1
    · have a1 : (r.a == 1) = true := by rw [ha]; rfl
      have HC2 := Lib.hid (HD.out V2 HZ2.out)
      have HNX : Hid ((((redTo F ps j).set j { r with c := F r.c }).set j { ({ r with c := F r.c } : R4) with d := F r.d }) = redTo F ps (j + 1)) := Lib.hid (by
        rw [← redTo_next HR.out, List.set_set]
        unfold redI; rw [if_pos ha])
      have HA2 : Hid (((redTo F ps j).set j { r with c := F r.c })[j]? = some { r with c := F r.c }) := Lib.hid (by
        rw [List.getElem?_set_self (by rw [redTo_len _ _ _ hj]; exact hlt)])
      clear ha
      go_wp2_with fail
      refine HC2.out.mono ?_
      rintro e w3 ⟨rfl, rfl⟩
      go_wp2_with fail
      have HO3 : Hid (Own (V2.setCell ⟨b, off + j * 4 + 3, none⟩ (.int .i64 (F r.d))) w.heap.size 133 4 (some ⟨b, off, none⟩) ps.length c (cells4 (redTo F ps (j + 1)))) := Lib.hid (by
        have h := HO2.out.set_ (k := j * 4 + 3) (by rw [length_cells4, List.length_set, redTo_len _ _ _ hj]; omega) (.int .i64 (F r.d))
        rw [cells4_set_d _ _ _ _ HA2.out, ← Nat.add_assoc, HNX.out] at h
        exact h)
      have HZ3 : Hid (Below w.heap.size w (V2.setCell ⟨b, off + j * 4 + 3, none⟩ (.int .i64 (F r.d)))) := Lib.hid (HZ2.out.setCell (p := ⟨b, off + j * 4 + 3, none⟩) hb0 _)
      go_roundw
      case rel => exact ⟨j + 1, by omega, by go_num, HO3, HZ3⟩
      case measure => simp [intOf]; omega
    · have a1 : (r.a == 1) = false := by simpa using ha
      have HNX : Hid ((redTo F ps j).set j { r with c := F r.c } = redTo F ps (j + 1)) := Lib.hid (by
        rw [← redTo_next HR.out]
        unfold redI; rw [if_neg ha])
      rw [HNX.out] at HO2
      clear ha
      go_wp2_with fail
      go_roundw
      case rel => exact ⟨j + 1, by omega, by go_num, HO2, HZ2⟩
      case measure => simp [intOf]; omega
set_option maxHeartbeats 1000000 in
theorem part1_any (b1 b2 b3 : Nat) (P : Option Addr) (m k : Nat) (halt at_ t : Int) (w : World) (h1 : w.cell? ⟨b1, 0, none⟩ = some (.slice P m k)) (h2 : w.cell? ⟨b2, 0, none⟩ = some (.int .i64 halt)) (h3 : w.cell? ⟨b3, 0, none⟩ = some (.int .i64 at_))
    (hm : m ≤ 1000) (t0 : -1000 ≤ t) (t1 : t ≤ 1000) (a0 : -1000 ≤ at_) (a1 : at_ ≤ 1000) :
    Calls Try.prog 176 #[.int .i64 t, .pointer (some ⟨b1, 0, none⟩), .pointer (some ⟨b2, 0, none⟩), .pointer (some ⟨b3, 0, none⟩)] w fun e w' => e = .returned (.int .i64 (toF (m : Int) at_ halt t)) ∧ w = w' := by
  by_cases ht : t = (m : Int)
  · have HT : Hid (toF (m : Int) at_ halt t = halt) := Lib.hid (by unfold toF; rw [if_pos ht])
    have q : (t == (m : Int)) = true := by rw [ht]; simp
    clear ht
    go_enter Try.func176, Try.ntmps176
    go_wp2_with (go_at_call 82; refine (sizeQ_any _ _ _ _ (by omega)).mono ?_; rintro e w' ⟨rfl, rfl⟩)
    go_ret
    exact ⟨ret_int HT.out.symm, rfl⟩
  · have HT : Hid (toF (m : Int) at_ halt t = t + at_) := Lib.hid (by unfold toF; rw [if_neg ht])
    have q : (t == (m : Int)) = false := by simpa using ht
    clear ht
    go_enter Try.func176, Try.ntmps176
    go_wp2_with (go_at_call 82; refine (sizeQ_any _ _ _ _ (by omega)).mono ?_; rintro e w' ⟨rfl, rfl⟩)
    go_ret
    exact ⟨ret_int HT.out.symm, rfl⟩
end Go.Proofs.Ytdlojbabnelbdaa

/-
  Contract of spec.l07Shift.
-/
namespace Go.Proofs.Ytdlojbabnelbdaa
open Go.RowKit

set_option maxRecDepth 100000 in
set_option maxHeartbeats 4000000 in
theorem l07Shift_any (P : Option Addr) (k : Nat) (ps : List R4) (at_ halt : Int) (w : World) (hx : S4 w P ps.length ps) (hm : ps.length ≤ 400) (hv : ∀ x ∈ ps, (x.a = 0 ∨ x.a = 1) ∧ 0 ≤ x.c ∧ x.c ≤ 400 ∧ 0 ≤ x.d ∧ x.d ≤ 400) (a0 : 0 ≤ at_) (a1 : at_ ≤ 1000) :
    Calls Try.prog 250 #[.slice P ps.length k, .int .i64 at_, .int .i64 halt] w (NewQ w (partP ps at_ halt)) := by
  have HVS := Lib.hid hv
  have HX := Lib.hid hx
  clear hv hx
  go_enter Try.func250, Try.ntmps250
  go_wp2_with (at_builtin; refine wpList_append_Own rfl (.tmp 10) (.tmp 11) rfl elQ (lo := w.heap.size) rfl (Own.lit0 w _ 4) rfl (Rd.alloc HX.out _) (cells4_one ps) (by omega) (by simp only [maxLen]; omega) (by simp) ?_; intro D c w1 o1 hg1 _; have z1 := (Own.lit0 w 133 4).below_of ((Below.refl _ _).alloc (Nat.le_refl _) _) hg1 (by simp))
  simp only [List.nil_append, Nat.zero_add] at o1
  have HO1 := Lib.hid o1
  have HZ1 := Lib.hid z1
  clear o1 z1 hg1
  go_loopw [9] (fun i wr => ∃ j : Nat, j ≤ ps.length ∧ i = .int .i64 (j : Int) ∧ Hid (Own wr w.heap.size 133 4 D ps.length c (cells4 (redTo (toF (ps.length : Int) at_ halt) ps j))) ∧ Hid (Below w.heap.size w wr)) (fun i _ => ps.length - (intOf i).toNat)
  case atStart => exact ⟨0, by omega, by go_num, HO1, HZ1⟩
  case round =>
    obtain ⟨j, hj, rfl, HO, HZ⟩ := hrel
    clear HO1 HZ1
    by_cases hlt : j < ps.length
    rotate_left
    · have i1 : ¬ (j : Int) < (ps.length : Int) := by omega
      have HE : Hid (NewQ w (partP ps at_ halt) (.returned (.slice D ps.length c)) wr) := Lib.hid ⟨D, c, by rw [partP_len], by rw [partP_len]; have h := HO.out; rw [redTo_end (by omega)] at h; exact h, HZ.out⟩
      go_wp2_with fail
      go_ret
      exact HE.out
    have i0 : (0 : Int) ≤ (j : Int) := by omega
    have i1 : (j : Int) < (ps.length : Int) := by omega
    obtain ⟨r, pb, po, HR, hrm, rfl, hpb, y0, y1, y2, y3⟩ := HX.out.pick hlt
    have HVR := Lib.hid (HVS.out r hrm)
    have HB := Lib.hid (fun (W : World) (h : Below w.heap.size w W) (o : Nat) => h.cell (p := ⟨pb, o, none⟩) hpb)
    have p0 := (HB.out wr HZ.out _).trans y0
    have p2 := (HB.out wr HZ.out _).trans y2
    have hl4 : (cells4 (redTo (toF (ps.length : Int) at_ halt) ps j)).length = ps.length * 4 := by rw [length_cells4, redTo_len _ _ _ hj]
    have HAT := Lib.hid (redTo_at (F := toF (ps.length : Int) at_ halt) HR.out)
    obtain ⟨b, off, rfl, hb0, hb1, x2, z2⟩ := HO.out.at_ (k := j * 4 + 2) (by omega)
    obtain ⟨b', off', e1, _, _, x3, z3⟩ := HO.out.at_ (k := j * 4 + 3) (by omega)
    simp only [Option.some.injEq, Addr.mk.injEq, and_true] at e1
    obtain ⟨rfl, rfl⟩ := e1
    rw [← Nat.add_assoc] at x2 z2 x3 z3
    have hbp : ¬ b = pb := by omega
    have HV2 : Hid (∀ x : Int, x = toF (ps.length : Int) at_ halt r.c → Own (wr.setCell ⟨b, off + j * 4 + 2, none⟩ (.int .i64 x)) w.heap.size 133 4 (some ⟨b, off, none⟩) ps.length c (cells4 ((redTo (toF (ps.length : Int) at_ halt) ps j).set j { r with c := x })) ∧ Below w.heap.size w (wr.setCell ⟨b, off + j * 4 + 2, none⟩ (.int .i64 x))) := Lib.hid (fun x _ => by
      have h := HO.out.set_ (k := j * 4 + 2) (by omega) (.int .i64 x)
      rw [cells4_set_c _ _ _ _ HAT.out, ← Nat.add_assoc] at h
      exact ⟨h, HZ.out.setCell (p := ⟨b, off + j * 4 + 2, none⟩) hb0 _⟩)
    have hrv := HVR.out
    have e4 : IntKind.i64.wrap (r.c + at_) = r.c + at_ := IntWalk.i64_in _ (by omega)
    have e5 : IntKind.i64.wrap (r.d + at_) = r.d + at_ := IntWalk.i64_in _ (by omega)
    have x2e : ∃ u, wr.cell? ⟨b, off + j * 4 + 2, none⟩ = some u := ⟨_, x2⟩
    clear x2
    obtain ⟨u2, x2⟩ := x2e
    have y3W : ∀ x : Int, (wr.setCell ⟨b, off + j * 4 + 2, none⟩ (.int .i64 x)).frozen? ⟨b, off + j * 4 + 3, none⟩ = false := fun x => by simpa using z3
    have HY3 := Lib.hid y3W
    have HX3 : Hid (∀ x : Int, ∃ u, (wr.setCell ⟨b, off + j * 4 + 2, none⟩ (.int .i64 x)).cell? ⟨b, off + j * 4 + 3, none⟩ = some u) := Lib.hid (fun x => ⟨_, (World.cell?_setCell_other wr ⟨b, off + j * 4 + 2, none⟩ ⟨b, off + j * 4 + 3, none⟩ _ (by intro h; simp only [Addr.mk.injEq] at h; omega)).trans x3⟩)
    have HY0 := Lib.hid y0
    have HY3' := Lib.hid y3
    clear y3W y0 y2 y3 y1 hl4 x3 z3 HO hrm hrv hpb
    obtain ⟨V2, hV2, HF2⟩ : ∃ V2 : World, V2 = wr.setCell ⟨b, off + j * 4 + 2, none⟩ (.int .i64 (toF (ps.length : Int) at_ halt r.c)) ∧ Hid True := ⟨_, rfl, Lib.hid trivial⟩
    have HW2 := Lib.hid hV2
    have HO2 := Lib.hid (HV2.out _ rfl).1
    have HZ2 := Lib.hid (HV2.out _ rfl).2
    have f3 := HY3.out (toF (ps.length : Int) at_ halt r.c)
    obtain ⟨u3, x3⟩ := HX3.out (toF (ps.length : Int) at_ halt r.c)
    rw [← hV2] at HO2 HZ2 f3 x3
    clear hV2 HF2 HV2 HY3 HX3
    have q0 := (HB.out V2 HZ2.out _).trans HY0.out
    have q3 := (HB.out V2 HZ2.out _).trans HY3'.out
    have HA2 : Hid (((redTo (toF (ps.length : Int) at_ halt) ps j).set j { r with c := toF (ps.length : Int) at_ halt r.c })[j]? = some { r with c := toF (ps.length : Int) at_ halt r.c }) := Lib.hid (by
      rw [List.getElem?_set_self (by rw [redTo_len _ _ _ hj]; exact hlt)])
    have HD : Hid (∀ x : Int, r.a = 1 → x = toF (ps.length : Int) at_ halt r.d → Own (V2.setCell ⟨b, off + j * 4 + 3, none⟩ (.int .i64 x)) w.heap.size 133 4 (some ⟨b, off, none⟩) ps.length c (cells4 (redTo (toF (ps.length : Int) at_ halt) ps (j + 1))) ∧ Below w.heap.size w (V2.setCell ⟨b, off + j * 4 + 3, none⟩ (.int .i64 x))) := Lib.hid (fun x ha hxe => by
      subst hxe
      have h := HO2.out.set_ (k := j * 4 + 3) (by rw [length_cells4, List.length_set, redTo_len _ _ _ hj]; omega) (.int .i64 (toF (ps.length : Int) at_ halt r.d))
      rw [cells4_set_d _ _ _ _ HA2.out, ← Nat.add_assoc, List.set_set] at h
      refine ⟨?_, HZ2.out.setCell (p := ⟨b, off + j * 4 + 3, none⟩) hb0 _⟩
      rw [← redTo_next HR.out]
      unfold redI; rw [if_pos ha]; exact h)
    have HI : Hid (r.a = 0 → Own V2 w.heap.size 133 4 (some ⟨b, off, none⟩) ps.length c (cells4 (redTo (toF (ps.length : Int) at_ halt) ps (j + 1)))) := Lib.hid (fun ha => by
      have h := HO2.out
      rw [← redTo_next HR.out]
      unfold redI; rw [if_neg (by omega)]; exact h)
    clear HO2
    by_cases hc : r.c = (ps.length : Int)
    case' pos =>
      have c1 : (r.c == (ps.length : Int)) = true := by rw [hc]; simp
      have HQ : Hid (toF (ps.length : Int) at_ halt r.c = halt) := Lib.hid (by unfold toF; rw [if_pos hc])
      clear hc q0 q3
      go_upto_region 9 with fail
      have hw := HW2.out
      rw [HQ.out] at hw
      rw [← hw]
      clear hw HQ c1
    case' neg =>
      have c1 : (r.c == (ps.length : Int)) = false := by simpa using hc
      have HQ : Hid (toF (ps.length : Int) at_ halt r.c = r.c + at_) := Lib.hid (by unfold toF; rw [if_neg hc])
      clear hc q0 q3
      go_upto_region 9 with fail
      have hw := HW2.out
      rw [HQ.out] at hw
      rw [← hw]
      clear hw HQ c1
    all_goals
      clear HW2 p0 p2 x2 z2
      have q0 := (HB.out V2 HZ2.out _).trans HY0.out
      have q3 := (HB.out V2 HZ2.out _).trans HY3'.out
      by_cases ha : r.a = 0
      · have a2 : (r.a == 0) = true := by rw [ha]; rfl
        have HE := Lib.hid (HI.out ha)
        clear ha
        go_wp2_with fail
        go_roundw
        case rel => exact ⟨j + 1, by omega, by go_num, HE, HZ2⟩
        case measure => simp [intOf]; omega
      · have a2 : (r.a == 0) = false := by simpa using ha
        have ha1 : r.a = 1 := by rcases HVR.out.1 with h | h; exact absurd h ha; exact h
        have HE := Lib.hid (fun x h => HD.out x ha1 h)
        clear ha ha1
        by_cases hd : r.d = (ps.length : Int)
        · have c2 : (r.d == (ps.length : Int)) = true := by rw [hd]; simp
          have HQ := Lib.hid (HE.out halt (by unfold toF; rw [if_pos hd]))
          clear hd
          go_wp2_with fail
          go_roundw
          case rel => exact ⟨j + 1, by omega, by go_num, Lib.hid HQ.out.1, Lib.hid HQ.out.2⟩
          case measure => simp [intOf]; omega
        · have c2 : (r.d == (ps.length : Int)) = false := by simpa using hd
          have HQ := Lib.hid (HE.out (r.d + at_) (by unfold toF; rw [if_neg hd]))
          clear hd
          go_wp2_with fail
          go_roundw
          case rel => exact ⟨j + 1, by omega, by go_num, Lib.hid HQ.out.1, Lib.hid HQ.out.2⟩
          case measure => simp [intOf]; omega
end Go.Proofs.Ytdlojbabnelbdaa
