/-
  All operations that are left of a region, in any order: one walk for each of them.
-/
import Derived.Test.YtfheepjfpgiaoaaBatch
namespace Go.Proofs.Ytfheepjfpgiaoaa
open Go.RowKit

section
variable {P : Program} {ops : Array Oper} {Q : Exit → Act → World → Prop} {md : Region.Mode} {S : World → Prop}

/-- All that is left of the region is in the batch; each operation waits for those that it needs. -/
def allOk (md : Region.Mode) (ops : Array Oper) (bs : List BOp) (listed : Array Bool) : Bool :=
  let is := bs.map (·.i)
  listed.size == ops.size && (is.all fun i => listed.getD i true == false) &&
  (bs.all fun b => match ops[b.i]? with
    | none => false
    | some o => o.guard.isNone && o.dst.isSome && b.needs.all is.contains && (b.needs.all fun j => o.after.toList.any fun e => e.on == j && Region.binds md e) && (o.after.toList.all fun e => !Region.binds md e || decide (e.on < b.i)) && bs.all fun c => (b.i == c.i || dstAt ops b.i != dstAt ops c.i) && (match dstAt ops c.i with
      | some d => !(o.looksAt ops).contains d || b.needs.contains c.i
      | none => false)) &&
  (List.range ops.size).all fun i => is.contains i || listed.getD i false
theorem markAll_size : ∀ (is : List Nat) (l : Array Bool), (markAll is l).size = l.size
  | [], _ => rfl
  | i :: is, l => by rw [markAll, markAll_size is]; simp
theorem markAll_not (d : Bool) : ∀ {is : List Nat} {l : Array Bool} {i : Nat}, i ∉ is → (markAll is l).getD i d = l.getD i d
  | [], _, _, _ => rfl
  | j :: is, l, i, h => by
    rw [markAll, markAll_not d (fun hi => h (List.mem_cons_of_mem _ hi)), getD_set_ne d (fun e => h (by rw [e]; exact List.mem_cons_self))]
theorem getD_true_of {l : Array Bool} {i : Nat} (h : l.getD i false = true) : l.getD i true = true := by
  by_cases hi : i < l.size
  · simp [hi] at h ⊢; exact h
  · simp [hi]
theorem getD_false_of {l : Array Bool} {i : Nat} (h : l.getD i true = false) : l.getD i false = false := by
  by_cases hi : i < l.size
  · simp [hi] at h ⊢; exact h
  · simp [hi]
theorem getD_in {l : Array Bool} {i : Nat} (h : i < l.size) (d e : Bool) : l.getD i d = l.getD i e := by simp [h]
theorem exists_least : ∀ (l : List Nat), l ≠ [] → ∃ i ∈ l, ∀ j ∈ l, i ≤ j
  | [], h => absurd rfl h
  | [a], _ => ⟨a, by simp, by simp⟩
  | a :: b :: l, _ => by
    obtain ⟨i, hi, hm⟩ := exists_least (b :: l) (by simp)
    by_cases h : a ≤ i
    · refine ⟨a, by simp, fun j hj => ?_⟩
      rcases List.mem_cons.1 hj with rfl | hj
      · exact Nat.le_refl _
      · exact Nat.le_trans h (hm j hj)
    · refine ⟨i, List.mem_cons_of_mem _ hi, fun j hj => ?_⟩
      rcases List.mem_cons.1 hj with rfl | hj
      · omega
      · exact hm j hj
theorem wpAnyH_all (bs : List BOp) {n : Nat} (hbn : bs.length = n) {is : List Nat} (his : is = bs.map (·.i)) {fuel : Nat} {listed : Array Bool} {a : Act} {w : World} (hok : allOk md ops bs listed = true) (hnd : is.Nodup) (hsel : Region.noSelect ops = true)
    (hQ : ∀ c a a' w, Q (.panic c) a w → Q (.panic c) a' w) (hS : ∀ w', Below w.heap.size w w' → S w') (hst : ∀ b ∈ bs, BStay b) (hop : ∀ b ∈ bs, BStep P ops Q S bs a w b)
    (hend : ∀ vs l h w', Below w.heap.size w w' → Through w bs vs l h w' → Spread is l h → wpAnyH P md ops Q S fuel (markAll is listed) (putAll ops vs is a) w') :
    wpAnyH P md ops Q S (fuel + n) listed a w := by
  subst hbn
  unfold allOk at hok
  rw [← his] at hok
  simp only [Bool.and_eq_true] at hok
  obtain ⟨⟨⟨hsz, hul⟩, hok1⟩, hoth⟩ := hok
  have hsz' : listed.size = ops.size := by simpa using hsz
  have hlen : is.length = bs.length := by rw [his]; simp
  have hmem : ∀ i ∈ is, ∃ b ∈ bs, b.i = i := fun i hi => by rw [his] at hi; exact List.mem_map.1 hi
  have hat : ∀ b ∈ bs, ∃ o, ops[b.i]? = some o ∧ o.guard = none ∧ (∀ i ∈ b.needs, i ∈ is) ∧ (∀ c ∈ bs, b.i ≠ c.i → dstAt ops b.i ≠ dstAt ops c.i) ∧ (∀ c ∈ bs, ∃ d, dstAt ops c.i = some d ∧ (d ∈ o.looksAt ops → c.i ∈ b.needs)) ∧
      (∀ j ∈ b.needs, ∃ e ∈ o.after, e.on = j ∧ Region.binds md e = true) ∧ (∀ e ∈ o.after, Region.binds md e = true → e.on < b.i) := by
    intro b hb
    have h1 := List.all_eq_true.1 hok1 b hb
    cases ho : ops[b.i]? with
    | none => rw [ho] at h1; cases h1
    | some o =>
      rw [ho] at h1
      simp only [Bool.and_eq_true, List.all_eq_true] at h1
      obtain ⟨⟨⟨⟨⟨h2, h3⟩, h4⟩, h6⟩, h7⟩, h5⟩ := h1
      refine ⟨o, rfl, by simpa using h2, fun i hi => by simpa using h4 i hi, fun c hc hne => ?_, fun c hc => ?_, fun j hj => ?_, fun e he hbd => ?_⟩
      · have h6 := (h5 c hc).1
        simp only [Bool.or_eq_true, beq_iff_eq, bne_iff_ne] at h6
        exact h6.resolve_left hne
      · have h6 := (h5 c hc).2
        cases hd : dstAt ops c.i with
        | none => rw [hd] at h6; cases h6
        | some d =>
          rw [hd] at h6
          refine ⟨d, rfl, fun hl => ?_⟩
          simp only [Bool.or_eq_true, Bool.not_eq_true', List.contains_eq_mem, decide_eq_true_eq, decide_eq_false_iff_not] at h6
          exact h6.resolve_left (fun h => h hl)
      · have h8 := h6 j hj
        rw [List.any_eq_true] at h8
        obtain ⟨e, he, h9⟩ := h8
        simp only [Bool.and_eq_true, beq_iff_eq] at h9
        exact ⟨e, by simpa using he, h9.1, h9.2⟩
      · have h8 := h7 e (by simpa using he)
        rw [hbd] at h8
        simpa using h8
  have hdst : ∀ i ∈ is, ∀ j ∈ is, i ≠ j → ∀ d, dstAt ops i = some d → dstAt ops j ≠ some d := by
    intro i hi j hj hne d hd hd2
    obtain ⟨b, hb, rfl⟩ := hmem i hi
    obtain ⟨c, hc, rfl⟩ := hmem j hj
    obtain ⟨o, _, _, _, h4, _, _, _⟩ := hat b hb
    exact h4 c hc hne (hd.trans hd2.symm)
  suffices H : ∀ (n : Nat) (ds rs : List Nat) (vs : Nat → Value) (l h : Nat → Nat) (w1 : World), (ds ++ rs).Perm is → rs.length = n → (∀ b ∈ bs, b.i ∈ ds → ∀ j ∈ b.needs, j ∈ ds) → Below w.heap.size w w1 →
      (∀ b ∈ bs, b.i ∈ ds → w.heap.size ≤ l b.i ∧ l b.i ≤ h b.i ∧ h b.i ≤ w1.heap.size ∧ b.Rel ((b.i :: b.needs).map vs) (l b.i) (h b.i) w1) → Spread ds l h → wpAnyH P md ops Q S (fuel + n) (markAll ds listed) (putAll ops vs ds a) w1 by
    have := H is.length [] is (fun _ => undef) (fun _ => 0) (fun _ => 0) w (List.Perm.refl _) rfl (fun _ _ h => absurd h List.not_mem_nil) (Below.refl _ _) (fun _ _ h => absurd h List.not_mem_nil) (fun _ h => absurd h List.not_mem_nil)
    rw [← hlen]; exact this
  intro n
  induction n with
  | zero =>
    intro ds rs vs l h w1 hpp hl _ hz hth hsp
    have hp : ds.Perm is := by
      rw [List.eq_nil_of_length_eq_zero hl, List.append_nil] at hpp
      exact hpp
    have hsub : ∀ i ∈ ds, i ∈ is := fun i hi => hp.mem_iff.1 hi
    rw [markAll_perm hp, putAll_perm vs hp fun i hi j hj => hdst i (hsub i hi) j (hsub j hj)]
    exact hend vs l h w1 hz (fun b hb => hth b hb (hp.mem_iff.2 (by rw [his]; exact List.mem_map.2 ⟨b, hb, rfl⟩))) (fun i hi j hj => hsp i (hp.mem_iff.2 hi) j (hp.mem_iff.2 hj))
  | succ n ih =>
    intro ds rs vs l h w1 hpp hl hns hz hth hsp
    have hsub : ∀ i ∈ ds, i ∈ is := fun i hi => hpp.mem_iff.1 (List.mem_append_left _ hi)
    have hll : ds.length + rs.length = is.length := by rw [← hpp.length_eq, List.length_append]
    have hunl : ∀ i ∈ is, listed.getD i true = false := fun i hi => by simpa using List.all_eq_true.1 hul i hi
    have hr : ∀ i ∈ Region.ready md ops (markAll ds listed), i ∈ is ∧ ∀ b ∈ bs, b.i = i → ∀ j ∈ b.needs, j ∈ ds := by
      intro i hi
      obtain ⟨h1, o, ho, h2⟩ := mem_ready.1 hi
      have hlt : i < ops.size := (Array.getElem?_eq_some_iff.1 ho).1
      have hii : i ∈ is := by
        have h3 := List.all_eq_true.1 hoth i (List.mem_range.2 hlt)
        simp only [Bool.or_eq_true, List.contains_eq_mem, decide_eq_true_eq] at h3
        rcases h3 with h3 | h3
        · exact h3
        · rw [markAll_true ds listed i (.inr (getD_true_of h3))] at h1; cases h1
      refine ⟨hii, fun b hb hbi j hj => ?_⟩
      obtain ⟨o', ho', _, hnb, _, _, hed, _⟩ := hat b hb
      rw [hbi] at ho'
      obtain rfl : o = o' := by rw [ho] at ho'; exact Option.some.inj ho'
      obtain ⟨e, he, rfl, hbd⟩ := hed j hj
      refine Classical.byContradiction fun hnd => ?_
      have h3 := h2 e he hbd
      rw [markAll_not false hnd, getD_false_of (hunl _ (hnb _ hj))] at h3
      cases h3
    have hne : Region.ready md ops (markAll ds listed) ≠ [] := by
      obtain ⟨i, hi, hmin⟩ := exists_least rs (by intro h0; rw [h0] at hl; cases hl)
      have hii : i ∈ is := hpp.mem_iff.1 (List.mem_append_right _ hi)
      have hdisj : ∀ j ∈ rs, j ∉ ds := fun j hj hjd => (List.nodup_append.1 (hpp.nodup_iff.2 hnd)).2.2 j hjd j hj rfl
      obtain ⟨b, hb, rfl⟩ := hmem i hii
      obtain ⟨o, ho, _, _, _, _, _, hlow⟩ := hat b hb
      have hlt : b.i < ops.size := (Array.getElem?_eq_some_iff.1 ho).1
      have : b.i ∈ Region.ready md ops (markAll ds listed) := by
        refine mem_ready.2 ⟨by rw [markAll_not true (hdisj _ hi)]; exact hunl _ hii, o, ho, fun e he hbd => ?_⟩
        have h1 := hlow e he hbd
        have h2 := List.all_eq_true.1 hoth e.on (List.mem_range.2 (by omega))
        simp only [Bool.or_eq_true, List.contains_eq_mem, decide_eq_true_eq] at h2
        have h4 : (markAll ds listed).getD e.on true = true := by
          rcases h2 with h2 | h2
          · rcases List.mem_append.1 (hpp.mem_iff.2 h2) with h3 | h3
            · exact markAll_true ds listed e.on (.inl h3)
            · have := hmin e.on h3; omega
          · exact markAll_true ds listed e.on (.inr (getD_true_of h2))
        rw [getD_in (by rw [markAll_size]; omega) false true]; exact h4
      intro h0; rw [h0] at this; cases this
    rw [show fuel + (n + 1) = (fuel + n) + 1 from rfl]
    have hev : ∀ b ∈ bs, (∀ j ∈ b.needs, j ∈ ds) → ∀ o, ops[b.i]? = some o → execOp (putAll ops vs ds a).eval o = execOp (putAll ops vs b.needs a).eval o := by
      intro b hb hnds o ho
      obtain ⟨o', ho', hg, hnb, hdd, hlk, _, _⟩ := hat b hb
      obtain rfl : o = o' := by rw [ho] at ho'; exact Option.some.inj ho'
      refine execOp_congr o (Region.noSelect_spec hsel b.i o · · ho) fun x hx => ?_
      by_cases hxx : ∃ c ∈ bs, ∃ d, dstAt ops c.i = some d ∧ x = .tmp d
      · obtain ⟨c, hcb, d, hcd, rfl⟩ := hxx
        have hcis : c.i ∈ is := by rw [his]; exact List.mem_map.2 ⟨c, hcb, rfl⟩
        obtain ⟨d', hd', hin⟩ := hlk c hcb
        obtain rfl : d = d' := by rw [hcd] at hd'; exact Option.some.inj hd'
        have hcn : c.i ∈ b.needs := hin (List.mem_append_left _ (List.mem_filterMap.2 ⟨.tmp d, by simpa using hx, rfl⟩))
        have uniq : ∀ j ∈ is, dstAt ops j = some d → j = c.i := fun j hj hjd => Classical.byContradiction fun hne => hdst j hj c.i hcis hne d hjd hcd
        rw [putAll_eval_at vs hcd ds a a rfl (fun j hj => uniq j (hsub j hj)) (hnds _ hcn), putAll_eval_at vs hcd b.needs a a rfl (fun j hj => uniq j (hnb j hj)) hcn]
      · have hno : ∀ j ∈ is, ∀ d, dstAt ops j = some d → x ≠ .tmp d := fun j hj d hjd hxd => by
          obtain ⟨c, hcb, rfl⟩ := hmem j hj
          exact hxx ⟨c, hcb, d, hjd, hxd⟩
        rw [putAll_eval_ne vs ds a (fun j hj => hno j (hsub j hj)), putAll_eval_ne vs b.needs a (fun j hj => hno j (hnb j hj))]
    have step : ∀ b ∈ bs, b.i ∉ ds → (∀ j ∈ b.needs, j ∈ ds) → ∀ o, ops[b.i]? = some o → ∀ v w2, Below w1.heap.size w1 w2 → b.Rel (v :: b.needs.map vs) w1.heap.size w2.heap.size w2 → wpAnyH P md ops Q S (fuel + n) ((markAll ds listed).setIfInBounds b.i true) ((putAll ops vs ds a).put o.dst v) w2 := by
      intro b hb hnd2 hnds o ho v w2 hz2 hrel
      have hib : b.i ∈ is := by rw [his]; exact List.mem_map.2 ⟨b, hb, rfl⟩
      have hz3 : Below w.heap.size w w2 := hz.trans (hz2.mono hz.size)
      have hne : ∀ j ∈ ds, j ≠ b.i := fun j hj e => hnd2 (e ▸ hj)
      have hdo : o.dst = dstAt ops b.i := by unfold dstAt; rw [ho]; rfl
      have hvs : ∀ j ∈ ds, vs j = (fun k => if k = b.i then v else vs k) j := fun j hj => by simp [hne j hj]
      have hput : (putAll ops vs ds a).put o.dst v = putAll ops (fun k => if k = b.i then v else vs k) (ds ++ [b.i]) a := by
        rw [putAll_snoc, ← putAll_congr ds a hvs, hdo]
        simp
      rw [hput, ← markAll_snoc]
      have hsz := hz2.size
      have hir : b.i ∈ rs := (List.mem_append.1 (hpp.mem_iff.2 hib)).resolve_left hnd2
      have hpn : ((ds ++ [b.i]) ++ rs.erase b.i).Perm is := by
        rw [List.append_assoc]
        exact ((List.perm_cons_erase hir).symm.append_left ds).trans hpp
      refine ih (ds ++ [b.i]) (rs.erase b.i) _ (fun k => if k = b.i then w1.heap.size else l k) (fun k => if k = b.i then w2.heap.size else h k) w2 hpn ?_ ?_ hz3 ?_ ?_
      · rw [List.length_erase_of_mem hir]; omega
      · intro c hc hci j hj
        rcases List.mem_append.1 hci with hci | hci
        · exact List.mem_append_left _ (hns c hc hci j hj)
        · have e := List.mem_singleton.1 hci
          have hcb : c.needs = b.needs := by
            have : c = b := by
              have hnd' := hnd
              rw [his] at hnd'
              exact map_inj hnd' hc hb e
            rw [this]
          rw [hcb] at hj
          exact List.mem_append_left _ (hnds j hj)
      · intro c hc hci
        by_cases e : c.i = b.i
        · have hcb : c = b := by
            have hnd' := hnd
            rw [his] at hnd'
            exact map_inj hnd' hc hb e
          subst hcb
          simp only [if_true]
          refine ⟨hz.size, hsz, Nat.le_refl _, ?_⟩
          have : List.map (fun k => if k = c.i then v else vs k) (c.i :: c.needs) = v :: c.needs.map vs := by
            rw [List.map_cons, if_pos rfl]
            congr 1
            exact List.map_congr_left fun j hj => if_neg (hne j (hnds j hj))
          rw [this]
          exact hrel
        · have hci' : c.i ∈ ds := (List.mem_append.1 hci).resolve_right fun h => e (List.mem_singleton.1 h)
          obtain ⟨q1, q2, q3, q4⟩ := hth c hc hci'
          simp only [if_neg e]
          refine ⟨q1, q2, Nat.le_trans q3 hsz, ?_⟩
          have : List.map (fun k => if k = b.i then v else vs k) (c.i :: c.needs) = (c.i :: c.needs).map vs := by
            refine List.map_congr_left fun j hj => if_neg ?_
            rcases List.mem_cons.1 hj with rfl | hj
            · exact e
            · exact hne j (hns c hc hci' j hj)
          rw [this]
          exact hst c hc _ _ _ _ _ q4 q3 hz2
      · have hhi : ∀ j ∈ ds, h j ≤ w1.heap.size := fun j hj => by
          obtain ⟨c, hc, rfl⟩ := hmem j (hsub j hj)
          exact (hth c hc hj).2.2.1
        intro j hj k hk hjk
        rcases List.mem_append.1 hj with hj | hj <;> rcases List.mem_append.1 hk with hk | hk
        · have e1 := hne j hj
          have e2 := hne k hk
          simp only [if_neg e1, if_neg e2]
          exact hsp j hj k hk hjk
        · have e1 := hne j hj
          rw [List.mem_singleton.1 hk]
          simp only [if_neg e1, if_true]
          exact .inl (hhi j hj)
        · have e1 := hne k hk
          rw [List.mem_singleton.1 hj]
          simp only [if_neg e1, if_true]
          exact .inr (hhi k hk)
        · exact absurd ((List.mem_singleton.1 hj).trans (List.mem_singleton.1 hk).symm) hjk
    refine ⟨fun h0 => absurd h0 hne, fun i hi => ?_⟩
    have hri := hr i hi
    have hib : i ∈ is := hri.1
    have hnd2 : i ∉ ds := fun hin => by
      have h1 := (mem_ready.1 hi).1
      rw [markAll_true ds listed i (.inl hin)] at h1
      cases h1
    obtain ⟨b, hb, rfl⟩ := hmem i hib
    have hnds : ∀ j ∈ b.needs, j ∈ ds := hri.2 b hb rfl
    obtain ⟨o, ho, hg, hnb, hdd, hlk, _, _⟩ := hat b hb
    have hobs := hop b hb o ho vs l h w1 hz (fun c hc hcn => hth c hc (hnds _ hcn)) (fun i hi j hj => hsp i (hnds i hi) j (hnds j hj))
    have he := hev b hb hnds o ho
    unfold wpOp
    rw [ho]
    have hw : Region.wanted o (yielded ops (putAll ops vs ds a).tmps) = true := by unfold Region.wanted; rw [hg]
    simp only [hw, if_true]
    left
    refine Oper.wp_move (fun v w2 => Below w1.heap.size w1 w2 ∧ b.Rel (v :: b.needs.map vs) w1.heap.size w2.heap.size w2) (by rw [putAll_size, putAll_size]) he hQ ?_ (fun v w2 ⟨hz2, hrel⟩ => ⟨hS _ (hz.trans (hz2.mono hz.size)), step b hb hnd2 hnds o ho v w2 hz2 hrel⟩)
    unfold BGoal at hobs
    by_cases hpure : b.pure = true
    · rw [if_pos hpure] at hobs
      obtain ⟨v, hrel, hrun⟩ := hobs
      show o.upon P _ _ Q _
      rw [hrun w1 (hS _ hz)]
      exact ⟨v, rfl, Below.refl _ _, hrel⟩
    · rw [if_neg hpure] at hobs
      exact hobs _ fun v w2 hz2 hrel => ⟨v, rfl, hz2, hrel⟩
end
/-- What is known of an operation's own value. -/
def RHead (p : Value → World → Prop) : List Value → Nat → Nat → World → Prop := fun vl _ _ w => ∃ v, vl.head? = some v ∧ p v w
theorem RHead.stay {p : Value → World → Prop} {i : Nat} {ns : List Nat} {pu : Bool} (hp : ∀ v w1 w2, p v w1 → Below w1.heap.size w1 w2 → p v w2) : BStay ⟨i, ns, RHead p, pu⟩ := by
  rintro vl l h w1 w2 ⟨v, e, h1⟩ _ z
  exact ⟨v, e, hp v w1 w2 h1 z⟩
end Go.Proofs.Ytfheepjfpgiaoaa
