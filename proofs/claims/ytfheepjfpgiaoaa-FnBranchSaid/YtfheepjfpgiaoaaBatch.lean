/-
  Operations of a region that may come up in any order and each make memory of their own: one walk for each operation instead of one for each order.
-/
import Derived.Test.YtfheepjfpgiaoaaWords
import Derived.OrdersHeld
namespace Go.Proofs.Ytfheepjfpgiaoaa
open Go.RowKit

/-- An operation of a batch: its number, those of the batch that it waits for and looks at, and what is known of its value (at the list's head) behind it: the blocks that it made have the numbers from l up to h. -/
structure BOp where
  i : Nat
  needs : List Nat
  Rel : List Value → Nat → Nat → World → Prop
  /-- its value is known, whatever the world: it is taken as soon as it may come up -/
  pure : Bool

section
variable {P : Program} {ops : Array Oper} {Q : Exit → Act → World → Prop} {md : Region.Mode} {S : World → Prop}

def dstAt (ops : Array Oper) (i : Nat) : Option Tmp := (ops[i]?).bind (·.dst)
def putAll (ops : Array Oper) (vs : Nat → Value) : List Nat → Act → Act
  | [], a => a
  | i :: is, a => putAll ops vs is (a.put (dstAt ops i) (vs i))
def markAll : List Nat → Array Bool → Array Bool
  | [], l => l
  | i :: is, l => markAll is (l.setIfInBounds i true)
def subs : List Nat → List (List Nat)
  | [] => [[]]
  | a :: l => subs l ++ (subs l).map (a :: ·)

theorem subs_filter (p : Nat → Bool) : ∀ l : List Nat, l.filter p ∈ subs l
  | [] => by simp [subs]
  | a :: l => by
    have ih := subs_filter p l
    unfold subs
    cases h : p a
    · rw [List.filter_cons_of_neg (by simp [h])]; exact List.mem_append_left _ ih
    · rw [List.filter_cons_of_pos h]; exact List.mem_append_right _ (List.mem_map.2 ⟨_, ih, rfl⟩)
theorem map_inj {α : Type} {f : α → Nat} : ∀ {l : List α}, (l.map f).Nodup → ∀ {x y : α}, x ∈ l → y ∈ l → f x = f y → x = y
  | [], _, _, _, h, _, _ => absurd h List.not_mem_nil
  | a :: l, hn, x, y, hx, hy, e => by
    rw [List.map_cons, List.nodup_cons] at hn
    rcases List.mem_cons.1 hx with hx1 | hx1 <;> rcases List.mem_cons.1 hy with hy1 | hy1
    · rw [hx1, hy1]
    · rw [hx1] at e; exact absurd (List.mem_map.2 ⟨y, hy1, e.symm⟩) hn.1
    · rw [hy1] at e; exact absurd (List.mem_map.2 ⟨x, hx1, e⟩) hn.1
    · exact map_inj hn.2 hx1 hy1 e
theorem markAll_snoc (i : Nat) : ∀ (is : List Nat) (l : Array Bool), markAll (is ++ [i]) l = (markAll is l).setIfInBounds i true
  | [], _ => rfl
  | _ :: is, _ => markAll_snoc i is _
theorem putAll_snoc (vs : Nat → Value) (i : Nat) : ∀ (is : List Nat) (a : Act), putAll ops vs (is ++ [i]) a = (putAll ops vs is a).put (dstAt ops i) (vs i)
  | [], _ => rfl
  | _ :: is, _ => putAll_snoc vs i is _
theorem putAll_congr {vs vs' : Nat → Value} : ∀ (is : List Nat) (a : Act), (∀ i ∈ is, vs i = vs' i) → putAll ops vs is a = putAll ops vs' is a
  | [], _, _ => rfl
  | i :: is, a, h => by
    unfold putAll
    rw [h i List.mem_cons_self]
    exact putAll_congr is _ fun j hj => h j (List.mem_cons_of_mem _ hj)
theorem markAll_perm {x y : List Nat} (h : x.Perm y) : ∀ l : Array Bool, markAll x l = markAll y l := by
  induction h with
  | nil => intro l; rfl
  | cons i _ ih => intro l; exact ih _
  | swap i j t =>
    intro l
    unfold markAll markAll
    by_cases e : i = j
    · rw [e]
    · rw [Array.setIfInBounds_comm _ _ (Ne.symm e)]
  | trans _ _ ih1 ih2 => intro l; rw [ih1, ih2]
theorem putAll_perm {x y : List Nat} (vs : Nat → Value) (h : x.Perm y) : (∀ i ∈ x, ∀ j ∈ x, i ≠ j → ∀ d, dstAt ops i = some d → dstAt ops j ≠ some d) → ∀ a : Act, putAll ops vs x a = putAll ops vs y a := by
  induction h with
  | nil => intro _ a; rfl
  | cons i _ ih => intro hd a; exact ih (fun i hi j hj => hd i (List.mem_cons_of_mem _ hi) j (List.mem_cons_of_mem _ hj)) _
  | swap i j t =>
    intro hd a
    unfold putAll putAll
    by_cases e : i = j
    · rw [e]
    · rw [Act.put_comm a (vs j) (vs i) (hd j (by simp) i (by simp) (Ne.symm e))]
  | trans h1 _ ih1 ih2 =>
    intro hd a
    rw [ih1 hd, ih2 fun i hi j hj => hd i (h1.mem_iff.2 hi) j (h1.mem_iff.2 hj)]
theorem markAll_true : ∀ (is : List Nat) (l : Array Bool) (i : Nat), (i ∈ is ∨ l.getD i true = true) → (markAll is l).getD i true = true
  | [], l, i, h => h.elim (fun h => absurd h List.not_mem_nil) id
  | j :: is, l, i, h => by
    refine markAll_true is _ i ?_
    by_cases e : j = i
    · subst e
      right
      by_cases hlt : j < l.size
      · simp [hlt]
      · simp
    · rcases h with h | h
      · exact .inl ((List.mem_cons.1 h).resolve_left fun h => e h.symm)
      · right; rw [getD_set_ne true e]; exact h
theorem putAll_size (vs : Nat → Value) : ∀ (is : List Nat) (a : Act), (putAll ops vs is a).tmps.size = a.tmps.size
  | [], _ => rfl
  | i :: is, a => by
    unfold putAll
    rw [putAll_size vs is]
    cases dstAt ops i <;> simp [Act.put]
/-- What a batch leaves alone. -/
theorem putAll_eval_ne (vs : Nat → Value) {x : Operand} : ∀ (is : List Nat) (a : Act), (∀ i ∈ is, ∀ d, dstAt ops i = some d → x ≠ .tmp d) → (putAll ops vs is a).eval x = a.eval x
  | [], _, _ => rfl
  | i :: is, a, h => by
    unfold putAll
    rw [putAll_eval_ne vs is _ fun j hj => h j (List.mem_cons_of_mem _ hj), Act.eval_put (h i List.mem_cons_self)]
theorem eval_put_at {a b : Act} {d : Tmp} {v : Value} (h : a.tmps.size = b.tmps.size) (he : ¬ d < b.tmps.size → a.eval (.tmp d) = b.eval (.tmp d)) : (a.put (some d) v).eval (.tmp d) = (b.put (some d) v).eval (.tmp d) := by
  by_cases hlt : d < b.tmps.size
  · simp [Act.put, Act.eval, hlt, h]
  · have := he hlt
    simp [Act.put, Act.eval, Array.setIfInBounds, hlt, h] at this ⊢
theorem eval_out {a : Act} {d : Tmp} (h : ¬ d < a.tmps.size) : a.eval (.tmp d) = undef := by
  simp [Act.eval, Array.getElem?_eq_none (Nat.le_of_not_lt h)]
/-- The slot of an operation of a batch. -/
theorem putAll_eval_at (vs : Nat → Value) {i : Nat} {d : Tmp} (hi : dstAt ops i = some d) : ∀ (is : List Nat) (a b : Act), a.tmps.size = b.tmps.size → (∀ j ∈ is, dstAt ops j = some d → j = i) → i ∈ is → (putAll ops vs is a).eval (.tmp d) = (b.put (some d) (vs i)).eval (.tmp d)
  | [], _, _, _, _, h => absurd h List.not_mem_nil
  | j :: is, a, b, hs, hd, h => by
    unfold putAll
    have hs2 : (a.put (dstAt ops j) (vs j)).tmps.size = b.tmps.size := by rw [← hs]; cases dstAt ops j <;> simp [Act.put]
    by_cases hm : i ∈ is
    · exact putAll_eval_at vs hi is _ b hs2 (fun k hk => hd k (List.mem_cons_of_mem _ hk)) hm
    · obtain rfl : i = j := (List.mem_cons.1 h).resolve_right hm
      rw [putAll_eval_ne vs is _ (fun k hk e he hx => hm (by cases hx; rw [← hd k (List.mem_cons_of_mem _ hk) he]; exact hk)), hi]
      exact eval_put_at hs (fun hlt => by rw [eval_out (by rw [hs]; exact hlt), eval_out hlt])
theorem put_same {a b : Act} {x : Option Tmp} {u v : Value} (h : b.put x u = b.put x v) (hs : a.tmps.size = b.tmps.size) : a.put x u = a.put x v := by
  cases x with
  | none => rfl
  | some d =>
    by_cases hlt : d < b.tmps.size
    · have h2 := congrArg (fun c : Act => c.eval (.tmp d)) h
      simp [Act.put, Act.eval, hlt] at h2
      rw [h2]
    · simp [Act.put, Array.setIfInBounds, hs, hlt]
/-- An operation, in another state in which its operands are the same. -/
theorem Oper.wp_move {o : Oper} {a b : Act} {w : World} {K : Act → World → Prop} (G : Value → World → Prop) (hs : a.tmps.size = b.tmps.size) (he : execOp a.eval o = execOp b.eval o)
    (hQ : ∀ c a a' w, Q (.panic c) a w → Q (.panic c) a' w) (hb : Oper.wp P o b w (fun a' w' => ∃ v, a' = b.put o.dst v ∧ G v w') Q) (hK : ∀ v w', G v w' → K (a.put o.dst v) w') : Oper.wp P o a w K Q := by
  unfold Oper.wp at *
  rw [he]
  have fin : ∀ u w', (∃ v, b.put o.dst u = b.put o.dst v ∧ G v w') → K (a.put o.dst u) w' := by
    rintro u w' ⟨v, e, g⟩
    rw [put_same e hs]
    exact hK v w' g
  generalize (execOp b.eval o).run P w = r at *
  cases r with
  | ok n w' =>
    cases n <;> simp only [Oper.upon] at hb ⊢
    case value u => exact fin u w' hb
    case skip => exact fin _ w' hb
    case defer d =>
      obtain ⟨v, e, _⟩ := hb
      have h2 := congrArg Act.defers e
      cases hd : o.dst <;> rw [hd] at h2 <;> simp [Act.put] at h2
    case enter f args =>
      refine Calls.mono hb fun e w'' h => ?_
      cases e with
      | returned u => exact fin u w'' h
      | panicked c => exact hQ _ _ _ _ h
      | outgrown => exact h
    case row row args => exact Rows.mono hb fun u w'' h => fin u w'' h
  | halt x w' =>
    cases x <;> simp only [Oper.upon] at hb ⊢
    case panic u => exact hQ _ _ _ _ hb

/-- The batch may come up now, in any order, and nothing else before it is through. -/
def batchOk (md : Region.Mode) (ops : Array Oper) (bs : List BOp) (listed : Array Bool) : Bool :=
  let is := bs.map (·.i)
  (bs.all fun b => match ops[b.i]? with
    | none => false
    | some o => o.guard.isNone && o.dst.isSome && b.needs.all is.contains && bs.all fun c => (b.i == c.i || dstAt ops b.i != dstAt ops c.i) && (match dstAt ops c.i with
      | some d => !(o.looksAt ops).contains d || b.needs.contains c.i
      | none => false)) &&
  (subs is).all fun s => s.length == is.length || (bs.any fun b => s.contains b.i && !b.needs.all s.contains) || (let m := markAll s listed
    let r := Region.ready md ops m
    (bs.any fun b => b.pure && !s.contains b.i && r.contains b.i && Region.free md ops m b.i && b.needs.all s.contains) ||
    (!r.isEmpty && r.all fun i => is.contains i && bs.all fun b => b.i != i || b.needs.all s.contains))

/-- What is known of the operations of a batch that are through. -/
def Through (w0 : World) (bs : List BOp) (vs : Nat → Value) (l h : Nat → Nat) (w : World) : Prop :=
  ∀ b ∈ bs, w0.heap.size ≤ l b.i ∧ l b.i ≤ h b.i ∧ h b.i ≤ w.heap.size ∧ b.Rel ((b.i :: b.needs).map vs) (l b.i) (h b.i) w
/-- No two made the same block. -/
def Spread (is : List Nat) (l h : Nat → Nat) : Prop := ∀ i ∈ is, ∀ j ∈ is, i ≠ j → h i ≤ l j ∨ h j ≤ l i
/-- What is to be shown of one operation. -/
def BGoal (P : Program) (Q : Exit → Act → World → Prop) (S : World → Prop) (b : BOp) (o : Oper) (vl : List Value) (a : Act) (w1 : World) : Prop :=
  if b.pure = true then ∃ v, b.Rel (v :: vl) w1.heap.size w1.heap.size w1 ∧ ∀ w', S w' → (execOp a.eval o).run P w' = .ok (.value v) w'
  else ∀ K : Act → World → Prop, (∀ v w2, Below w1.heap.size w1 w2 → b.Rel (v :: vl) w1.heap.size w2.heap.size w2 → K (a.put o.dst v) w2) → Oper.wp P o a w1 K Q
def BStep (P : Program) (ops : Array Oper) (Q : Exit → Act → World → Prop) (S : World → Prop) (bs : List BOp) (a : Act) (w : World) (b : BOp) : Prop :=
  ∀ o, ops[b.i]? = some o → ∀ (vs : Nat → Value) (l h : Nat → Nat) (w1 : World), Below w.heap.size w w1 → (∀ c ∈ bs, c.i ∈ b.needs → w.heap.size ≤ l c.i ∧ l c.i ≤ h c.i ∧ h c.i ≤ w1.heap.size ∧ c.Rel ((c.i :: c.needs).map vs) (l c.i) (h c.i) w1) → Spread b.needs l h →
    BGoal P Q S b o (b.needs.map vs) (putAll ops vs b.needs a) w1
def BStay (b : BOp) : Prop := ∀ vl l h w1 w2, b.Rel vl l h w1 → h ≤ w1.heap.size → Below w1.heap.size w1 w2 → b.Rel vl l h w2

theorem wpAnyH_batch (bs : List BOp) {n : Nat} (hbn : bs.length = n) {is : List Nat} (his : is = bs.map (·.i)) {fuel : Nat} {listed : Array Bool} {a : Act} {w : World} (hok : batchOk md ops bs listed = true) (hnd : is.Nodup) (hsel : Region.noSelect ops = true)
    (hQ : ∀ c a a' w, Q (.panic c) a w → Q (.panic c) a' w) (hS : ∀ w', Below w.heap.size w w' → S w') (hst : ∀ b ∈ bs, BStay b) (hop : ∀ b ∈ bs, BStep P ops Q S bs a w b)
    (hend : ∀ vs l h w', Below w.heap.size w w' → Through w bs vs l h w' → Spread is l h → wpAnyH P md ops Q S fuel (markAll is listed) (putAll ops vs is a) w') :
    wpAnyH P md ops Q S (fuel + n) listed a w := by
  subst hbn
  unfold batchOk at hok
  rw [← his] at hok
  simp only [Bool.and_eq_true] at hok
  obtain ⟨hok1, hok2⟩ := hok
  have hlen : is.length = bs.length := by rw [his]; simp
  have hmem : ∀ i ∈ is, ∃ b ∈ bs, b.i = i := fun i hi => by rw [his] at hi; exact List.mem_map.1 hi
  have hat : ∀ b ∈ bs, ∃ o, ops[b.i]? = some o ∧ o.guard = none ∧ (∀ i ∈ b.needs, i ∈ is) ∧ (∀ c ∈ bs, b.i ≠ c.i → dstAt ops b.i ≠ dstAt ops c.i) ∧ (∀ c ∈ bs, ∃ d, dstAt ops c.i = some d ∧ (d ∈ o.looksAt ops → c.i ∈ b.needs)) := by
    intro b hb
    have h1 := List.all_eq_true.1 hok1 b hb
    cases ho : ops[b.i]? with
    | none => rw [ho] at h1; cases h1
    | some o =>
      rw [ho] at h1
      simp only [Bool.and_eq_true, List.all_eq_true] at h1
      obtain ⟨⟨⟨h2, h3⟩, h4⟩, h5⟩ := h1
      refine ⟨o, rfl, by simpa using h2, fun i hi => by simpa using h4 i hi, fun c hc hne => ?_, fun c hc => ?_⟩
      · have h6 := (h5 c hc).1
        simp only [Bool.or_eq_true, beq_iff_eq, bne_iff_ne] at h6
        exact h6.resolve_left hne
      · have h6 := (h5 c hc).2
        cases hd : dstAt ops c.i with
        | none => rw [hd] at h6; cases h6
        | some d =>
          rw [hd] at h6
          refine ⟨d, rfl, fun hl => ?_⟩
          simp only [Bool.or_eq_true, Bool.not_eq_true', List.contains_eq_mem, decide_eq_true_eq, decide_eq_false_iff_not] at h6
          exact h6.resolve_left (fun h => h hl)
  have hdst : ∀ i ∈ is, ∀ j ∈ is, i ≠ j → ∀ d, dstAt ops i = some d → dstAt ops j ≠ some d := by
    intro i hi j hj hne d hd hd2
    obtain ⟨b, hb, rfl⟩ := hmem i hi
    obtain ⟨c, hc, rfl⟩ := hmem j hj
    obtain ⟨o, _, _, _, h4, _⟩ := hat b hb
    exact h4 c hc hne (hd.trans hd2.symm)
  suffices H : ∀ (n : Nat) (ds rs : List Nat) (vs : Nat → Value) (l h : Nat → Nat) (w1 : World), (ds ++ rs).Perm is → rs.length = n → (∀ b ∈ bs, b.i ∈ ds → ∀ j ∈ b.needs, j ∈ ds) → Below w.heap.size w w1 →
      (∀ b ∈ bs, b.i ∈ ds → w.heap.size ≤ l b.i ∧ l b.i ≤ h b.i ∧ h b.i ≤ w1.heap.size ∧ b.Rel ((b.i :: b.needs).map vs) (l b.i) (h b.i) w1) → Spread ds l h → wpAnyH P md ops Q S (fuel + n) (markAll ds listed) (putAll ops vs ds a) w1 by
    have := H is.length [] is (fun _ => undef) (fun _ => 0) (fun _ => 0) w (List.Perm.refl _) rfl (fun _ _ h => absurd h List.not_mem_nil) (Below.refl _ _) (fun _ _ h => absurd h List.not_mem_nil) (fun _ h => absurd h List.not_mem_nil)
    rw [← hlen]; exact this
  intro n
  induction n with
  | zero =>
    intro ds rs vs l h w1 hpp hl _ hz hth hsp
    have hp : ds.Perm is := by
      rw [List.eq_nil_of_length_eq_zero hl, List.append_nil] at hpp
      exact hpp
    have hsub : ∀ i ∈ ds, i ∈ is := fun i hi => hp.mem_iff.1 hi
    rw [markAll_perm hp, putAll_perm vs hp fun i hi j hj => hdst i (hsub i hi) j (hsub j hj)]
    exact hend vs l h w1 hz (fun b hb => hth b hb (hp.mem_iff.2 (by rw [his]; exact List.mem_map.2 ⟨b, hb, rfl⟩))) (fun i hi j hj => hsp i (hp.mem_iff.2 hi) j (hp.mem_iff.2 hj))
  | succ n ih =>
    intro ds rs vs l h w1 hpp hl hns hz hth hsp
    have hsub : ∀ i ∈ ds, i ∈ is := fun i hi => hpp.mem_iff.1 (List.mem_append_left _ hi)
    have hd : ds.Nodup := (List.nodup_append.1 (hpp.nodup_iff.2 hnd)).1
    have hll : ds.length + rs.length = is.length := by rw [← hpp.length_eq, List.length_append]
    have hp : ds.Perm (is.filter ds.contains) := by
      refine (List.perm_ext_iff_of_nodup hd (hnd.filter _)).2 fun i => ?_
      simp only [List.mem_filter, List.contains_eq_mem, decide_eq_true_eq]
      exact ⟨fun hi => ⟨hsub i hi, hi⟩, fun hi => hi.2⟩
    have hc := List.all_eq_true.1 hok2 _ (subs_filter ds.contains is)
    rw [← markAll_perm hp, ← hp.length_eq, show (ds.length == is.length) = false by rw [beq_eq_false_iff_ne]; omega] at hc
    have hcl : (bs.any fun b => (is.filter ds.contains).contains b.i && !b.needs.all (is.filter ds.contains).contains) = false := by
      rw [List.any_eq_false]
      intro b hb hcb
      simp only [Bool.and_eq_true, Bool.not_eq_true', List.contains_eq_mem, List.mem_filter, decide_eq_true_eq] at hcb
      obtain ⟨⟨_, hbd⟩, hcb⟩ := hcb
      rw [List.all_eq_false] at hcb
      obtain ⟨j, hj, hj2⟩ := hcb
      refine hj2 ?_
      simp only [List.contains_eq_mem, List.mem_filter, decide_eq_true_eq]
      have hjd := hns b hb hbd j hj
      exact ⟨hsub j hjd, hjd⟩
    rw [hcl] at hc
    simp only [Bool.false_or, Bool.or_eq_true] at hc
    rw [show fuel + (n + 1) = (fuel + n) + 1 from rfl]
    have hev : ∀ b ∈ bs, (∀ j ∈ b.needs, j ∈ ds) → ∀ o, ops[b.i]? = some o → execOp (putAll ops vs ds a).eval o = execOp (putAll ops vs b.needs a).eval o := by
      intro b hb hnds o ho
      obtain ⟨o', ho', hg, hnb, hdd, hlk⟩ := hat b hb
      obtain rfl : o = o' := by rw [ho] at ho'; exact Option.some.inj ho'
      refine execOp_congr o (Region.noSelect_spec hsel b.i o · · ho) fun x hx => ?_
      by_cases hxx : ∃ c ∈ bs, ∃ d, dstAt ops c.i = some d ∧ x = .tmp d
      · obtain ⟨c, hcb, d, hcd, rfl⟩ := hxx
        have hcis : c.i ∈ is := by rw [his]; exact List.mem_map.2 ⟨c, hcb, rfl⟩
        obtain ⟨d', hd', hin⟩ := hlk c hcb
        obtain rfl : d = d' := by rw [hcd] at hd'; exact Option.some.inj hd'
        have hcn : c.i ∈ b.needs := hin (List.mem_append_left _ (List.mem_filterMap.2 ⟨.tmp d, by simpa using hx, rfl⟩))
        have uniq : ∀ j ∈ is, dstAt ops j = some d → j = c.i := fun j hj hjd => Classical.byContradiction fun hne => hdst j hj c.i hcis hne d hjd hcd
        rw [putAll_eval_at vs hcd ds a a rfl (fun j hj => uniq j (hsub j hj)) (hnds _ hcn), putAll_eval_at vs hcd b.needs a a rfl (fun j hj => uniq j (hnb j hj)) hcn]
      · have hno : ∀ j ∈ is, ∀ d, dstAt ops j = some d → x ≠ .tmp d := fun j hj d hjd hxd => by
          obtain ⟨c, hcb, rfl⟩ := hmem j hj
          exact hxx ⟨c, hcb, d, hjd, hxd⟩
        rw [putAll_eval_ne vs ds a (fun j hj => hno j (hsub j hj)), putAll_eval_ne vs b.needs a (fun j hj => hno j (hnb j hj))]
    have step : ∀ b ∈ bs, b.i ∉ ds → (∀ j ∈ b.needs, j ∈ ds) → ∀ o, ops[b.i]? = some o → ∀ v w2, Below w1.heap.size w1 w2 → b.Rel (v :: b.needs.map vs) w1.heap.size w2.heap.size w2 → wpAnyH P md ops Q S (fuel + n) ((markAll ds listed).setIfInBounds b.i true) ((putAll ops vs ds a).put o.dst v) w2 := by
      intro b hb hnd2 hnds o ho v w2 hz2 hrel
      have hib : b.i ∈ is := by rw [his]; exact List.mem_map.2 ⟨b, hb, rfl⟩
      have hz3 : Below w.heap.size w w2 := hz.trans (hz2.mono hz.size)
      have hne : ∀ j ∈ ds, j ≠ b.i := fun j hj e => hnd2 (e ▸ hj)
      have hdo : o.dst = dstAt ops b.i := by unfold dstAt; rw [ho]; rfl
      have hvs : ∀ j ∈ ds, vs j = (fun k => if k = b.i then v else vs k) j := fun j hj => by simp [hne j hj]
      have hput : (putAll ops vs ds a).put o.dst v = putAll ops (fun k => if k = b.i then v else vs k) (ds ++ [b.i]) a := by
        rw [putAll_snoc, ← putAll_congr ds a hvs, hdo]
        simp
      rw [hput, ← markAll_snoc]
      have hsz := hz2.size
      have hir : b.i ∈ rs := (List.mem_append.1 (hpp.mem_iff.2 hib)).resolve_left hnd2
      have hpn : ((ds ++ [b.i]) ++ rs.erase b.i).Perm is := by
        rw [List.append_assoc]
        exact ((List.perm_cons_erase hir).symm.append_left ds).trans hpp
      refine ih (ds ++ [b.i]) (rs.erase b.i) _ (fun k => if k = b.i then w1.heap.size else l k) (fun k => if k = b.i then w2.heap.size else h k) w2 hpn ?_ ?_ hz3 ?_ ?_
      · rw [List.length_erase_of_mem hir]; omega
      · intro c hc hci j hj
        rcases List.mem_append.1 hci with hci | hci
        · exact List.mem_append_left _ (hns c hc hci j hj)
        · have e := List.mem_singleton.1 hci
          have hcb : c.needs = b.needs := by
            have : c = b := by
              have hnd' := hnd
              rw [his] at hnd'
              exact map_inj hnd' hc hb e
            rw [this]
          rw [hcb] at hj
          exact List.mem_append_left _ (hnds j hj)
      · intro c hc hci
        by_cases e : c.i = b.i
        · have hcb : c = b := by
            have hnd' := hnd
            rw [his] at hnd'
            exact map_inj hnd' hc hb e
          subst hcb
          simp only [if_true]
          refine ⟨hz.size, hsz, Nat.le_refl _, ?_⟩
          have : List.map (fun k => if k = c.i then v else vs k) (c.i :: c.needs) = v :: c.needs.map vs := by
            rw [List.map_cons, if_pos rfl]
            congr 1
            exact List.map_congr_left fun j hj => if_neg (hne j (hnds j hj))
          rw [this]
          exact hrel
        · have hci' : c.i ∈ ds := (List.mem_append.1 hci).resolve_right fun h => e (List.mem_singleton.1 h)
          obtain ⟨q1, q2, q3, q4⟩ := hth c hc hci'
          simp only [if_neg e]
          refine ⟨q1, q2, Nat.le_trans q3 hsz, ?_⟩
          have : List.map (fun k => if k = b.i then v else vs k) (c.i :: c.needs) = (c.i :: c.needs).map vs := by
            refine List.map_congr_left fun j hj => if_neg ?_
            rcases List.mem_cons.1 hj with rfl | hj
            · exact e
            · exact hne j (hns c hc hci' j hj)
          rw [this]
          exact hst c hc _ _ _ _ _ q4 q3 hz2
      · have hhi : ∀ j ∈ ds, h j ≤ w1.heap.size := fun j hj => by
          obtain ⟨c, hc, rfl⟩ := hmem j (hsub j hj)
          exact (hth c hc hj).2.2.1
        intro j hj k hk hjk
        rcases List.mem_append.1 hj with hj | hj <;> rcases List.mem_append.1 hk with hk | hk
        · have e1 := hne j hj
          have e2 := hne k hk
          simp only [if_neg e1, if_neg e2]
          exact hsp j hj k hk hjk
        · have e1 := hne j hj
          rw [List.mem_singleton.1 hk]
          simp only [if_neg e1, if_true]
          exact .inl (hhi j hj)
        · have e1 := hne k hk
          rw [List.mem_singleton.1 hj]
          simp only [if_neg e1, if_true]
          exact .inr (hhi k hk)
        · exact absurd ((List.mem_singleton.1 hj).trans (List.mem_singleton.1 hk).symm) hjk
    rcases hc with hc | hc
    · obtain ⟨b, hb, hcb⟩ := List.any_eq_true.1 hc
      simp only [Bool.and_eq_true, Bool.not_eq_true'] at hcb
      obtain ⟨⟨⟨⟨hpure, hns2⟩, hrb⟩, hfree⟩, hneeds⟩ := hcb
      obtain ⟨o, ho, hg, hnb, hdd, hlk⟩ := hat b hb
      have hib : b.i ∈ is := by rw [his]; exact List.mem_map.2 ⟨b, hb, rfl⟩
      have hnd2 : b.i ∉ ds := fun hin => by
        have : (is.filter ds.contains).contains b.i = true := by
          simp only [List.contains_eq_mem, List.mem_filter, decide_eq_true_eq]
          exact ⟨hib, hin⟩
        rw [this] at hns2; cases hns2
      have hnds : ∀ j ∈ b.needs, j ∈ ds := fun j hj => by
        have h2 := List.all_eq_true.1 hneeds j hj
        simp only [List.contains_eq_mem, List.mem_filter, decide_eq_true_eq] at h2
        exact h2.2
      have hobs := hop b hb o ho vs l h w1 hz (fun c hc hcn => hth c hc (hnds _ hcn)) (fun i hi j hj => hsp i (hnds i hi) j (hnds j hj))
      unfold BGoal at hobs
      rw [if_pos hpure] at hobs
      obtain ⟨v, hrel, hrun⟩ := hobs
      exact wpAnyH_take (i := b.i) (v := v) ho hsel hfree hrb (fun c _ w' h' => hQ c _ _ w' h') (.inl ⟨by unfold Region.wanted; rw [hg], fun w' hw' => by rw [hev b hb hnds o ho]; exact hrun w' hw'⟩) (hS _ hz) (step b hb hnd2 hnds o ho v w1 (Below.refl _ _) hrel)
    simp only [Bool.and_eq_true, Bool.not_eq_true', List.all_eq_true] at hc
    obtain ⟨hne, hr⟩ := hc
    refine ⟨fun h0 => by rw [h0] at hne; simp at hne, fun i hi => ?_⟩
    have hri := hr i hi
    have hib : i ∈ is := by simpa using hri.1
    have hnd2 : i ∉ ds := fun hin => by
      have h1 := (mem_ready.1 hi).1
      rw [markAll_true ds listed i (.inl hin)] at h1
      cases h1
    obtain ⟨b, hb, rfl⟩ := hmem i hib
    have hnds : ∀ j ∈ b.needs, j ∈ ds := fun j hj => by
      have h1 := hri.2 b hb
      simp only [bne_self_eq_false, Bool.false_or, List.all_eq_true] at h1
      have h2 := h1 j hj
      simp only [List.contains_eq_mem, List.mem_filter, decide_eq_true_eq] at h2
      exact h2.2
    obtain ⟨o, ho, hg, hnb, hdd, hlk⟩ := hat b hb
    have hobs := hop b hb o ho vs l h w1 hz (fun c hc hcn => hth c hc (hnds _ hcn)) (fun i hi j hj => hsp i (hnds i hi) j (hnds j hj))
    have he := hev b hb hnds o ho
    unfold wpOp
    rw [ho]
    have hw : Region.wanted o (yielded ops (putAll ops vs ds a).tmps) = true := by unfold Region.wanted; rw [hg]
    simp only [hw, if_true]
    left
    refine Oper.wp_move (fun v w2 => Below w1.heap.size w1 w2 ∧ b.Rel (v :: b.needs.map vs) w1.heap.size w2.heap.size w2) (by rw [putAll_size, putAll_size]) he hQ ?_ (fun v w2 ⟨hz2, hrel⟩ => ⟨hS _ (hz.trans (hz2.mono hz.size)), step b hb hnd2 hnds o ho v w2 hz2 hrel⟩)
    unfold BGoal at hobs
    by_cases hpure : b.pure = true
    · rw [if_pos hpure] at hobs
      obtain ⟨v, hrel, hrun⟩ := hobs
      show o.upon P _ _ Q _
      rw [hrun w1 (hS _ hz)]
      exact ⟨v, rfl, Below.refl _ _, hrel⟩
    · rw [if_neg hpure] at hobs
      exact hobs _ fun v w2 hz2 hrel => ⟨v, rfl, hz2, hrel⟩

theorem BStep.mk {bs : List BOp} {a : Act} {w : World} {i : Nat} {ns : List Nat} {R : List Value → Nat → Nat → World → Prop} {o : Oper} (ho : ops[i]? = some o) (h : ∀ (vs : Nat → Value) (l h : Nat → Nat) (w1 : World), Below w.heap.size w w1 → (∀ c ∈ bs, c.i ∈ ns → w.heap.size ≤ l c.i ∧ l c.i ≤ h c.i ∧ h c.i ≤ w1.heap.size ∧ c.Rel ((c.i :: c.needs).map vs) (l c.i) (h c.i) w1) → Spread ns l h →
    ∀ K : Act → World → Prop, (∀ v w2, Below w1.heap.size w1 w2 → R (v :: ns.map vs) w1.heap.size w2.heap.size w2 → K ((putAll ops vs ns a).put o.dst v) w2) → Oper.wp P o (putAll ops vs ns a) w1 K Q) : BStep P ops Q S bs a w ⟨i, ns, R, false⟩ := fun o' ho' => by
  cases ho.symm.trans ho'
  intro vs l h' w1 hz hn hsp
  unfold BGoal
  rw [if_neg (by simp)]
  exact h vs l h' w1 hz hn hsp
theorem BStep.pure {bs : List BOp} {a : Act} {w : World} {i : Nat} {ns : List Nat} {R : List Value → Nat → Nat → World → Prop} {o : Oper} (ho : ops[i]? = some o) (h : ∀ (vs : Nat → Value) (l h : Nat → Nat) (w1 : World), Below w.heap.size w w1 → (∀ c ∈ bs, c.i ∈ ns → w.heap.size ≤ l c.i ∧ l c.i ≤ h c.i ∧ h c.i ≤ w1.heap.size ∧ c.Rel ((c.i :: c.needs).map vs) (l c.i) (h c.i) w1) → Spread ns l h →
    ∃ v, R (v :: ns.map vs) w1.heap.size w1.heap.size w1 ∧ ∀ w', S w' → (execOp (putAll ops vs ns a).eval o).run P w' = .ok (.value v) w') : BStep P ops Q S bs a w ⟨i, ns, R, true⟩ := fun o' ho' => by
  cases ho.symm.trans ho'
  intro vs l h' w1 hz hn hsp
  unfold BGoal
  rw [if_pos rfl]
  exact h vs l h' w1 hz hn hsp
theorem BStep.all_nil {bs : List BOp} {a : Act} {w : World} : ∀ b ∈ ([] : List BOp), BStep P ops Q S bs a w b := fun _ h => absurd h List.not_mem_nil
theorem BStep.all_cons {bs : List BOp} {a : Act} {w : World} {b : BOp} {rest : List BOp} (h : BStep P ops Q S bs a w b) (hr : ∀ c ∈ rest, BStep P ops Q S bs a w c) : ∀ c ∈ b :: rest, BStep P ops Q S bs a w c := fun c hc => by
  rcases List.mem_cons.1 hc with rfl | hc
  · exact h
  · exact hr c hc
theorem BStay.all_nil : ∀ b ∈ ([] : List BOp), BStay b := fun _ h => absurd h List.not_mem_nil
theorem BStay.all_cons {b : BOp} {rest : List BOp} (h : BStay b) (hr : ∀ c ∈ rest, BStay c) : ∀ c ∈ b :: rest, BStay c := fun c hc => by
  rcases List.mem_cons.1 hc with rfl | hc
  · exact h
  · exact hr c hc
end

theorem alloc_pack3 {V w : World} {B : Nat} (h : Below B V w) (hB : B ≤ w.heap.size) (cs : Array Value) (t : TypeId) : ∃ W g, w.alloc (.cells cs t) = W ∧ g = w.heap.size ∧ Below w.heap.size w W ∧ Blk W g t cs ∧ B ≤ g ∧ Below B V W :=
  ⟨_, _, rfl, rfl, (Below.refl _ _).alloc (Nat.le_refl _) _, Blk.new w t cs, hB, h.alloc hB _⟩
theorem Blk.keptH {w w' : World} {g : Nat} {t : TypeId} {c : Array Value} (h : Blk w g t c) (e : w'.heap[g]? = w.heap[g]?) : Blk w' g t c := e.trans h
/-- A block that was made. -/
def RMade (mk : Nat → Value) (t : TypeId) (cs : Array Value) : List Value → Nat → Nat → World → Prop := fun vl l h w => ∃ g, vl = [mk g] ∧ Blk w g t cs ∧ l ≤ g ∧ g < h
theorem RMade.stay {mk : Nat → Value} {t : TypeId} {cs : Array Value} {i : Nat} {ns : List Nat} {pu : Bool} : BStay ⟨i, ns, RMade mk t cs, pu⟩ := by
  rintro vl l h w1 w2 ⟨g, e, hb, h1, h2⟩ hh z
  exact ⟨g, e, hb.below' z, h1, h2⟩
/-- A value that is known. -/
def RKnown (p : List Value → Prop) : List Value → Nat → Nat → World → Prop := fun vl _ _ _ => p vl
theorem RKnown.stay {p : List Value → Prop} {i : Nat} {ns : List Nat} {pu : Bool} : BStay ⟨i, ns, RKnown p, pu⟩ := fun _ _ _ _ _ h _ _ => h
/-- What a call leaves, as its contract says it. -/
def RCall (T : World → Ending → World → Prop) : List Value → Nat → Nat → World → Prop := fun vl l _ w => ∃ w0 w1 v, vl.head? = some v ∧ T w0 (.returned v) w1 ∧ w0.heap.size = l ∧ Below w1.heap.size w1 w
theorem RCall.stay {T : World → Ending → World → Prop} {i : Nat} {ns : List Nat} {pu : Bool} : BStay ⟨i, ns, RCall T, pu⟩ := by
  rintro vl l h w1 w2 ⟨w0, wa, v, e, ht, e2, z⟩ hh zz
  exact ⟨w0, wa, v, e, ht, e2, z.trans (zz.mono z.size)⟩
end Go.Proofs.Ytfheepjfpgiaoaa
