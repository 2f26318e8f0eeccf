/-
  Operations of a region that may come up in any order and each make memory of their own: one walk for each operation instead of one for each order.
-/
import Derived.Test.YtbpofkggoolmpaaPbFmAll0
import Derived.Test.YtbpofkggoolmpaaPbFmAll1
import Derived.Test.YtbpofkggoolmpaaPbFmAll5
import Derived.Test.YtbpofkggoolmpaaPbFmAll7
import Derived.OrdersHeld
import Derived.Lib.AppendZeros
import Derived.Lib.MinMax
namespace Go.Proofs.Ytbpofkggoolmpaa
open Go.RowKit

/-- An operation of a batch: its number, those of the batch that it waits for and looks at, and what is known of its value (at the list's head) behind it: the blocks that it made have the numbers from l up to h. -/
structure BOp where
  i : Nat
  needs : List Nat
  Rel : List Value → Nat → Nat → World → Prop
  /-- its value is known, whatever the world: it is taken as soon as it may come up -/
  pure : Bool

section
variable {P : Program} {ops : Array Oper} {Q : Exit → Act → World → Prop} {md : Region.Mode} {S : World → Prop}

def dstAt (ops : Array Oper) (i : Nat) : Option Tmp := (ops[i]?).bind (·.dst)
def putAll (ops : Array Oper) (vs : Nat → Value) : List Nat → Act → Act
  | [], a => a
  | i :: is, a => putAll ops vs is (a.put (dstAt ops i) (vs i))
def markAll : List Nat → Array Bool → Array Bool
  | [], l => l
  | i :: is, l => markAll is (l.setIfInBounds i true)
def subs : List Nat → List (List Nat)
  | [] => [[]]
  | a :: l => subs l ++ (subs l).map (a :: ·)

theorem subs_filter (p : Nat → Bool) : ∀ l : List Nat, l.filter p ∈ subs l
  | [] => by simp [subs]
  | a :: l => by
    have ih := subs_filter p l
    unfold subs
    cases h : p a
    · rw [List.filter_cons_of_neg (by simp [h])]; exact List.mem_append_left _ ih
    · rw [List.filter_cons_of_pos h]; exact List.mem_append_right _ (List.mem_map.2 ⟨_, ih, rfl⟩)
theorem map_inj {α : Type} {f : α → Nat} : ∀ {l : List α}, (l.map f).Nodup → ∀ {x y : α}, x ∈ l → y ∈ l → f x = f y → x = y
  | [], _, _, _, h, _, _ => absurd h List.not_mem_nil
  | a :: l, hn, x, y, hx, hy, e => by
    rw [List.map_cons, List.nodup_cons] at hn
    rcases List.mem_cons.1 hx with hx1 | hx1 <;> rcases List.mem_cons.1 hy with hy1 | hy1
    · rw [hx1, hy1]
    · rw [hx1] at e; exact absurd (List.mem_map.2 ⟨y, hy1, e.symm⟩) hn.1
    · rw [hy1] at e; exact absurd (List.mem_map.2 ⟨x, hx1, e⟩) hn.1
    · exact map_inj hn.2 hx1 hy1 e
theorem markAll_snoc (i : Nat) : ∀ (is : List Nat) (l : Array Bool), markAll (is ++ [i]) l = (markAll is l).setIfInBounds i true
  | [], _ => rfl
  | _ :: is, _ => markAll_snoc i is _
theorem putAll_snoc (vs : Nat → Value) (i : Nat) : ∀ (is : List Nat) (a : Act), putAll ops vs (is ++ [i]) a = (putAll ops vs is a).put (dstAt ops i) (vs i)
  | [], _ => rfl
  | _ :: is, _ => putAll_snoc vs i is _
theorem putAll_congr {vs vs' : Nat → Value} : ∀ (is : List Nat) (a : Act), (∀ i ∈ is, vs i = vs' i) → putAll ops vs is a = putAll ops vs' is a
  | [], _, _ => rfl
  | i :: is, a, h => by
    unfold putAll
    rw [h i List.mem_cons_self]
    exact putAll_congr is _ fun j hj => h j (List.mem_cons_of_mem _ hj)
theorem markAll_perm {x y : List Nat} (h : x.Perm y) : ∀ l : Array Bool, markAll x l = markAll y l := by
  induction h with
  | nil => intro l; rfl
  | cons i _ ih => intro l; exact ih _
  | swap i j t =>
    intro l
    unfold markAll markAll
    by_cases e : i = j
    · rw [e]
    · rw [Array.setIfInBounds_comm _ _ (Ne.symm e)]
  | trans _ _ ih1 ih2 => intro l; rw [ih1, ih2]
theorem putAll_perm {x y : List Nat} (vs : Nat → Value) (h : x.Perm y) : (∀ i ∈ x, ∀ j ∈ x, i ≠ j → ∀ d, dstAt ops i = some d → dstAt ops j ≠ some d) → ∀ a : Act, putAll ops vs x a = putAll ops vs y a := by
  induction h with
  | nil => intro _ a; rfl
  | cons i _ ih => intro hd a; exact ih (fun i hi j hj => hd i (List.mem_cons_of_mem _ hi) j (List.mem_cons_of_mem _ hj)) _
  | swap i j t =>
    intro hd a
    unfold putAll putAll
    by_cases e : i = j
    · rw [e]
    · rw [Act.put_comm a (vs j) (vs i) (hd j (by simp) i (by simp) (Ne.symm e))]
  | trans h1 _ ih1 ih2 =>
    intro hd a
    rw [ih1 hd, ih2 fun i hi j hj => hd i (h1.mem_iff.2 hi) j (h1.mem_iff.2 hj)]
theorem markAll_true : ∀ (is : List Nat) (l : Array Bool) (i : Nat), (i ∈ is ∨ l.getD i true = true) → (markAll is l).getD i true = true
  | [], l, i, h => h.elim (fun h => absurd h List.not_mem_nil) id
  | j :: is, l, i, h => by
    refine markAll_true is _ i ?_
    by_cases e : j = i
    · subst e
      right
      by_cases hlt : j < l.size
      · simp [hlt]
      · simp
    · rcases h with h | h
      · exact .inl ((List.mem_cons.1 h).resolve_left fun h => e h.symm)
      · right; rw [getD_set_ne true e]; exact h
theorem putAll_size (vs : Nat → Value) : ∀ (is : List Nat) (a : Act), (putAll ops vs is a).tmps.size = a.tmps.size
  | [], _ => rfl
  | i :: is, a => by
    unfold putAll
    rw [putAll_size vs is]
    cases dstAt ops i <;> simp [Act.put]
/-- What a batch leaves alone. -/
theorem putAll_eval_ne (vs : Nat → Value) {x : Operand} : ∀ (is : List Nat) (a : Act), (∀ i ∈ is, ∀ d, dstAt ops i = some d → x ≠ .tmp d) → (putAll ops vs is a).eval x = a.eval x
  | [], _, _ => rfl
  | i :: is, a, h => by
    unfold putAll
    rw [putAll_eval_ne vs is _ fun j hj => h j (List.mem_cons_of_mem _ hj), Act.eval_put (h i List.mem_cons_self)]
theorem eval_put_at {a b : Act} {d : Tmp} {v : Value} (h : a.tmps.size = b.tmps.size) (he : ¬ d < b.tmps.size → a.eval (.tmp d) = b.eval (.tmp d)) : (a.put (some d) v).eval (.tmp d) = (b.put (some d) v).eval (.tmp d) := by
  by_cases hlt : d < b.tmps.size
  · simp [Act.put, Act.eval, hlt, h]
  · have := he hlt
    simp [Act.put, Act.eval, Array.setIfInBounds, hlt, h] at this ⊢
theorem eval_out {a : Act} {d : Tmp} (h : ¬ d < a.tmps.size) : a.eval (.tmp d) = undef := by
  simp [Act.eval, Array.getElem?_eq_none (Nat.le_of_not_lt h)]
/-- The slot of an operation of a batch. -/
theorem putAll_eval_at (vs : Nat → Value) {i : Nat} {d : Tmp} (hi : dstAt ops i = some d) : ∀ (is : List Nat) (a b : Act), a.tmps.size = b.tmps.size → (∀ j ∈ is, dstAt ops j = some d → j = i) → i ∈ is → (putAll ops vs is a).eval (.tmp d) = (b.put (some d) (vs i)).eval (.tmp d)
  | [], _, _, _, _, h => absurd h List.not_mem_nil
  | j :: is, a, b, hs, hd, h => by
    unfold putAll
    have hs2 : (a.put (dstAt ops j) (vs j)).tmps.size = b.tmps.size := by rw [← hs]; cases dstAt ops j <;> simp [Act.put]
    by_cases hm : i ∈ is
    · exact putAll_eval_at vs hi is _ b hs2 (fun k hk => hd k (List.mem_cons_of_mem _ hk)) hm
    · obtain rfl : i = j := (List.mem_cons.1 h).resolve_right hm
      rw [putAll_eval_ne vs is _ (fun k hk e he hx => hm (by cases hx; rw [← hd k (List.mem_cons_of_mem _ hk) he]; exact hk)), hi]
      exact eval_put_at hs (fun hlt => by rw [eval_out (by rw [hs]; exact hlt), eval_out hlt])
theorem put_same {a b : Act} {x : Option Tmp} {u v : Value} (h : b.put x u = b.put x v) (hs : a.tmps.size = b.tmps.size) : a.put x u = a.put x v := by
  cases x with
  | none => rfl
  | some d =>
    by_cases hlt : d < b.tmps.size
    · have h2 := congrArg (fun c : Act => c.eval (.tmp d)) h
      simp [Act.put, Act.eval, hlt] at h2
      rw [h2]
    · simp [Act.put, Array.setIfInBounds, hs, hlt]
/-- An operation, in another state in which its operands are the same. -/
theorem Oper.wp_move {o : Oper} {a b : Act} {w : World} {K : Act → World → Prop} (G : Value → World → Prop) (hs : a.tmps.size = b.tmps.size) (he : execOp a.eval o = execOp b.eval o)
    (hQ : ∀ c a a' w, Q (.panic c) a w → Q (.panic c) a' w) (hb : Oper.wp P o b w (fun a' w' => ∃ v, a' = b.put o.dst v ∧ G v w') Q) (hK : ∀ v w', G v w' → K (a.put o.dst v) w') : Oper.wp P o a w K Q := by
  unfold Oper.wp at *
  rw [he]
  have fin : ∀ u w', (∃ v, b.put o.dst u = b.put o.dst v ∧ G v w') → K (a.put o.dst u) w' := by
    rintro u w' ⟨v, e, g⟩
    rw [put_same e hs]
    exact hK v w' g
  generalize (execOp b.eval o).run P w = r at *
  cases r with
  | ok n w' =>
    cases n <;> simp only [Oper.upon] at hb ⊢
    case value u => exact fin u w' hb
    case skip => exact fin _ w' hb
    case defer d =>
      obtain ⟨v, e, _⟩ := hb
      have h2 := congrArg Act.defers e
      cases hd : o.dst <;> rw [hd] at h2 <;> simp [Act.put] at h2
    case enter f args =>
      refine Calls.mono hb fun e w'' h => ?_
      cases e with
      | returned u => exact fin u w'' h
      | panicked c => exact hQ _ _ _ _ h
      | outgrown => exact h
    case row row args => exact Rows.mono hb fun u w'' h => fin u w'' h
  | halt x w' =>
    cases x <;> simp only [Oper.upon] at hb ⊢
    case panic u => exact hQ _ _ _ _ hb

/-- The batch may come up now, in any order, and nothing else before it is through. -/
def batchOk (md : Region.Mode) (ops : Array Oper) (bs : List BOp) (listed : Array Bool) : Bool :=
  let is := bs.map (·.i)
  (bs.all fun b => match ops[b.i]? with
    | none => false
    | some o => o.guard.isNone && o.dst.isSome && b.needs.all is.contains && bs.all fun c => (b.i == c.i || dstAt ops b.i != dstAt ops c.i) && (match dstAt ops c.i with
      | some d => !(o.looksAt ops).contains d || b.needs.contains c.i
      | none => false)) &&
  (subs is).all fun s => s.length == is.length || (bs.any fun b => s.contains b.i && !b.needs.all s.contains) || (let m := markAll s listed
    let r := Region.ready md ops m
    (bs.any fun b => b.pure && !s.contains b.i && r.contains b.i && Region.free md ops m b.i && b.needs.all s.contains) ||
    (!r.isEmpty && r.all fun i => is.contains i && bs.all fun b => b.i != i || b.needs.all s.contains))

/-- What is known of the operations of a batch that are through. -/
def Through (w0 : World) (bs : List BOp) (vs : Nat → Value) (l h : Nat → Nat) (w : World) : Prop :=
  ∀ b ∈ bs, w0.heap.size ≤ l b.i ∧ l b.i ≤ h b.i ∧ h b.i ≤ w.heap.size ∧ b.Rel ((b.i :: b.needs).map vs) (l b.i) (h b.i) w
/-- No two made the same block. -/
def Spread (is : List Nat) (l h : Nat → Nat) : Prop := ∀ i ∈ is, ∀ j ∈ is, i ≠ j → h i ≤ l j ∨ h j ≤ l i
/-- What is to be shown of one operation. -/
def BGoal (P : Program) (Q : Exit → Act → World → Prop) (S : World → Prop) (b : BOp) (o : Oper) (vl : List Value) (a : Act) (w1 : World) : Prop :=
  if b.pure = true then ∃ v, b.Rel (v :: vl) w1.heap.size w1.heap.size w1 ∧ ∀ w', S w' → (execOp a.eval o).run P w' = .ok (.value v) w'
  else ∀ K : Act → World → Prop, (∀ v w2, Below w1.heap.size w1 w2 → b.Rel (v :: vl) w1.heap.size w2.heap.size w2 → K (a.put o.dst v) w2) → Oper.wp P o a w1 K Q
def BStep (P : Program) (ops : Array Oper) (Q : Exit → Act → World → Prop) (S : World → Prop) (bs : List BOp) (a : Act) (w : World) (b : BOp) : Prop :=
  ∀ o, ops[b.i]? = some o → ∀ (vs : Nat → Value) (l h : Nat → Nat) (w1 : World), Below w.heap.size w w1 → (∀ c ∈ bs, c.i ∈ b.needs → w.heap.size ≤ l c.i ∧ l c.i ≤ h c.i ∧ h c.i ≤ w1.heap.size ∧ c.Rel ((c.i :: c.needs).map vs) (l c.i) (h c.i) w1) → Spread b.needs l h →
    BGoal P Q S b o (b.needs.map vs) (putAll ops vs b.needs a) w1
def BStay (b : BOp) : Prop := ∀ vl l h w1 w2, b.Rel vl l h w1 → h ≤ w1.heap.size → Below w1.heap.size w1 w2 → b.Rel vl l h w2

theorem wpAnyH_batch (bs : List BOp) {n : Nat} (hbn : bs.length = n) {is : List Nat} (his : is = bs.map (·.i)) {fuel : Nat} {listed : Array Bool} {a : Act} {w : World} (hok : batchOk md ops bs listed = true) (hnd : is.Nodup) (hsel : Region.noSelect ops = true)
    (hQ : ∀ c a a' w, Q (.panic c) a w → Q (.panic c) a' w) (hS : ∀ w', Below w.heap.size w w' → S w') (hst : ∀ b ∈ bs, BStay b) (hop : ∀ b ∈ bs, BStep P ops Q S bs a w b)
    (hend : ∀ vs l h w', Below w.heap.size w w' → Through w bs vs l h w' → Spread is l h → wpAnyH P md ops Q S fuel (markAll is listed) (putAll ops vs is a) w') :
    wpAnyH P md ops Q S (fuel + n) listed a w := by
  subst hbn
  unfold batchOk at hok
  rw [← his] at hok
  simp only [Bool.and_eq_true] at hok
  obtain ⟨hok1, hok2⟩ := hok
  have hlen : is.length = bs.length := by rw [his]; simp
  have hmem : ∀ i ∈ is, ∃ b ∈ bs, b.i = i := fun i hi => by rw [his] at hi; exact List.mem_map.1 hi
  have hat : ∀ b ∈ bs, ∃ o, ops[b.i]? = some o ∧ o.guard = none ∧ (∀ i ∈ b.needs, i ∈ is) ∧ (∀ c ∈ bs, b.i ≠ c.i → dstAt ops b.i ≠ dstAt ops c.i) ∧ (∀ c ∈ bs, ∃ d, dstAt ops c.i = some d ∧ (d ∈ o.looksAt ops → c.i ∈ b.needs)) := by
    intro b hb
    have h1 := List.all_eq_true.1 hok1 b hb
    cases ho : ops[b.i]? with
    | none => rw [ho] at h1; cases h1
    | some o =>
      rw [ho] at h1
      simp only [Bool.and_eq_true, List.all_eq_true] at h1
      obtain ⟨⟨⟨h2, h3⟩, h4⟩, h5⟩ := h1
      refine ⟨o, rfl, by simpa using h2, fun i hi => by simpa using h4 i hi, fun c hc hne => ?_, fun c hc => ?_⟩
      · have h6 := (h5 c hc).1
        simp only [Bool.or_eq_true, beq_iff_eq, bne_iff_ne] at h6
        exact h6.resolve_left hne
      · have h6 := (h5 c hc).2
        cases hd : dstAt ops c.i with
        | none => rw [hd] at h6; cases h6
        | some d =>
          rw [hd] at h6
          refine ⟨d, rfl, fun hl => ?_⟩
          simp only [Bool.or_eq_true, Bool.not_eq_true', List.contains_eq_mem, decide_eq_true_eq, decide_eq_false_iff_not] at h6
          exact h6.resolve_left (fun h => h hl)
  have hdst : ∀ i ∈ is, ∀ j ∈ is, i ≠ j → ∀ d, dstAt ops i = some d → dstAt ops j ≠ some d := by
    intro i hi j hj hne d hd hd2
    obtain ⟨b, hb, rfl⟩ := hmem i hi
    obtain ⟨c, hc, rfl⟩ := hmem j hj
    obtain ⟨o, _, _, _, h4, _⟩ := hat b hb
    exact h4 c hc hne (hd.trans hd2.symm)
  suffices H : ∀ (n : Nat) (ds rs : List Nat) (vs : Nat → Value) (l h : Nat → Nat) (w1 : World), (ds ++ rs).Perm is → rs.length = n → (∀ b ∈ bs, b.i ∈ ds → ∀ j ∈ b.needs, j ∈ ds) → Below w.heap.size w w1 →
      (∀ b ∈ bs, b.i ∈ ds → w.heap.size ≤ l b.i ∧ l b.i ≤ h b.i ∧ h b.i ≤ w1.heap.size ∧ b.Rel ((b.i :: b.needs).map vs) (l b.i) (h b.i) w1) → Spread ds l h → wpAnyH P md ops Q S (fuel + n) (markAll ds listed) (putAll ops vs ds a) w1 by
    have := H is.length [] is (fun _ => undef) (fun _ => 0) (fun _ => 0) w (List.Perm.refl _) rfl (fun _ _ h => absurd h List.not_mem_nil) (Below.refl _ _) (fun _ _ h => absurd h List.not_mem_nil) (fun _ h => absurd h List.not_mem_nil)
    rw [← hlen]; exact this
  intro n
  induction n with
  | zero =>
    intro ds rs vs l h w1 hpp hl _ hz hth hsp
    have hp : ds.Perm is := by
      rw [List.eq_nil_of_length_eq_zero hl, List.append_nil] at hpp
      exact hpp
    have hsub : ∀ i ∈ ds, i ∈ is := fun i hi => hp.mem_iff.1 hi
    rw [markAll_perm hp, putAll_perm vs hp fun i hi j hj => hdst i (hsub i hi) j (hsub j hj)]
    exact hend vs l h w1 hz (fun b hb => hth b hb (hp.mem_iff.2 (by rw [his]; exact List.mem_map.2 ⟨b, hb, rfl⟩))) (fun i hi j hj => hsp i (hp.mem_iff.2 hi) j (hp.mem_iff.2 hj))
  | succ n ih =>
    intro ds rs vs l h w1 hpp hl hns hz hth hsp
    have hsub : ∀ i ∈ ds, i ∈ is := fun i hi => hpp.mem_iff.1 (List.mem_append_left _ hi)
    have hd : ds.Nodup := (List.nodup_append.1 (hpp.nodup_iff.2 hnd)).1
    have hll : ds.length + rs.length = is.length := by rw [← hpp.length_eq, List.length_append]
    have hp : ds.Perm (is.filter ds.contains) := by
      refine (List.perm_ext_iff_of_nodup hd (hnd.filter _)).2 fun i => ?_
      simp only [List.mem_filter, List.contains_eq_mem, decide_eq_true_eq]
      exact ⟨fun hi => ⟨hsub i hi, hi⟩, fun hi => hi.2⟩
    have hc := List.all_eq_true.1 hok2 _ (subs_filter ds.contains is)
    rw [← markAll_perm hp, ← hp.length_eq, show (ds.length == is.length) = false by rw [beq_eq_false_iff_ne]; omega] at hc
    have hcl : (bs.any fun b => (is.filter ds.contains).contains b.i && !b.needs.all (is.filter ds.contains).contains) = false := by
      rw [List.any_eq_false]
      intro b hb hcb
      simp only [Bool.and_eq_true, Bool.not_eq_true', List.contains_eq_mem, List.mem_filter, decide_eq_true_eq] at hcb
      obtain ⟨⟨_, hbd⟩, hcb⟩ := hcb
      rw [List.all_eq_false] at hcb
      obtain ⟨j, hj, hj2⟩ := hcb
      refine hj2 ?_
      simp only [List.contains_eq_mem, List.mem_filter, decide_eq_true_eq]
      have hjd := hns b hb hbd j hj
      exact ⟨hsub j hjd, hjd⟩
    rw [hcl] at hc
    simp only [Bool.false_or, Bool.or_eq_true] at hc
    rw [show fuel + (n + 1) = (fuel + n) + 1 from rfl]
    have hev : ∀ b ∈ bs, (∀ j ∈ b.needs, j ∈ ds) → ∀ o, ops[b.i]? = some o → execOp (putAll ops vs ds a).eval o = execOp (putAll ops vs b.needs a).eval o := by
      intro b hb hnds o ho
      obtain ⟨o', ho', hg, hnb, hdd, hlk⟩ := hat b hb
      obtain rfl : o = o' := by rw [ho] at ho'; exact Option.some.inj ho'
      refine execOp_congr o (Region.noSelect_spec hsel b.i o · · ho) fun x hx => ?_
      by_cases hxx : ∃ c ∈ bs, ∃ d, dstAt ops c.i = some d ∧ x = .tmp d
      · obtain ⟨c, hcb, d, hcd, rfl⟩ := hxx
        have hcis : c.i ∈ is := by rw [his]; exact List.mem_map.2 ⟨c, hcb, rfl⟩
        obtain ⟨d', hd', hin⟩ := hlk c hcb
        obtain rfl : d = d' := by rw [hcd] at hd'; exact Option.some.inj hd'
        have hcn : c.i ∈ b.needs := hin (List.mem_append_left _ (List.mem_filterMap.2 ⟨.tmp d, by simpa using hx, rfl⟩))
        have uniq : ∀ j ∈ is, dstAt ops j = some d → j = c.i := fun j hj hjd => Classical.byContradiction fun hne => hdst j hj c.i hcis hne d hjd hcd
        rw [putAll_eval_at vs hcd ds a a rfl (fun j hj => uniq j (hsub j hj)) (hnds _ hcn), putAll_eval_at vs hcd b.needs a a rfl (fun j hj => uniq j (hnb j hj)) hcn]
      · have hno : ∀ j ∈ is, ∀ d, dstAt ops j = some d → x ≠ .tmp d := fun j hj d hjd hxd => by
          obtain ⟨c, hcb, rfl⟩ := hmem j hj
          exact hxx ⟨c, hcb, d, hjd, hxd⟩
        rw [putAll_eval_ne vs ds a (fun j hj => hno j (hsub j hj)), putAll_eval_ne vs b.needs a (fun j hj => hno j (hnb j hj))]
    have step : ∀ b ∈ bs, b.i ∉ ds → (∀ j ∈ b.needs, j ∈ ds) → ∀ o, ops[b.i]? = some o → ∀ v w2, Below w1.heap.size w1 w2 → b.Rel (v :: b.needs.map vs) w1.heap.size w2.heap.size w2 → wpAnyH P md ops Q S (fuel + n) ((markAll ds listed).setIfInBounds b.i true) ((putAll ops vs ds a).put o.dst v) w2 := by
      intro b hb hnd2 hnds o ho v w2 hz2 hrel
      have hib : b.i ∈ is := by rw [his]; exact List.mem_map.2 ⟨b, hb, rfl⟩
      have hz3 : Below w.heap.size w w2 := hz.trans (hz2.mono hz.size)
      have hne : ∀ j ∈ ds, j ≠ b.i := fun j hj e => hnd2 (e ▸ hj)
      have hdo : o.dst = dstAt ops b.i := by unfold dstAt; rw [ho]; rfl
      have hvs : ∀ j ∈ ds, vs j = (fun k => if k = b.i then v else vs k) j := fun j hj => by simp [hne j hj]
      have hput : (putAll ops vs ds a).put o.dst v = putAll ops (fun k => if k = b.i then v else vs k) (ds ++ [b.i]) a := by
        rw [putAll_snoc, ← putAll_congr ds a hvs, hdo]
        simp
      rw [hput, ← markAll_snoc]
      have hsz := hz2.size
      have hir : b.i ∈ rs := (List.mem_append.1 (hpp.mem_iff.2 hib)).resolve_left hnd2
      have hpn : ((ds ++ [b.i]) ++ rs.erase b.i).Perm is := by
        rw [List.append_assoc]
        exact ((List.perm_cons_erase hir).symm.append_left ds).trans hpp
      refine ih (ds ++ [b.i]) (rs.erase b.i) _ (fun k => if k = b.i then w1.heap.size else l k) (fun k => if k = b.i then w2.heap.size else h k) w2 hpn ?_ ?_ hz3 ?_ ?_
      · rw [List.length_erase_of_mem hir]; omega
      · intro c hc hci j hj
        rcases List.mem_append.1 hci with hci | hci
        · exact List.mem_append_left _ (hns c hc hci j hj)
        · have e := List.mem_singleton.1 hci
          have hcb : c.needs = b.needs := by
            have : c = b := by
              have hnd' := hnd
              rw [his] at hnd'
              exact map_inj hnd' hc hb e
            rw [this]
          rw [hcb] at hj
          exact List.mem_append_left _ (hnds j hj)
      · intro c hc hci
        by_cases e : c.i = b.i
        · have hcb : c = b := by
            have hnd' := hnd
            rw [his] at hnd'
            exact map_inj hnd' hc hb e
          subst hcb
          simp only [if_true]
          refine ⟨hz.size, hsz, Nat.le_refl _, ?_⟩
          have : List.map (fun k => if k = c.i then v else vs k) (c.i :: c.needs) = v :: c.needs.map vs := by
            rw [List.map_cons, if_pos rfl]
            congr 1
            exact List.map_congr_left fun j hj => if_neg (hne j (hnds j hj))
          rw [this]
          exact hrel
        · have hci' : c.i ∈ ds := (List.mem_append.1 hci).resolve_right fun h => e (List.mem_singleton.1 h)
          obtain ⟨q1, q2, q3, q4⟩ := hth c hc hci'
          simp only [if_neg e]
          refine ⟨q1, q2, Nat.le_trans q3 hsz, ?_⟩
          have : List.map (fun k => if k = b.i then v else vs k) (c.i :: c.needs) = (c.i :: c.needs).map vs := by
            refine List.map_congr_left fun j hj => if_neg ?_
            rcases List.mem_cons.1 hj with rfl | hj
            · exact e
            · exact hne j (hns c hc hci' j hj)
          rw [this]
          exact hst c hc _ _ _ _ _ q4 q3 hz2
      · have hhi : ∀ j ∈ ds, h j ≤ w1.heap.size := fun j hj => by
          obtain ⟨c, hc, rfl⟩ := hmem j (hsub j hj)
          exact (hth c hc hj).2.2.1
        intro j hj k hk hjk
        rcases List.mem_append.1 hj with hj | hj <;> rcases List.mem_append.1 hk with hk | hk
        · have e1 := hne j hj
          have e2 := hne k hk
          simp only [if_neg e1, if_neg e2]
          exact hsp j hj k hk hjk
        · have e1 := hne j hj
          rw [List.mem_singleton.1 hk]
          simp only [if_neg e1, if_true]
          exact .inl (hhi j hj)
        · have e1 := hne k hk
          rw [List.mem_singleton.1 hj]
          simp only [if_neg e1, if_true]
          exact .inr (hhi k hk)
        · exact absurd ((List.mem_singleton.1 hj).trans (List.mem_singleton.1 hk).symm) hjk
    rcases hc with hc | hc
    · obtain ⟨b, hb, hcb⟩ := List.any_eq_true.1 hc
      simp only [Bool.and_eq_true, Bool.not_eq_true'] at hcb
      obtain ⟨⟨⟨⟨hpure, hns2⟩, hrb⟩, hfree⟩, hneeds⟩ := hcb
      obtain ⟨o, ho, hg, hnb, hdd, hlk⟩ := hat b hb
      have hib : b.i ∈ is := by rw [his]; exact List.mem_map.2 ⟨b, hb, rfl⟩
      have hnd2 : b.i ∉ ds := fun hin => by
        have : (is.filter ds.contains).contains b.i = true := by
          simp only [List.contains_eq_mem, List.mem_filter, decide_eq_true_eq]
          exact ⟨hib, hin⟩
        rw [this] at hns2; cases hns2
      have hnds : ∀ j ∈ b.needs, j ∈ ds := fun j hj => by
        have h2 := List.all_eq_true.1 hneeds j hj
        simp only [List.contains_eq_mem, List.mem_filter, decide_eq_true_eq] at h2
        exact h2.2
      have hobs := hop b hb o ho vs l h w1 hz (fun c hc hcn => hth c hc (hnds _ hcn)) (fun i hi j hj => hsp i (hnds i hi) j (hnds j hj))
      unfold BGoal at hobs
      rw [if_pos hpure] at hobs
      obtain ⟨v, hrel, hrun⟩ := hobs
      exact wpAnyH_take (i := b.i) (v := v) ho hsel hfree hrb (fun c _ w' h' => hQ c _ _ w' h') (.inl ⟨by unfold Region.wanted; rw [hg], fun w' hw' => by rw [hev b hb hnds o ho]; exact hrun w' hw'⟩) (hS _ hz) (step b hb hnd2 hnds o ho v w1 (Below.refl _ _) hrel)
    simp only [Bool.and_eq_true, Bool.not_eq_true', List.all_eq_true] at hc
    obtain ⟨hne, hr⟩ := hc
    refine ⟨fun h0 => by rw [h0] at hne; simp at hne, fun i hi => ?_⟩
    have hri := hr i hi
    have hib : i ∈ is := by simpa using hri.1
    have hnd2 : i ∉ ds := fun hin => by
      have h1 := (mem_ready.1 hi).1
      rw [markAll_true ds listed i (.inl hin)] at h1
      cases h1
    obtain ⟨b, hb, rfl⟩ := hmem i hib
    have hnds : ∀ j ∈ b.needs, j ∈ ds := fun j hj => by
      have h1 := hri.2 b hb
      simp only [bne_self_eq_false, Bool.false_or, List.all_eq_true] at h1
      have h2 := h1 j hj
      simp only [List.contains_eq_mem, List.mem_filter, decide_eq_true_eq] at h2
      exact h2.2
    obtain ⟨o, ho, hg, hnb, hdd, hlk⟩ := hat b hb
    have hobs := hop b hb o ho vs l h w1 hz (fun c hc hcn => hth c hc (hnds _ hcn)) (fun i hi j hj => hsp i (hnds i hi) j (hnds j hj))
    have he := hev b hb hnds o ho
    unfold wpOp
    rw [ho]
    have hw : Region.wanted o (yielded ops (putAll ops vs ds a).tmps) = true := by unfold Region.wanted; rw [hg]
    simp only [hw, if_true]
    left
    refine Oper.wp_move (fun v w2 => Below w1.heap.size w1 w2 ∧ b.Rel (v :: b.needs.map vs) w1.heap.size w2.heap.size w2) (by rw [putAll_size, putAll_size]) he hQ ?_ (fun v w2 ⟨hz2, hrel⟩ => ⟨hS _ (hz.trans (hz2.mono hz.size)), step b hb hnd2 hnds o ho v w2 hz2 hrel⟩)
    unfold BGoal at hobs
    by_cases hpure : b.pure = true
    · rw [if_pos hpure] at hobs
      obtain ⟨v, hrel, hrun⟩ := hobs
      show o.upon P _ _ Q _
      rw [hrun w1 (hS _ hz)]
      exact ⟨v, rfl, Below.refl _ _, hrel⟩
    · rw [if_neg hpure] at hobs
      exact hobs _ fun v w2 hz2 hrel => ⟨v, rfl, hz2, hrel⟩

theorem BStep.mk {bs : List BOp} {a : Act} {w : World} {i : Nat} {ns : List Nat} {R : List Value → Nat → Nat → World → Prop} {o : Oper} (ho : ops[i]? = some o) (h : ∀ (vs : Nat → Value) (l h : Nat → Nat) (w1 : World), Below w.heap.size w w1 → (∀ c ∈ bs, c.i ∈ ns → w.heap.size ≤ l c.i ∧ l c.i ≤ h c.i ∧ h c.i ≤ w1.heap.size ∧ c.Rel ((c.i :: c.needs).map vs) (l c.i) (h c.i) w1) → Spread ns l h →
    ∀ K : Act → World → Prop, (∀ v w2, Below w1.heap.size w1 w2 → R (v :: ns.map vs) w1.heap.size w2.heap.size w2 → K ((putAll ops vs ns a).put o.dst v) w2) → Oper.wp P o (putAll ops vs ns a) w1 K Q) : BStep P ops Q S bs a w ⟨i, ns, R, false⟩ := fun o' ho' => by
  cases ho.symm.trans ho'
  intro vs l h' w1 hz hn hsp
  unfold BGoal
  rw [if_neg (by simp)]
  exact h vs l h' w1 hz hn hsp
theorem BStep.pure {bs : List BOp} {a : Act} {w : World} {i : Nat} {ns : List Nat} {R : List Value → Nat → Nat → World → Prop} {o : Oper} (ho : ops[i]? = some o) (h : ∀ (vs : Nat → Value) (l h : Nat → Nat) (w1 : World), Below w.heap.size w w1 → (∀ c ∈ bs, c.i ∈ ns → w.heap.size ≤ l c.i ∧ l c.i ≤ h c.i ∧ h c.i ≤ w1.heap.size ∧ c.Rel ((c.i :: c.needs).map vs) (l c.i) (h c.i) w1) → Spread ns l h →
    ∃ v, R (v :: ns.map vs) w1.heap.size w1.heap.size w1 ∧ ∀ w', S w' → (execOp (putAll ops vs ns a).eval o).run P w' = .ok (.value v) w') : BStep P ops Q S bs a w ⟨i, ns, R, true⟩ := fun o' ho' => by
  cases ho.symm.trans ho'
  intro vs l h' w1 hz hn hsp
  unfold BGoal
  rw [if_pos rfl]
  exact h vs l h' w1 hz hn hsp
theorem BStep.all_nil {bs : List BOp} {a : Act} {w : World} : ∀ b ∈ ([] : List BOp), BStep P ops Q S bs a w b := fun _ h => absurd h List.not_mem_nil
theorem BStep.all_cons {bs : List BOp} {a : Act} {w : World} {b : BOp} {rest : List BOp} (h : BStep P ops Q S bs a w b) (hr : ∀ c ∈ rest, BStep P ops Q S bs a w c) : ∀ c ∈ b :: rest, BStep P ops Q S bs a w c := fun c hc => by
  rcases List.mem_cons.1 hc with rfl | hc
  · exact h
  · exact hr c hc
theorem BStay.all_nil : ∀ b ∈ ([] : List BOp), BStay b := fun _ h => absurd h List.not_mem_nil
theorem BStay.all_cons {b : BOp} {rest : List BOp} (h : BStay b) (hr : ∀ c ∈ rest, BStay c) : ∀ c ∈ b :: rest, BStay c := fun c hc => by
  rcases List.mem_cons.1 hc with rfl | hc
  · exact h
  · exact hr c hc
end

theorem alloc_pack3 {V w : World} {B : Nat} (h : Below B V w) (hB : B ≤ w.heap.size) (cs : Array Value) (t : TypeId) : ∃ W g, w.alloc (.cells cs t) = W ∧ g = w.heap.size ∧ Below w.heap.size w W ∧ Blk W g t cs ∧ B ≤ g ∧ Below B V W :=
  ⟨_, _, rfl, rfl, (Below.refl _ _).alloc (Nat.le_refl _) _, Blk.new w t cs, hB, h.alloc hB _⟩
theorem Blk.keptH {w w' : World} {g : Nat} {t : TypeId} {c : Array Value} (h : Blk w g t c) (e : w'.heap[g]? = w.heap[g]?) : Blk w' g t c := e.trans h
/-- A block that was made. -/
def RMade (mk : Nat → Value) (t : TypeId) (cs : Array Value) : List Value → Nat → Nat → World → Prop := fun vl l h w => ∃ g, vl = [mk g] ∧ Blk w g t cs ∧ l ≤ g ∧ g < h
theorem RMade.stay {mk : Nat → Value} {t : TypeId} {cs : Array Value} {i : Nat} {ns : List Nat} {pu : Bool} : BStay ⟨i, ns, RMade mk t cs, pu⟩ := by
  rintro vl l h w1 w2 ⟨g, e, hb, h1, h2⟩ hh z
  exact ⟨g, e, hb.below' z, h1, h2⟩
/-- A value that is known. -/
def RKnown (p : List Value → Prop) : List Value → Nat → Nat → World → Prop := fun vl _ _ _ => p vl
theorem RKnown.stay {p : List Value → Prop} {i : Nat} {ns : List Nat} {pu : Bool} : BStay ⟨i, ns, RKnown p, pu⟩ := fun _ _ _ _ _ h _ _ => h
/-- What a call leaves, as its contract says it. -/
def RCall (T : World → Ending → World → Prop) : List Value → Nat → Nat → World → Prop := fun vl l _ w => ∃ w0 w1 v, vl.head? = some v ∧ T w0 (.returned v) w1 ∧ w0.heap.size = l ∧ Below w1.heap.size w1 w
theorem RCall.stay {T : World → Ending → World → Prop} {i : Nat} {ns : List Nat} {pu : Bool} : BStay ⟨i, ns, RCall T, pu⟩ := by
  rintro vl l h w1 w2 ⟨w0, wa, v, e, ht, e2, z⟩ hh zz
  exact ⟨w0, wa, v, e, ht, e2, z.trans (zz.mono z.size)⟩
end Go.Proofs.Ytbpofkggoolmpaa

/-
  Contracts of impl.copyLists and impl.copyFormula.
-/
namespace Go.Proofs.Ytbpofkggoolmpaa
open Go.RowKit

def NewRows (w : World) (xss : List (List Int)) (e : Ending) (w' : World) : Prop :=
  ∃ (B : Option Addr) (d : Nat) (us : List Sl), e = .returned (.slice B us.length d) ∧ OII w' w.heap.size 26 2 B us.length d us ∧ nums us = xss ∧ Below w.heap.size w w'
/-- The rows that were copied so far. -/
def CpS (w : World) (xss : List (List Int)) (k : Nat) (B : Option Addr) (d : Nat) (us : List Sl) (wr : World) : Prop :=
  OII wr w.heap.size 26 2 B us.length d us ∧ nums us = xss.take k ∧ Below w.heap.size w wr

set_option maxRecDepth 100000 in
set_option maxHeartbeats 2000000 in
theorem copyLists_any (A : Option Addr) (n c : Nat) (ts : List Sl) (w : World) (hx : SII w A n ts) (hn : n ≤ 1048576) (hns : ∀ t ∈ ts, t.xs.length ≤ 1048576) :
    Calls Try.prog 185 #[.slice A n c] w (NewRows w (nums ts)) := by
  have HX := Lib.hid hx
  have HNS := Lib.hid hns
  have HTL := Lib.hid hx.len
  clear hx hns
  go_enter Try.func185, Try.ntmps185
  go_upto_region 2 with fail
  obtain ⟨W0, hW0⟩ : ∃ W0, W0 = w.alloc (.cells #[] 26) := ⟨_, rfl⟩
  have hst : CpS w (nums ts) 0 (some ⟨w.heap.size, 0, none⟩) 0 [] W0 := by
    rw [hW0]
    exact ⟨OII.nil (Own.lit0 w _ 1), rfl, (Below.refl _ _).alloc (Nat.le_refl _) _⟩
  have HST := Lib.hid hst
  rw [← hW0]
  clear hW0 hst
  go_wp2_with fail
  go_loopw [3, 9] (fun s3 s9 wr => ∃ (k : Nat) (B : Option Addr) (d : Nat) (us : List Sl), k ≤ n ∧ s9 = .int .i64 (k : Int) ∧ s3 = .slice B us.length d ∧ Hid (CpS w (nums ts) k B d us wr)) (fun _ s9 _ => n - (intOf s9).toNat)
  case atStart => exact ⟨0, _, _, [], Nat.zero_le _, rfl, rfl, HST⟩
  case round =>
    obtain ⟨k, B, d, us, hk, rfl, rfl, HS⟩ := hrel
    obtain ⟨hO, hN, hz⟩ := HS.out
    have hsz := hz.size
    have HNN := Lib.hid hN
    have i1 : (0 : Int) ≤ (k : Int) := by omega
    have hul : us.length = k := by have h1 := congrArg List.length hN; rw [nums_len, List.length_take, nums_len, HTL.out] at h1; omega
    have hul2 : us.length ≤ 1048576 := by omega
    have HUL := Lib.hid hul
    clear hN hul HS HST
    by_cases hlt : k < n
    · obtain ⟨t, bb, off, hT, htm, rfl, hbl, hc, hrow⟩ := (HX.out.below hz).pick hlt
      have hnt := HNS.out t htm
      have i2 : (k : Int) < (n : Int) := by omega
      have HROW := Lib.hid hrow
      have HOO := Lib.hid hO
      clear hrow hO
      go_wp2_with (first
        | (go_at_call 175; refine (cloneI_any _ _ _ t.xs _ HROW.out hnt).mono ?_; rintro e W4 ⟨D, dd, rfl, oD, z4⟩)
        | (at_builtin; refine wpList_append_Own rfl (.tmp 13) (.tmp 16) rfl elII (lo := w.heap.size) rfl ((HOO.out.below z4).1.alloc _) rfl (Rd.new1 W4 (.slice D t.xs.length dd) _) (by simp [Value.oneCell']) (by omega) (by simp only [maxLen]; omega) (by have := z4.size; simp; omega) ?_; intro A8 c8 w8 ho8 hg8 hw8))
      have z4a : Below wr.heap.size wr (W4.alloc (.cells #[.slice D t.xs.length dd] 26)) := z4.alloc z4.size _
      have hO8 := OII.snoc HOO.out (HOO.out.below z4a) (u := ⟨D, dd, t.xs⟩) ho8 hg8 (oD.alloc _) (Nat.le_refl _) hsz (by decide)
      have hz8 := ((HOO.out.below z4a).1).below_of (hz.trans (z4a.mono hsz)) hg8 (Nat.le_trans hsz z4a.size)
      have hN8 : nums (us ++ [⟨D, dd, t.xs⟩]) = (nums ts).take (k + 1) := nums_take_next hT.out HNN.out rfl
      have HR : Hid (CpS w (nums ts) (k + 1) A8 c8 (us ++ [⟨D, dd, t.xs⟩]) w8) := Lib.hid ⟨by rw [List.length_append]; exact hO8, hN8, hz8⟩
      exact ⟨⟨k + 1, A8, c8, us ++ [⟨D, dd, t.xs⟩], by omega, by go_num, by rw [List.length_append]; rfl, HR⟩, by simp [intOf]; omega⟩
    · have i2 : ¬ (k : Int) < (n : Int) := by omega
      have hkn : k = n := by omega
      have HNF : Hid (nums us = nums ts) := Lib.hid (by rw [HNN.out, List.take_of_length_le (by rw [nums_len, HTL.out]; omega)])
      have HOO := Lib.hid hO
      clear hO HNN hkn
      go_wp2_with fail
      go_ret
      exact ⟨B, d, us, rfl, HOO.out, HNF.out, hz⟩

/-- Walls, repeaters and offsets that were made one behind the other. -/
theorem FmO.join {w1 w2 w : World} {lo lo2 lo3 c d k : Nat} {A B C : Option Addr} {ts us : List Sl} {os : List Int} (h1 : OII w1 lo 26 2 A ts.length c ts) (h2 : OII w2 lo2 26 2 B us.length d us) (h3 : Own w lo3 2 1 C os.length k (ints os))
    (z1 : Below w1.heap.size w1 w) (z2 : Below w2.heap.size w2 w) (k0 : lo ≤ lo2) (k1 : w1.heap.size ≤ lo2) (k2 : w1.heap.size ≤ lo3) (k3 : w2.heap.size ≤ lo3) (k4 : lo ≤ lo3) : FmO w lo A c ts B d us C k os := by
  refine ⟨h1.below z1, (h2.below z2).mono k0, h3.mono k4, ?_, ?_, ?_, ?_⟩
  · rintro b ⟨t, ht, hb⟩ ⟨u, hu, hb'⟩
    have := (h1.2.1 t ht).blk_lt b hb
    have := (h2.2.1 u hu).blk_ge b hb'
    omega
  · rintro b ⟨t, ht, hb⟩ hb'
    have := (h1.2.1 t ht).blk_lt b hb
    have := h3.blk_ge b hb'
    omega
  · rintro b ⟨t, ht, hb⟩ hb'
    have := (h2.2.1 t ht).blk_lt b hb
    have := h3.blk_ge b hb'
    omega
  · intro b hb hb'
    have := h1.1.blk_lt b hb
    have := h2.1.blk_ge b hb'
    omega
/-- A formula tape in a box of its own. -/
def FmBox (w : World) (lo g : Nat) (f : Fm) : Prop :=
  ∃ (A : Option Addr) (c : Nat) (ts : List Sl) (B : Option Addr) (d : Nat) (us : List Sl) (C : Option Addr) (k : Nat), Blk w g 31 #[.int .i64 f.q, .int .i64 f.h, .int .i64 f.a, .slice A ts.length c, .slice B us.length d, .slice C f.O.length k] ∧ FmR w lo f A c ts B d us C k ∧ lo ≤ g
theorem FmBox.below {w w' : World} {lo g : Nat} {f : Fm} (h : FmBox w lo g f) (z : Below w.heap.size w w') : FmBox w' lo g f := by
  obtain ⟨A, c, ts, B, d, us, C, k, hb, hr, hl⟩ := h
  exact ⟨A, c, ts, B, d, us, C, k, hb.below' z, hr.below z, hl⟩

set_option maxRecDepth 100000 in
set_option maxHeartbeats 2000000 in
theorem copyFormula_any (q h a : Int) (A : Option Addr) (n c : Nat) (ts : List Sl) (B : Option Addr) (m d : Nat) (us : List Sl) (C : Option Addr) (l k : Nat) (os : List Int) (w : World) (hx : SII w A n ts) (hy : SII w B m us) (hz : SI w C l os) (hn : n ≤ 1048576) (hm : m ≤ 1048576) (hl : l ≤ 1048576) (hns : ∀ t ∈ ts, t.xs.length ≤ 1048576) (hms : ∀ t ∈ us, t.xs.length ≤ 1048576) :
    Calls Try.prog 92 #[.agg #[.int .i64 q, .int .i64 h, .int .i64 a, .slice A n c, .slice B m d, .slice C l k]] w fun e w' => ∃ g, e = .returned (.pointer (some ⟨g, 0, none⟩)) ∧ FmBox w' w.heap.size g ⟨q, h, a, nums ts, nums us, os⟩ ∧ Below w.heap.size w w' := by
  obtain ⟨W, hW_⟩ : ∃ W, W = w.alloc (.cells #[.int .i64 q, .int .i64 h, .int .i64 a, .slice A n c, .slice B m d, .slice C l k] 31) := ⟨_, rfl⟩
  have b0 : Blk W w.heap.size 31 #[.int .i64 q, .int .i64 h, .int .i64 a, .slice A n c, .slice B m d, .slice C l k] := by rw [hW_]; exact Blk.new w _ _
  have y0 : Below w.heap.size w W := by rw [hW_]; exact (Below.refl _ _).alloc (Nat.le_refl _) _
  have HW := Lib.hid hW_
  clear hW_
  have HX := Lib.hid (hx.below y0)
  have HY := Lib.hid (hy.below y0)
  have HZ := Lib.hid (hz.below y0)
  have HNS := Lib.hid hns
  have HMS := Lib.hid hms
  have HOL := Lib.hid hz.len
  clear hx hy hz hns hms
  go_enter Try.func92, Try.ntmps92
  go_upto_region 1 with fail
  rw [← HW.out]
  have hp : Below W.heap.size W W.drew := below_drewN (Below.refl _ _) 1
  refine wp_region_noPanic ?_
  refine wp_region_held_drew (S := (fun w' => w'.cell? ⟨w.heap.size, 0, none⟩ = some (.int .i64 q) ∧ w'.cell? ⟨w.heap.size, 1, none⟩ = some (.int .i64 h) ∧ w'.cell? ⟨w.heap.size, 2, none⟩ = some (.int .i64 a) ∧ w'.cell? ⟨w.heap.size, 3, none⟩ = some (.slice A n c) ∧ w'.cell? ⟨w.heap.size, 4, none⟩ = some (.slice B m d) ∧ w'.cell? ⟨w.heap.size, 5, none⟩ = some (.slice C l k))) (by kernel_rfl) ?_ (fun hHeld => ?_)
  · exact ⟨(b0.below' hp).cell 0, (b0.below' hp).cell 1, (b0.below' hp).cell 2, (b0.below' hp).cell 3, (b0.below' hp).cell 4, (b0.below' hp).cell 5⟩
  generalize W.drew = Wc at *
  refine wpAnyH_take (i := 0) (v := ?_) rfl (by kernel_rfl) (by kernel_rfl) (by kernel_rfl) (fun _ _ _ h => h) (Or.inl ⟨by rfl, ?_⟩) (by assumption) ?_
  rotate_left
  · intro w hSw
    try dsimp only at hSw
    obtain ⟨hs0_, hs1_, hs2_, hs3_, hs4_, hs5_⟩ := hSw
    go_simp
    try with_reducible rfl
  try simp only [Act.put, List.setIfInBounds_toArray]
  refine wpAnyH_take (i := 1) (v := ?_) rfl (by kernel_rfl) (by kernel_rfl) (by kernel_rfl) (fun _ _ _ h => h) (Or.inl ⟨by rfl, ?_⟩) (by assumption) ?_
  rotate_left
  · intro w hSw
    try dsimp only at hSw
    obtain ⟨hs0_, hs1_, hs2_, hs3_, hs4_, hs5_⟩ := hSw
    go_simp
    try with_reducible rfl
  try simp only [Act.put]
  refine wpAnyH_take (i := 2) (v := ?_) rfl (by kernel_rfl) (by kernel_rfl) (by kernel_rfl) (fun _ _ _ h => h) (Or.inl ⟨by rfl, ?_⟩) (by assumption) ?_
  rotate_left
  · intro w hSw
    try dsimp only at hSw
    obtain ⟨hs0_, hs1_, hs2_, hs3_, hs4_, hs5_⟩ := hSw
    go_simp
    try with_reducible rfl
  try simp only [Act.put]
  refine wpAnyH_take (i := 3) (v := ?_) rfl (by kernel_rfl) (by kernel_rfl) (by kernel_rfl) (fun _ _ _ h => h) (Or.inl ⟨by rfl, ?_⟩) (by assumption) ?_
  rotate_left
  · intro w hSw
    try dsimp only at hSw
    obtain ⟨hs0_, hs1_, hs2_, hs3_, hs4_, hs5_⟩ := hSw
    go_simp
    try with_reducible rfl
  try simp only [Act.put]
  refine wpAnyH_take (i := 4) (v := ?_) rfl (by kernel_rfl) (by kernel_rfl) (by kernel_rfl) (fun _ _ _ h => h) (Or.inl ⟨by rfl, ?_⟩) (by assumption) ?_
  rotate_left
  · intro w hSw
    try dsimp only at hSw
    obtain ⟨hs0_, hs1_, hs2_, hs3_, hs4_, hs5_⟩ := hSw
    go_simp
    try with_reducible rfl
  try simp only [Act.put]
  refine wpAnyH_take (i := 5) (v := ?_) rfl (by kernel_rfl) (by kernel_rfl) (by kernel_rfl) (fun _ _ _ h => h) (Or.inl ⟨by rfl, ?_⟩) (by assumption) ?_
  rotate_left
  · intro w hSw
    try dsimp only at hSw
    obtain ⟨hs0_, hs1_, hs2_, hs3_, hs4_, hs5_⟩ := hSw
    go_simp
    try with_reducible rfl
  try simp only [Act.put]
  refine wpAnyH_take (i := 6) (v := ?_) rfl (by kernel_rfl) (by kernel_rfl) (by kernel_rfl) (fun _ _ _ h => h) (Or.inl ⟨by rfl, ?_⟩) (by assumption) ?_
  rotate_left
  · intro w hSw
    try dsimp only at hSw
    obtain ⟨hs0_, hs1_, hs2_, hs3_, hs4_, hs5_⟩ := hSw
    go_simp
    try with_reducible rfl
  try simp only [Act.put]
  refine wpAnyH_take (i := 7) (v := ?_) rfl (by kernel_rfl) (by kernel_rfl) (by kernel_rfl) (fun _ _ _ h => h) (Or.inl ⟨by rfl, ?_⟩) (by assumption) ?_
  rotate_left
  · intro w hSw
    try dsimp only at hSw
    obtain ⟨hs0_, hs1_, hs2_, hs3_, hs4_, hs5_⟩ := hSw
    go_simp
    try with_reducible rfl
  try simp only [Act.put]
  refine wpAnyH_take (i := 9) (v := ?_) rfl (by kernel_rfl) (by kernel_rfl) (by kernel_rfl) (fun _ _ _ h => h) (Or.inl ⟨by rfl, ?_⟩) (by assumption) ?_
  rotate_left
  · intro w hSw
    try dsimp only at hSw
    obtain ⟨hs0_, hs1_, hs2_, hs3_, hs4_, hs5_⟩ := hSw
    go_simp
    try with_reducible rfl
  try simp only [Act.put]
  refine wpAnyH_take (i := 10) (v := ?_) rfl (by kernel_rfl) (by kernel_rfl) (by kernel_rfl) (fun _ _ _ h => h) (Or.inl ⟨by rfl, ?_⟩) (by assumption) ?_
  rotate_left
  · intro w hSw
    try dsimp only at hSw
    obtain ⟨hs0_, hs1_, hs2_, hs3_, hs4_, hs5_⟩ := hSw
    go_simp
    try with_reducible rfl
  try simp only [Act.put]
  refine wpAnyH_take (i := 12) (v := ?_) rfl (by kernel_rfl) (by kernel_rfl) (by kernel_rfl) (fun _ _ _ h => h) (Or.inl ⟨by rfl, ?_⟩) (by assumption) ?_
  rotate_left
  · intro w hSw
    try dsimp only at hSw
    obtain ⟨hs0_, hs1_, hs2_, hs3_, hs4_, hs5_⟩ := hSw
    go_simp
    try with_reducible rfl
  try simp only [Act.put]
  refine wpAnyH_take (i := 13) (v := ?_) rfl (by kernel_rfl) (by kernel_rfl) (by kernel_rfl) (fun _ _ _ h => h) (Or.inl ⟨by rfl, ?_⟩) (by assumption) ?_
  rotate_left
  · intro w hSw
    try dsimp only at hSw
    obtain ⟨hs0_, hs1_, hs2_, hs3_, hs4_, hs5_⟩ := hSw
    go_simp
    try with_reducible rfl
  try simp only [Act.put]
  try simp only [List.getElem_toArray, List.getElem_cons_zero, List.getElem_cons_succ, List.setIfInBounds_toArray, List.set_cons_zero, List.set_cons_succ]
  refine wpAnyH_ready (rs := [8]) (by kernel_rfl) (by simp) ?_
  refine AllReadyH.cons rfl (fun K hK => ?_) ?_
  · go_simp
    refine (copyLists_any _ _ _ ts _ (HX.out.below hp) hn HNS.out).mono ?_
    rintro e W1 ⟨A1, c1, ts1, rfl, o1, n1, z1⟩
    have hp1 := hp.trans (z1.mono hp.size)
    have hpc := hp1
    refine hK.out _ _ ?_ (fun hHeld => ?_)
    · exact ⟨(b0.below' hpc).cell 0, (b0.below' hpc).cell 1, (b0.below' hpc).cell 2, (b0.below' hpc).cell 3, (b0.below' hpc).cell 4, (b0.below' hpc).cell 5⟩
    clear hK K
    try simp only [Act.put, List.setIfInBounds_toArray, List.set_cons_zero, List.set_cons_succ]
    try simp only [putAll, markAll, dstAt, Act.put, List.getElem_toArray, List.getElem?_toArray, List.getElem_cons_zero, List.getElem_cons_succ, List.getElem?_cons_zero, List.getElem?_cons_succ, Option.bind_some, List.setIfInBounds_toArray, List.set_cons_zero, List.set_cons_succ]
    refine wpAnyH_ready (rs := [11]) (by kernel_rfl) (by simp) ?_
    refine AllReadyH.cons rfl (fun K hK => ?_) ?_
    · go_simp
      refine (copyLists_any _ _ _ us _ (HY.out.below hp1) hm HMS.out).mono ?_
      rintro e W2 ⟨B2, d2, us2, rfl, o2, n2, z2⟩
      have hp2 := hp1.trans (z2.mono hp1.size)
      have hpc := hp2
      refine hK.out _ _ ?_ (fun hHeld => ?_)
      · exact ⟨(b0.below' hpc).cell 0, (b0.below' hpc).cell 1, (b0.below' hpc).cell 2, (b0.below' hpc).cell 3, (b0.below' hpc).cell 4, (b0.below' hpc).cell 5⟩
      clear hK K
      try simp only [Act.put, List.setIfInBounds_toArray, List.set_cons_zero, List.set_cons_succ]
      try simp only [putAll, markAll, dstAt, Act.put, List.getElem_toArray, List.getElem?_toArray, List.getElem_cons_zero, List.getElem_cons_succ, List.getElem?_cons_zero, List.getElem?_cons_succ, Option.bind_some, List.setIfInBounds_toArray, List.set_cons_zero, List.set_cons_succ]
      refine wpAnyH_ready (rs := [14]) (by kernel_rfl) (by simp) ?_
      refine AllReadyH.cons rfl (fun K hK => ?_) ?_
      · go_simp
        refine (cloneI_any _ _ _ os _ (HZ.out.below hp2) hl).mono ?_
        rintro e W3 ⟨C3, k3, rfl, o3, z3⟩
        have hp3 := hp2.trans (z3.mono hp2.size)
        have hpc := hp3
        refine hK.out _ _ ?_ (fun hHeld => ?_)
        · exact ⟨(b0.below' hpc).cell 0, (b0.below' hpc).cell 1, (b0.below' hpc).cell 2, (b0.below' hpc).cell 3, (b0.below' hpc).cell 4, (b0.below' hpc).cell 5⟩
        clear hK K
        try simp only [Act.put, List.setIfInBounds_toArray, List.set_cons_zero, List.set_cons_succ]
        refine wpAnyH_take (i := 15) (v := ?_) rfl (by kernel_rfl) (by kernel_rfl) (by kernel_rfl) (fun _ _ _ h => h) (Or.inl ⟨by rfl, ?_⟩) (by assumption) ?_
        rotate_left
        · intro w hSw
          try dsimp only at hSw
          obtain ⟨hs0_, hs1_, hs2_, hs3_, hs4_, hs5_⟩ := hSw
          go_simp
          try with_reducible rfl
        try simp only [Act.put, List.setIfInBounds_toArray]
        try simp only [List.getElem_toArray, List.getElem_cons_zero, List.getElem_cons_succ, List.set_cons_zero, List.set_cons_succ]
        refine wpAnyH_ready (rs := [16]) (by kernel_rfl) (by simp) ?_
        refine AllReadyH.cons rfl (fun K hK => ?_) ?_
        · go_simp
          obtain ⟨W4, g4, hW4, hg4, z4, h4, l4, hp4⟩ := alloc_pack3 hp3 hp3.size #[.int .i64 q, .int .i64 h, .int .i64 a, .slice A1 ts1.length c1, .slice B2 us2.length d2, .slice C3 os.length k3] 31
          rw [hW4]
          have hpc := hp4
          refine hK.out _ _ ?_ (fun hHeld => ?_)
          · exact ⟨(b0.below' hpc).cell 0, (b0.below' hpc).cell 1, (b0.below' hpc).cell 2, (b0.below' hpc).cell 3, (b0.below' hpc).cell 4, (b0.below' hpc).cell 5⟩
          clear hK K
          try simp only [Act.put, List.setIfInBounds_toArray, List.set_cons_zero, List.set_cons_succ]
          try simp only [putAll, markAll, dstAt, Act.put, List.getElem_toArray, List.getElem?_toArray, List.getElem_cons_zero, List.getElem_cons_succ, List.getElem?_cons_zero, List.getElem?_cons_succ, Option.bind_some, List.setIfInBounds_toArray, List.set_cons_zero, List.set_cons_succ]
          refine wpAnyH_ready (rs := [17]) (by kernel_rfl) (by simp) ?_
          refine AllReadyH.cons rfl (fun K hK => ?_) ?_
          · go_simp
            refine hK.out _ _ ?_ (fun hHeld => ?_)
            · exact ⟨(b0.below' hpc).cell 0, (b0.below' hpc).cell 1, (b0.below' hpc).cell 2, (b0.below' hpc).cell 3, (b0.below' hpc).cell 4, (b0.below' hpc).cell 5⟩
            clear hK K
            try simp only [Act.put, List.setIfInBounds_toArray, List.set_cons_zero, List.set_cons_succ]
            refine wpAnyH_done (by kernel_rfl) ?_ _
            refine NoPanic.normal ?_
            have hy0 := y0.size
            have hs1 := hp.size
            have hs2 := z1.size
            have hs3 := z2.size
            have hs4 := z3.size
            have z24 : Below W2.heap.size W2 W4 := z3.trans (z4.mono z3.size)
            have z14 : Below W1.heap.size W1 W4 := z2.trans (z24.mono z2.size)
            have hO : FmO W4 w.heap.size A1 c1 ts1 B2 d2 us2 C3 k3 os := FmO.join (o1.mono (by omega)) o2 (o3.below z4) z14 z24 (by omega) (Nat.le_refl _) hs3 (Nat.le_refl _) (by omega)
            go_wp2_with fail
            go_ret
            subst hg4
            exact ⟨W3.heap.size, rfl, ⟨A1, c1, ts1, B2, d2, us2, C3, k3, h4, ⟨hO, n1, n2⟩, by omega⟩, y0.trans (hp4.mono y0.size)⟩
          exact AllReadyH.nil
        exact AllReadyH.nil
      exact AllReadyH.nil
    exact AllReadyH.nil
  exact AllReadyH.nil
end Go.Proofs.Ytbpofkggoolmpaa

/-
  Contracts of slices.Grow (from nil), slices.Concat, impl.joined; slices.Index, Contains, Max over []int64.
-/
namespace Go.Proofs.Ytbpofkggoolmpaa
open Go.RowKit

/-- An empty slice with room, in new memory. -/
def Room (w : World) (e : Ending) (w' : World) : Prop := ∃ A c, e = .returned (.slice A 0 c) ∧ Own w' w.heap.size 2 1 A 0 c [] ∧ Below w.heap.size w w'

theorem zeroCells_size (z : Array Value) (n : Nat) : (Builtin.zeroCells z n).size = n * z.size := by simp [Builtin.zeroCells]

set_option maxRecDepth 100000 in
set_option maxHeartbeats 1000000 in
theorem growI_any (n : Nat) (w : World) (hn : n ≤ 1048576) : Calls Try.prog 299 #[.slice none 0 0, .int .i64 (n : Int)] w (Room w) := by
  rcases Nat.eq_zero_or_pos n with h | h
  · subst h
    go_enter Try.func299, Try.ntmps299
    go_wp2_with fail
    go_ret
    exact ⟨none, 0, rfl, Own.nil, Below.refl _ _⟩
  · obtain ⟨i, hi, hz, hs, hb⟩ := info_parts elI.info
    have hlaw := Lib.run_append_nil_zeros (P := Try.prog) w 26 3 26 2 i _ .i64 .i64 Try.underlying26 Try.underlying3 hi hz n h (by omega) (by omega) (by rw [hb]; omega)
    have hc1 := grownCap_ge w n 0 2
    have hc2 := grownCap_le_maxLen w n 0 2 (by simp only [maxLen]; omega)
    generalize grownCap w n 0 2 = c at *
    have o1 : Own (w.drew.alloc (.cells (Builtin.zeroCells (Value.int .i64 0).cells n ++ Builtin.zeroCells (Value.int .i64 0).cells (c - n)) 2)) w.heap.size 2 1 (some ⟨w.heap.size, 0, none⟩) 0 c [] := by
      refine ⟨rfl, .inr ⟨w.heap.size, 0, _, rfl, Nat.le_refl _, heap_alloc_new w.drew _, Nat.zero_le _, hc2, ?_, fun k hk => by simp at hk⟩⟩
      simp only [Array.size_append, zeroCells_size]
      have : (Value.int .i64 0).cells.size = 1 := rfl
      rw [this]; omega
    have z1 : Below w.heap.size w (w.drew.alloc (.cells (Builtin.zeroCells (Value.int .i64 0).cells n ++ Builtin.zeroCells (Value.int .i64 0).cells (c - n)) 2)) := (below_drewN (Below.refl _ _) 1).alloc (Nat.le_refl _) _
    generalize w.drew.alloc (.cells (Builtin.zeroCells (Value.int .i64 0).cells n ++ Builtin.zeroCells (Value.int .i64 0).cells (c - n)) 2) = W at *
    have HLAW := Lib.hid hlaw
    clear hlaw hi hz hs hb
    go_enter Try.func299, Try.ntmps299
    go_wp2_with (at_builtin; go_loud (refine Lib.wpList_append_run _ rfl (.tmp 20) (.tmp 21) _ _ rfl _ _ rfl rfl _ _ HLAW.out ?_))
    go_ret
    exact ⟨_, c, rfl, o1, z1⟩

/-- The first k rows, one behind the other. -/
def catTo (ts : List Sl) (k : Nat) : List Int := (ts.take k).flatMap Sl.xs
theorem catTo_zero (ts : List Sl) : catTo ts 0 = [] := by simp [catTo]
theorem catTo_next {ts : List Sl} {t : Sl} {k : Nat} (h : ts[k]? = some t) : catTo ts (k + 1) = catTo ts k ++ t.xs := by
  obtain ⟨hk, rfl⟩ := List.getElem?_eq_some_iff.1 h
  unfold catTo
  rw [List.take_succ_eq_append_getElem hk, List.flatMap_append]
  simp
theorem catTo_end {ts : List Sl} {k : Nat} (h : ts.length ≤ k) : catTo ts k = ts.flatMap Sl.xs := by unfold catTo; rw [List.take_of_length_le h]
theorem catTo_le (ts : List Sl) (k : Nat) : (catTo ts k).length ≤ (ts.flatMap Sl.xs).length := by
  have : ts.flatMap Sl.xs = catTo ts k ++ (ts.drop k).flatMap Sl.xs := by
    unfold catTo
    rw [← List.flatMap_append, List.take_append_drop]
  rw [this, List.length_append]; omega

set_option maxHeartbeats 4000000 in
theorem concatI_any (B : Option Addr) (m c : Nat) (ts : List Sl) (w : World) (hx : SII w B m ts) (hm : m ≤ 1048576) (ht : (ts.flatMap Sl.xs).length ≤ 1048576) :
    Calls Try.prog 293 #[.slice B m c] w (NewI w (ts.flatMap Sl.xs)) := by
  have HLE := Lib.hid (fun k => Nat.le_trans (catTo_le ts k) ht)
  have HEND : Hid (ts.flatMap Sl.xs = catTo ts m) := Lib.hid (catTo_end (by rw [hx.len]; exact Nat.le_refl _)).symm
  clear ht
  go_enter Try.func293, Try.ntmps293
  go_wp2_with fail
  go_loop [3, 11] (fun s i => ∃ k : Nat, k ≤ m ∧ i = .int .i64 (k : Int) ∧ s = .int .i64 ((catTo ts k).length : Int)) (fun _ i => m - (intOf i).toNat)
  case atStart => exact ⟨0, Nat.zero_le _, rfl, by simp [catTo_zero]⟩
  case round =>
    obtain ⟨k, hk, rfl, rfl⟩ := hrel
    by_cases hlt : k < m
    · obtain ⟨t, bb, off, HT, htm, rfl, hbl, e0, hrow⟩ := hx.pick hlt
      have HN : Hid ((catTo ts (k + 1)).length = (catTo ts k).length + t.xs.length) := Lib.hid (by rw [catTo_next HT.out]; simp)
      have hle := HLE.out (k + 1)
      rw [HN.out] at hle
      have i1 : (0 : Int) ≤ (k : Int) := by omega
      have i2 : (k : Int) < (m : Int) := by omega
      have i3 : ¬ (((catTo ts k).length : Int) + (t.xs.length : Int) < 0) := by omega
      clear hrow htm
      go_wp2_with fail
      go_round
      case rel => exact ⟨k + 1, by omega, by go_num, by rw [HN.out]; go_num⟩
      case measure => simp [intOf]; omega
    · obtain rfl : k = m := by omega
      have hle := HLE.out k
      have HEND' : Hid ((catTo ts k).length = (ts.flatMap Sl.xs).length) := Lib.hid (by rw [HEND.out])
      go_wp2_with fail
      refine (growI_any (catTo ts k).length w hle).mono ?_
      rintro e W1 ⟨A1, c1, rfl, o1, z1⟩
      go_wp2_with fail
      go_loopw [6, 27] (fun v i wr => ∃ (j : Nat) (D : Option Addr) (cd : Nat), j ≤ k ∧ i = .int .i64 (j : Int) ∧ v = .slice D (catTo ts j).length cd ∧ Own wr w.heap.size 2 1 D (catTo ts j).length cd (ints (catTo ts j)) ∧ Below w.heap.size w wr) (fun _ i _ => k - (intOf i).toNat)
      case atStart => exact ⟨0, A1, c1, Nat.zero_le _, rfl, by simp [catTo_zero], by rw [catTo_zero]; exact o1, z1⟩
      case round =>
        obtain ⟨j, D, cd, hj, rfl, rfl, ho, hz⟩ := hrel
        clear o1 z1
        by_cases hjl : j < k
        · obtain ⟨t, bb, off, HT, htm, rfl, hbl, e0, hrow⟩ := (hx.below hz).pick hjl
          have HN := Lib.hid (catTo_next HT.out)
          have hle2 : (catTo ts j).length + t.xs.length ≤ 1048576 := by have := HLE.out (j + 1); rw [HN.out, List.length_append] at this; exact this
          have i1 : (0 : Int) ≤ (j : Int) := by omega
          have i2 : (j : Int) < (k : Int) := by omega
          go_wp2_with (at_builtin; refine wpList_append_Own rfl (.tmp 31) (.tmp 32) rfl elI (lo := w.heap.size) rfl ho rfl hrow (ints_one t.xs) (by omega) (by simp only [maxLen]; omega) hz.size ?_; intro A2 c2 w2 ho2 hg2 _)
          have hz2 := ho.below_of hz hg2 hz.size
          have ho3 : Own w2 w.heap.size 2 1 A2 (catTo ts (j + 1)).length c2 (ints (catTo ts (j + 1))) := by
            rw [HN.out, List.length_append]
            have e : ints (catTo ts j ++ t.xs) = ints (catTo ts j) ++ ints t.xs := by simp [ints]
            rw [e]; exact ho2
          have HL : Hid ((catTo ts j).length + t.xs.length = (catTo ts (j + 1)).length) := Lib.hid (by rw [HN.out, List.length_append])
          clear ho2
          go_wp2_with fail
          go_roundw
          case rel => exact ⟨j + 1, A2, c2, by omega, by go_num, by rw [← HL.out], ho3, hz2⟩
          case measure => simp [intOf]; omega
        · obtain rfl : j = k := by omega
          go_wp2_with fail
          go_ret
          rw [HEND.out]
          exact ⟨D, cd, rfl, ho, hz⟩

theorem joinedI_any (B : Option Addr) (m c : Nat) (ts : List Sl) (w : World) (hx : SII w B m ts) (hm : m ≤ 1048576) (ht : (ts.flatMap Sl.xs).length ≤ 1048576) :
    Calls Try.prog 261 #[.slice B m c] w (NewI w (ts.flatMap Sl.xs)) := by
  have HC := Lib.hid (concatI_any B m c ts w hx hm ht)
  clear hx ht
  generalize ts.flatMap Sl.xs = ys at *
  go_enter Try.func261, Try.ntmps261
  go_wp2_with fail
  refine HC.out.mono ?_
  rintro e W1 ⟨A1, c1, rfl, o1, z1⟩
  go_wp2_with fail
  go_ret
  exact ⟨A1, c1, rfl, o1, z1⟩

/-- Where a number stands first, or -1. -/
def idxI (xs : List Int) (v : Int) : Int := if v ∈ xs then ((xs.idxOf v : Nat) : Int) else -1
theorem idxI_at {xs : List Int} {v : Int} {k : Nat} (hk : xs[k]? = some v) (h : v ∉ xs.take k) : idxI xs v = (k : Int) := by
  obtain ⟨hl, he⟩ := List.getElem?_eq_some_iff.1 hk
  have hm : v ∈ xs := List.mem_of_getElem? hk
  unfold idxI
  rw [if_pos hm]
  have e : xs = xs.take k ++ v :: xs.drop (k + 1) := by rw [← he, ← List.drop_eq_getElem_cons hl, List.take_append_drop]
  have h2 : xs.idxOf v = k := by
    rw [e, List.idxOf_append, if_neg h]
    simp
    omega
  rw [h2]
theorem idxI_no {xs : List Int} {v : Int} (h : v ∉ xs) : idxI xs v = -1 := by unfold idxI; rw [if_neg h]
theorem idxI_ge {xs : List Int} {v : Int} : decide (0 ≤ idxI xs v) = decide (v ∈ xs) := by
  unfold idxI
  by_cases h : v ∈ xs
  · rw [if_pos h]; simp [h]
  · rw [if_neg h]; simp [h]

/-- What slices.Max says. -/
def maxI : List Int → Int
  | [] => 0
  | x :: r => r.foldl max x
theorem maxI_take {xs : List Int} {x : Int} {k : Nat} (h0 : 0 < k) (h : xs[k]? = some x) : maxI (xs.take (k + 1)) = max (maxI (xs.take k)) x := by
  obtain ⟨hl, he⟩ := List.getElem?_eq_some_iff.1 h
  rw [List.take_succ_eq_append_getElem hl, he]
  cases hx : xs.take k with
  | nil =>
    have h2 : (xs.take k).length = 0 := by rw [hx]; rfl
    rw [List.length_take] at h2
    omega
  | cons y r => simp [maxI]

end Go.Proofs.Ytbpofkggoolmpaa
