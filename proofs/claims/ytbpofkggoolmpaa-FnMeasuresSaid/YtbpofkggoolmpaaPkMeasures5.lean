/-
  Contracts of impl's budgetOk, runCode, budgeted, blankRun, freeRules.
-/
import Derived.Test.YtbpofkggoolmpaaPkMeasures4
namespace Go.Proofs.Ytbpofkggoolmpaa
open Go.RowKit

/-- The code for a machine, a configuration and a budget. -/
def codeF (sy st : Int) (rs : List R3) (c : Conf) (b : Int) : Int := if validConfB sy st rs c.q c.xs c.ys then (if inB b 1 20000 then 0 else 2) else 1

set_option maxHeartbeats 1000000 in
theorem runCode_any (sy st : Int) (A : Option Addr) (n k : Nat) (rs : List R3) (c : Conf) (B : Option Addr) (m c' : Nat) (C : Option Addr) (l d : Nat) (b : Int) (w : World) (hr : S3 w A n rs) (hx : SI w B m c.xs) (hy : SI w C l c.ys) (hn : n ≤ 1048576) (hm : m ≤ 1048576) (hl : l ≤ 1048576) :
    Calls Try.prog 109 #[.agg #[.int .i64 sy, .int .i64 st, .slice A n k], .agg #[.int .i64 c.q, .slice B m c', .slice C l d], .int .i64 b] w fun e w' => e = .returned (.int .i64 (codeF sy st rs c b)) ∧ Below w.heap.size w w' := by
  obtain ⟨W, hW⟩ : ∃ W, W = (w.alloc (.cells #[.int .i64 sy, .int .i64 st, .slice A n k] 36)).alloc (.cells #[.int .i64 c.q, .slice B m c', .slice C l d] 50) := ⟨_, rfl⟩
  have y0 : Below w.heap.size w W := by rw [hW]; exact ((Below.refl _ _).alloc (Nat.le_refl _) _).alloc (by simp) _
  have HW := Lib.hid hW
  clear hW
  go_enter Try.func109, Try.ntmps109
  go_wp2_with fail
  rw [← HW.out]
  refine (validConfig_any _ _ _ _ _ rs _ _ _ _ c.xs _ _ _ c.ys _ (hr.below y0) (hx.below y0) (hy.below y0) hn hm hl).mono ?_
  rintro e w2 ⟨rfl, z2⟩
  have y2 : Below w.heap.size w w2 := y0.trans (z2.mono y0.size)
  cases hv : validConfB sy st rs c.q c.xs c.ys with
  | false =>
    have HV := Lib.hid hv
    clear hv
    go_wp2_with fail
    go_ret
    exact ⟨ret_int (by unfold codeF; rw [HV.out]; rfl), y2⟩
  | true =>
    have HV := Lib.hid hv
    clear hv
    cases hb : inB b 1 20000 with
    | false =>
      have HB := Lib.hid hb
      clear hb
      go_wp2_with (go_at_call 112; refine (budgetOk_is HB.out _).mono ?_; rintro e w' ⟨rfl, rfl⟩)
      go_ret
      exact ⟨ret_int (by unfold codeF; rw [HV.out, HB.out]; rfl), y2⟩
    | true =>
      have HB := Lib.hid hb
      clear hb
      go_wp2_with (go_at_call 112; refine (budgetOk_is HB.out _).mono ?_; rintro e w' ⟨rfl, rfl⟩)
      go_ret
      exact ⟨ret_int (by unfold codeF; rw [HV.out, HB.out]; rfl), y2⟩

/-- The blank configuration. -/
def blankC : Conf := ⟨0, [], []⟩

theorem NewRunner.runC {w w' : World} {sy st : Int} {A : Option Addr} {n k : Nat} {q : Int} {xs ys : List Int} {g c d : Nat} {L R : Option Addr} (hrun : RunAt w' g sy st A n k q L xs.length c R ys.length d) (ol : Own w' w.heap.size 2 1 L xs.length c (ints xs.reverse)) (or_ : Own w' w.heap.size 2 1 R ys.length d (ints ys.reverse)) (hap : ∀ b, blk L = some b → blk R ≠ some b) : RunC (fun _ => False) w' w.heap.size g sy st A n k ⟨q, xs, ys⟩ :=
  ⟨L, c, R, d, by simpa using hrun, by simpa using ol, by simpa using or_, hap, fun _ _ h => h, fun _ _ h => h⟩

/-- The indices at which there is no rule, below k. -/
def freeTo (rs : List R3) (k : Nat) : List Int := ((List.range k).filter (fun i => !isRuleB (rs.getD i ⟨0, 0, -1⟩))).map (fun i : Nat => (i : Int))
def freeF (rs : List R3) : List Int := freeTo rs rs.length
theorem freeTo_len (rs : List R3) (k : Nat) : (freeTo rs k).length ≤ k := by
  unfold freeTo
  rw [List.length_map]
  have := List.length_filter_le (fun i => !isRuleB (rs.getD i ⟨0, 0, -1⟩)) (List.range k)
  simpa using this
theorem freeTo_yes {rs : List R3} {k : Nat} {r : R3} (h : rs[k]? = some r) (hr : isRuleB r = false) : freeTo rs (k + 1) = freeTo rs k ++ [(k : Int)] := by
  unfold freeTo
  rw [List.range_succ, List.filter_append, List.map_append]
  congr 1
  simp [h, hr]
theorem freeTo_no {rs : List R3} {k : Nat} {r : R3} (h : rs[k]? = some r) (hr : isRuleB r = true) : freeTo rs (k + 1) = freeTo rs k := by
  unfold freeTo
  rw [List.range_succ, List.filter_append, List.map_append]
  simp [h, hr]

end Go.Proofs.Ytbpofkggoolmpaa

/-
  Contract of impl.follow: a run seen by any observer behind an interface.
-/
namespace Go.Proofs.Ytbpofkggoolmpaa
open Go.RowKit

/-- The position of the head after i steps. -/
def posF (sy : Int) (rs : List R3) (c : Conf) : Nat → Int
  | 0 => 0
  | i + 1 => posF sy rs c i + (ruleOf sy rs (itC sy rs c i).q (itC sy rs c i).ys).b
theorem rule_move {sy st : Int} {rs : List R3} {c : Conf} (hg : goodC sy st rs c) (hh : haltC sy rs c = false) : (ruleOf sy rs c.q c.ys).b = -1 ∨ (ruleOf sy rs c.q c.ys).b = 1 := by
  obtain ⟨h1, h2, h3, h4, hnl, h5, h6, hx2, hy2, hxm, hym, hrsv⟩ := conf_parts hg
  obtain ⟨a1, a2, a3, a4, idx, hidx, hlt⟩ := at_parts (ys := c.ys.reverse) h1 h2 h3 h4 hnl h5 h6 (fun y hy => hym y (List.mem_reverse.1 hy))
  have hget := ruleOf_get (rs := rs) (ys := c.ys) hidx hlt
  have hv := hrsv _ (List.mem_of_getElem? hget)
  have hr : isRuleB (ruleOf sy rs c.q c.ys) = true := by unfold haltC at hh; simpa using hh
  unfold validRuleB at hv
  rw [hr] at hv
  simp only [Bool.not_true, Bool.false_or, Bool.and_eq_true, Bool.or_eq_true, beq_iff_eq] at hv
  exact hv.1.2
theorem posF_bound {sy st : Int} {rs : List R3} {c : Conf} (hg : goodC sy st rs c) : ∀ i, Alive sy rs c i → -(i : Int) ≤ posF sy rs c i ∧ posF sy rs c i ≤ (i : Int) := by
  intro i
  induction i with
  | zero => intro _; simp [posF]
  | succ i ih =>
    intro h
    have h1 := ih (fun j hj => h j (by omega))
    have h2 := rule_move ((show Alive sy rs c i from fun j hj => h j (by omega)).good hg) (h i (by omega)).1
    show -((i : Nat) + 1 : Int) ≤ posF sy rs c i + _ ∧ posF sy rs c i + _ ≤ ((i : Nat) + 1 : Int)
    omega

theorem rule_c {X : Nat → Prop} {w : World} {lo g : Nat} {sy st : Int} {A : Option Addr} {n k : Nat} {rs : List R3} {c : Conf} (hs : RunC X w lo g sy st A n k c) (hrs : S3 w A n rs) (hg : goodC sy st rs c) (hn : n ≤ 1048576) :
    Calls Try.prog 196 #[.pointer (some ⟨g, 0, none⟩)] w fun e w' => e = .returned (.agg #[.int .i64 (ruleOf sy rs c.q c.ys).a, .int .i64 (ruleOf sy rs c.q c.ys).b, .int .i64 (ruleOf sy rs c.q c.ys).c]) ∧ Below w.heap.size w w' := by
  obtain ⟨L, cl, R, d, hr, ol, or_, _⟩ := hs
  obtain ⟨h1, h2, h3, h4, hnl, h5, h6, hx2, hy2, hxm, hym, hrsv⟩ := conf_parts hg
  obtain ⟨a1, a2, a3, a4, idx, hidx, hlt⟩ := at_parts (ys := c.ys.reverse) h1 h2 h3 h4 hnl h5 h6 (fun y hy => hym y (List.mem_reverse.1 hy))
  have hget := ruleOf_get (rs := rs) (ys := c.ys) hidx hlt
  have hl : c.ys.reverse.length ≤ 1048576 := by rw [List.length_reverse]; omega
  have hln : rs.length = n := hrs.len
  exact rule_any g sy st A n k rs c.q L _ cl R _ d c.ys.reverse idx (ruleOf sy rs c.q c.ys) w hr hrs or_.rd hl a1 (by omega) a3 (by omega) (Lib.hid hidx) (by omega) (Lib.hid hget) hn

/-- A run that stands at its i-th configuration, beside an observer's data. -/
def FS (w0 : World) (g : Nat) (sy st : Int) (A : Option Addr) (n k : Nat) (c : Conf) (D : (Nat → Prop) → World → Prop) (W : World) : Prop :=
  ∃ X : Nat → Prop, ¬ X g ∧ (∀ b, X b → b < W.heap.size) ∧ RunC X W w0.heap.size g sy st A n k c ∧ Below w0.heap.size w0 W ∧ D X W
def StF (D : (Nat → Prop) → World → Prop) : Prop := ∀ X W W', D X W → Fr X W W' → D X W'
theorem fr_below {X : Nat → Prop} {W W' : World} (z : Below W.heap.size W W') : Fr X W W' := ⟨z.size, fun b _ hb => z.block b hb⟩
theorem FS.below {w0 W W' : World} {g : Nat} {sy st : Int} {A : Option Addr} {n k : Nat} {c : Conf} {D : (Nat → Prop) → World → Prop} (hD : StF D) (h : FS w0 g sy st A n k c D W) (z : Below W.heap.size W W') : FS w0 g sy st A n k c D W' := by
  obtain ⟨X, h1, h2, h3, h4, h5⟩ := h
  exact ⟨X, h1, fun b hb => Nat.lt_of_lt_of_le (h2 b hb) z.size, h3.below z, h4.trans (z.mono h4.size), hD X W W' h5 (fr_below z)⟩

/-- What follow leaves. -/
def FollowP (w0 : World) (g0 : Nat → Prop) (sy st : Int) (A : Option Addr) (n k : Nat) (rs : List R3) (c : Conf) (N : Nat) (D' : Nat → (Nat → Prop) → World → Prop) (e : Ending) (w' : World) : Prop :=
  (∃ i g, g0 g ∧ Ended sy rs c N i ∧ e = .returned (.tuple #[.int .i64 (i : Int), .bool (haltC sy rs (itC sy rs c i)), .int .i64 0]) ∧ FS w0 g sy st A n k (itC sy rs c i) (D' i) w') ∨
  (∃ i, Full sy rs c N i ∧ e = .returned (.tuple #[.int .i64 0, .bool false, .int .i64 5]) ∧ Below w0.heap.size w0 w')

set_option maxRecDepth 100000 in
set_option maxHeartbeats 8000000 in
theorem follow_any (w0 w : World) (sy st : Int) (A : Option Addr) (n k : Nat) (rs : List R3) (c : Conf) (B : Option Addr) (m a : Nat) (C : Option Addr) (l d : Nat) (N : Nat) (T : TypeId) (v v' : Value) (fc fs : FuncId) (D D' : Nat → (Nat → Prop) → World → Prop) (X0 : Nat → Prop)
    (hr : S3 w0 A n rs) (hx : SI w B m c.xs) (hy : SI w C l c.ys) (hn : n ≤ 1048576) (hm : m ≤ 1048576) (hl : l ≤ 1048576) (hg : goodC sy st rs c) (hN : N ≤ 1000000) (hb0 : Below w0.heap.size w0 w)
    (hX0 : ∀ b, X0 b → b < w.heap.size) (hd0 : D 0 X0 w) (hD : ∀ i, StF (D i)) (hD' : ∀ i, StF (D' i))
    (mc : ∀ w, (method 452 T v "loop.example/g01079/impl.config").run Try.prog w = .ok (fc, v) w) (ms : ∀ w, (method 452 T v "loop.example/g01079/impl.step").run Try.prog w = .ok (fs, v') w)
    (cc : ∀ (args : Array Value) (w : World), (callFunc fc args).run Try.prog w = .ok (.enter fc args) w) (cs : ∀ (args : Array Value) (w : World), (callFunc fs args).run Try.prog w = .ok (.enter fs args) w)
    (hA : ∀ i g W, i ≤ N → Alive sy rs c i → FS w0 g sy st A n k (itC sy rs c i) (D i) W → Calls Try.prog fc #[v, .pointer (some ⟨g, 0, none⟩), .int .i64 (posF sy rs c i)] W fun e W' => (∃ u, e = .returned u) ∧ FS w0 g sy st A n k (itC sy rs c i) (D' i) W')
    (hB : ∀ i g W, i < N → Alive sy rs c i → haltC sy rs (itC sy rs c i) = false → FS w0 g sy st A n k (itC sy rs c i) (D' i) W → Calls Try.prog fs #[v', .pointer (some ⟨g, 0, none⟩), .int .i64 (posF sy rs c i), .agg #[.int .i64 (ruleOf sy rs (itC sy rs c i).q (itC sy rs c i).ys).a, .int .i64 (ruleOf sy rs (itC sy rs c i).q (itC sy rs c i).ys).b, .int .i64 (ruleOf sy rs (itC sy rs c i).q (itC sy rs c i).ys).c]] W fun e W' => (∃ u, e = .returned u) ∧ FS w0 g sy st A n k (itC sy rs c i) (D (i + 1)) W' ∧ ∀ b cs, Blk W b 229 cs → Blk W' b 229 cs) :
    Calls Try.prog 110 #[.agg #[.int .i64 sy, .int .i64 st, .slice A n k], .agg #[.int .i64 c.q, .slice B m a, .slice C l d], .int .i64 (N : Int), .iface T v] w (FollowP w0 (fun g => w.heap.size ≤ g) sy st A n k rs c N D') := by
  have hw0s := hb0.size
  have HG := Lib.hid hg
  have HA := Lib.hid hA
  have HB := Lib.hid hB
  have HD := Lib.hid hD
  have HD' := Lib.hid hD'
  have HX0 := Lib.hid hX0
  have HD0 := Lib.hid hd0
  clear hA hB hD hD' hX0 hd0 hg
  obtain ⟨W, hW_⟩ : ∃ W, W = (w.alloc (.cells #[.int .i64 sy, .int .i64 st, .slice A n k] 36)).alloc (.cells #[.int .i64 c.q, .slice B m a, .slice C l d] 50) := ⟨_, rfl⟩
  have s_1 : (w.alloc (.cells #[.int .i64 sy, .int .i64 st, .slice A n k] 36)).heap.size = w.heap.size + 1 := by simp
  have b0 : Blk W w.heap.size 36 #[.int .i64 sy, .int .i64 st, .slice A n k] := by rw [hW_]; exact (Blk.new w _ _).alloc _
  have b1 : Blk W (w.heap.size + 1) 50 #[.int .i64 c.q, .slice B m a, .slice C l d] := by rw [hW_, ← s_1]; exact Blk.new _ _ _
  have y0 : Below w.heap.size w W := by rw [hW_]; exact ((Below.refl _ _).alloc (Nat.le_refl _) _).alloc (by simp) _
  have HW := Lib.hid hW_
  clear hW_ s_1
  have q0 : W.cell? ⟨w.heap.size, 0, none⟩ = some (.int .i64 sy) := b0.cell 0
  have q1 : W.cell? ⟨w.heap.size, 1, none⟩ = some (.int .i64 st) := b0.cell 1
  have q2 : W.cell? ⟨w.heap.size, 2, none⟩ = some (.slice A n k) := b0.cell 2
  have r0 : W.cell? ⟨(w.heap.size + 1), 0, none⟩ = some (.int .i64 c.q) := b1.cell 0
  have r1 : W.cell? ⟨(w.heap.size + 1), 1, none⟩ = some (.slice B m a) := b1.cell 1
  have r2 : W.cell? ⟨(w.heap.size + 1), 2, none⟩ = some (.slice C l d) := b1.cell 2
  have hwW : w.heap.size + 1 < W.heap.size := b1.lt
  go_enter Try.func110, Try.ntmps110
  go_wp2_with fail
  rw [← HW.out]
  refine (runnerOf_any _ _ _ _ _ _ _ _ _ c.xs _ _ _ c.ys _ (hx.below y0) (hy.below y0) hm hl).mono ?_
  rintro e W1 ⟨g, L, cl, R, cr, rfl, hgW, hrun, ol, or_, hap, z1⟩
  have hgw : w.heap.size ≤ g := by omega
  have y1 := hb0.trans ((y0.trans (z1.mono y0.size)).mono hb0.size)
  have hz01 : Below w.heap.size w W1 := y0.trans (z1.mono y0.size)
  have hst : FS w0 g sy st A n k (itC sy rs c 0) (D 0) W1 := by
    refine ⟨X0, fun h => by have := HX0.out g h; omega, fun b hb => Nat.lt_of_lt_of_le (HX0.out b hb) hz01.size, ?_, y1, HD.out 0 X0 w W1 HD0.out (fr_below hz01)⟩
    have hrc : RunC (fun _ => False) W1 W.heap.size g sy st A n k c := NewRunner.runC hrun ol or_ hap
    obtain ⟨L', c', R', d', e1, e2, e3, e4, _, _⟩ := hrc
    refine ⟨L', c', R', d', e1, e2.mono (by have := hb0.size; omega), e3.mono (by have := hb0.size; omega), e4, fun b hb h => ?_, fun b hb h => ?_⟩
    · have := HX0.out b h; have := e2.blk_ge b hb; omega
    · have := HX0.out b h; have := e3.blk_ge b hb; omega
  have HGW := Lib.hid hgw
  clear q0 q1 q2 r0 r1 r2 HW hrun ol or_ hap z1 b0 b1 hwW y0 hgW hgw y1 hz01 HD0 HX0
  clear hx hy
  have HP := Lib.hid (fun i h => posF_bound (i := i) HG.out h)
  go_wp2_with fail
  go_loopw [12, 13] (fun s12 s13 wr => ∃ i : Nat, i ≤ N ∧ s13 = .int .i64 (i : Int) ∧ s12 = .int .i64 (posF sy rs c i) ∧ Alive sy rs c i ∧ FS w0 g sy st A n k (itC sy rs c i) (D i) wr) (fun _ s13 _ => N - (intOf s13).toNat)
  case atStart => exact ⟨0, Nat.zero_le _, rfl, rfl, Alive.zero _ _ _, hst⟩
  case round =>
    obtain ⟨i, hi, rfl, rfl, hal, hS⟩ := hrel
    have HAL := Lib.hid hal
    have HA1 := Lib.hid (HA.out i g wr hi hal hS)
    clear hst hal
    go_wp2_with fail
    refine HA1.out.mono ?_
    rintro e W1 ⟨⟨u, rfl⟩, hS1⟩
    have HGD := Lib.hid (HAL.out.good HG.out)
    obtain ⟨X1, hX1g, hX1b, hR1, hy1, hd1⟩ := id hS1
    have hgl : g < W1.heap.size := by obtain ⟨_, _, _, _, e1, _⟩ := hR1; exact Blk.lt e1
    have HH1 := Lib.hid (halts_c hR1 (hr.below hy1) HGD.out hn)
    clear hR1 hd1 hX1g hX1b HA1
    by_cases hlt : i < N
    rotate_left
    · obtain rfl : i = N := by omega
      have hd : ((i : Int) == (i : Int)) = true := by simp
      go_wp2_with fail
      refine HH1.out.mono ?_
      rintro e W2 ⟨rfl, z2⟩
      have hS2 := hS1.below (HD'.out i) z2
      go_wp2_with fail
      exact bodyPost_ret (v := .tuple #[.int .i64 (i : Int), .bool (haltC sy rs (itC sy rs c i)), .int .i64 0]) (by simp [results, Try.results110, go_sem]) rfl (.inl ⟨i, g, HGW.out, ⟨Nat.le_refl _, HAL.out, .inl rfl⟩, rfl, hS2⟩)
    have hd : ((i : Int) == (N : Int)) = false := by simp; omega
    cases hh : haltC sy rs (itC sy rs c i) with
    | true =>
      have HH := Lib.hid hh
      rw [hh] at HH1
      clear hh
      go_wp2_with fail
      refine HH1.out.mono ?_
      rintro e W2 ⟨rfl, z2⟩
      have hS2 := hS1.below (HD'.out i) z2
      obtain ⟨X2, _, _, hR2, hy2, _⟩ := id hS2
      have HH2 := Lib.hid (halts_c hR2 (hr.below hy2) HGD.out hn)
      rw [HH.out] at HH2
      clear hR2
      go_wp2_with fail
      refine HH2.out.mono ?_
      rintro e W3 ⟨rfl, z3⟩
      have hS3 := hS2.below (HD'.out i) z3
      go_wp2_with fail
      exact bodyPost_ret (v := .tuple #[.int .i64 (i : Int), .bool true, .int .i64 0]) (by simp [results, Try.results110, go_sem]) rfl (.inl ⟨i, g, HGW.out, ⟨hi, HAL.out, .inr HH.out⟩, by rw [HH.out], hS3⟩)
    | false =>
      have HH := Lib.hid hh
      rw [hh] at HH1
      clear hh
      go_wp2_with fail
      refine HH1.out.mono ?_
      rintro e W2 ⟨rfl, z2⟩
      have hS2 := hS1.below (HD'.out i) z2
      obtain ⟨X2, _, _, hR2, hy2, _⟩ := id hS2
      have HR2 := Lib.hid (rule_c hR2 (hr.below hy2) HGD.out hn)
      have HB1' := Lib.hid (fun W h => HB.out i g W hlt HAL.out HH.out h)
      have HPN : Hid (posF sy rs c (i + 1) = posF sy rs c i + (ruleOf sy rs (itC sy rs c i).q (itC sy rs c i).ys).b) := Lib.hid rfl
      have HRM := Lib.hid (rule_move HGD.out HH.out)
      generalize ruleOf sy rs (itC sy rs c i).q (itC sy rs c i).ys = r at *
      clear hR2
      go_wp2_with fail
      refine HR2.out.mono ?_
      rintro e W3 ⟨rfl, z3⟩
      obtain ⟨W4, hW_⟩ : ∃ W_, W_ = W3.alloc (.cells #[.int .i64 r.a, .int .i64 r.b, .int .i64 r.c] 229) := ⟨_, rfl⟩
      have b4 : Blk W4 W3.heap.size 229 #[.int .i64 r.a, .int .i64 r.b, .int .i64 r.c] := by rw [hW_]; exact Blk.new W3 _ _
      have z4 : Below W3.heap.size W3 W4 := by rw [hW_]; exact (Below.refl _ _).alloc (Nat.le_refl _) _
      have HW4 := Lib.hid hW_
      clear hW_
      have hS4 := (hS2.below (HD'.out i) z3).below (HD'.out i) z4
      have HB1 := Lib.hid (HB1'.out W4 hS4)
      have hg3 : g < W3.heap.size := by have := z2.size; have := z3.size; omega
      have p0 : W4.cell? ⟨W3.heap.size, 0, none⟩ = some (.int .i64 r.a) := b4.cell 0
      have p1 : W4.cell? ⟨W3.heap.size, 1, none⟩ = some (.int .i64 r.b) := b4.cell 1
      have p2 : W4.cell? ⟨W3.heap.size, 2, none⟩ = some (.int .i64 r.c) := b4.cell 2
      go_upto_region 8 with fail
      rw [← HW4.out]
      go_wp2_with fail
      refine HB1.out.mono ?_
      rintro e W5 ⟨⟨u, rfl⟩, hS5, hkeep⟩
      have b5 := hkeep _ _ b4
      obtain ⟨X5, hX5g, hX5b, hR5, hy5, hd5⟩ := hS5
      clear p0 p1 p2 hkeep HB1 HB1' hS4 hS2 hS1 HR2 HH1 HW4 b4
      have hR6 : RunC (fun b => X5 b ∨ b = W3.heap.size) W5 w0.heap.size g sy st A n k (itC sy rs c i) := by
        obtain ⟨L, cl, R, d, e1, e2, e3, e4, e5, e6⟩ := hR5
        have far : ∀ {A : Option Addr} {n c lo : Nat} {cs : List Value}, Own W5 lo 2 1 A n c cs → ∀ b, blk A = some b → b ≠ W3.heap.size := by
          intro A n c lo cs ho b hb hbe
          subst hbe
          rcases ho.2 with ⟨rfl, _⟩ | ⟨b', off, cur, rfl, _, hg, _⟩
          · simp [blk] at hb
          · simp [blk] at hb; subst hb
            have h2 := hg.symm.trans b5
            simp at h2
        exact ⟨L, cl, R, d, e1, e2, e3, e4, fun b hb h => h.elim (e5 b hb) (far e2 b hb), fun b hb h => h.elim (e6 b hb) (far e3 b hb)⟩
      have hwg : w0.heap.size ≤ g := Nat.le_trans hw0s HGW.out
      have HSC := Lib.hid (step_c hR6 (fun h => h.elim hX5g (fun e => by omega)) (fun b h => h.elim (hX5b b) (fun e => by rw [e]; exact b5.lt)) hr hy5 hwg HGD.out hn)
      clear hR5
      go_wp2_with fail
      refine HSC.out.mono ?_
      rintro e W6 ⟨rfl, hR7, hy6, hf6, _⟩
      have b6 : Blk W6 W3.heap.size 229 #[.int .i64 r.a, .int .i64 r.b, .int .i64 r.c] := (hf6.same _ (.inr rfl) b5.lt).trans b5
      cases hro : roomC (nextC sy rs (itC sy rs c i)) with
      | false =>
        have HRO := Lib.hid hro
        clear hro
        go_wp2_with fail
        exact bodyPost_ret (v := .tuple #[.int .i64 0, .bool false, .int .i64 5]) (by simp [results, Try.results110, go_sem]) rfl (.inr ⟨i, ⟨hlt, HAL.out, HH.out, HRO.out⟩, rfl, hy6⟩)
      | true =>
        have HAL1 := Lib.hid (HAL.out.next HH.out hro)
        clear hro
        have hp1 := HP.out (i + 1) HAL1.out
        rw [HPN.out] at hp1
        have hS6 : FS w0 g sy st A n k (itC sy rs c (i + 1)) (D (i + 1)) W6 := by
          refine ⟨X5, hX5g, fun b hb => Nat.lt_of_lt_of_le (hX5b b hb) hf6.size, ?_, hy6, HD.out _ X5 W5 W6 hd5 ⟨hf6.size, fun b hb hl => hf6.same b (.inl hb) hl⟩⟩
          obtain ⟨L, cl, R, d, e1, e2, e3, e4, e5, e6⟩ := hR7
          exact ⟨L, cl, R, d, e1, e2, e3, e4, fun b hb h => e5 b hb (.inl h), fun b hb h => e6 b hb (.inl h)⟩
        have p1 : W6.cell? ⟨W3.heap.size, 1, none⟩ = some (.int .i64 r.b) := b6.cell 1
        clear hR6 hR7 hd5 HSC
        go_wp2_with fail
        go_roundw
        case rel => exact ⟨i + 1, by omega, by go_num, by rw [HPN.out], HAL1.out, hS6⟩
        case measure => simp [intOf]; omega
end Go.Proofs.Ytbpofkggoolmpaa

/-
  Plain facts of the measures of a run: the least and the greatest cell, how often the head is on each, the steps over a border.
-/
namespace Go.Proofs.Ytbpofkggoolmpaa

/-- The least and the greatest cell of the first i configurations, with 0. -/
def loF (sy : Int) (rs : List R3) (c : Conf) : Nat → Int
  | 0 => 0
  | i + 1 => min (loF sy rs c i) (posF sy rs c i)
def hiF (sy : Int) (rs : List R3) (c : Conf) : Nat → Int
  | 0 => 0
  | i + 1 => max (hiF sy rs c i) (posF sy rs c i)
/-- How many of the first i configurations have the head on a cell. -/
def cntF (sy : Int) (rs : List R3) (c : Conf) : Nat → Int → Nat
  | 0, _ => 0
  | i + 1, p => cntF sy rs c i p + (if posF sy rs c i = p then 1 else 0)
def visF (sy : Int) (rs : List R3) (c : Conf) (i : Nat) (p : Int) : Option Int := if cntF sy rs c i p = 0 then none else some (cntF sy rs c i p : Int)
/-- The states behind the first i steps that cross the border left of a cell. -/
def crF (sy : Int) (rs : List R3) (c : Conf) (at_ : Int) : Nat → List Int
  | 0 => []
  | i + 1 => if min (posF sy rs c i) (posF sy rs c i + (ruleOf sy rs (itC sy rs c i).q (itC sy rs c i).ys).b) = at_ - 1 then crF sy rs c at_ i ++ [(ruleOf sy rs (itC sy rs c i).q (itC sy rs c i).ys).c] else crF sy rs c at_ i

section
variable {sy st : Int} {rs : List R3} {c : Conf}
theorem lo_le (i : Nat) : loF sy rs c i ≤ 0 ∧ 0 ≤ hiF sy rs c i := by
  induction i with
  | zero => exact ⟨Int.le_refl _, Int.le_refl _⟩
  | succ i ih => unfold loF hiF; omega
theorem pos_in (i : Nat) : loF sy rs c (i + 1) ≤ posF sy rs c i ∧ posF sy rs c i ≤ hiF sy rs c (i + 1) := by
  unfold loF hiF; omega
theorem lo_mono (i : Nat) : loF sy rs c (i + 1) ≤ loF sy rs c i ∧ hiF sy rs c i ≤ hiF sy rs c (i + 1) := by
  show min _ _ ≤ _ ∧ _ ≤ max _ _
  omega
theorem pos_step (hg : goodC sy st rs c) {i : Nat} (ha : Alive sy rs c (i + 1)) : posF sy rs c (i + 1) = posF sy rs c i - 1 ∨ posF sy rs c (i + 1) = posF sy rs c i + 1 := by
  have h2 := rule_move ((show Alive sy rs c i from fun j hj => ha j (by omega)).good hg) (ha i (by omega)).1
  show posF sy rs c i + _ = _ ∨ posF sy rs c i + _ = _
  omega
theorem lo_bound (hg : goodC sy st rs c) : ∀ i, Alive sy rs c i → -(i : Int) ≤ loF sy rs c (i + 1) ∧ hiF sy rs c (i + 1) ≤ (i : Int) := by
  intro i
  induction i with
  | zero => intro _; show -((0 : Nat) : Int) ≤ min 0 0 ∧ max 0 0 ≤ ((0 : Nat) : Int); omega
  | succ i ih =>
    intro h
    have h1 := ih (fun j hj => h j (by omega))
    have h2 := posF_bound hg (i + 1) h
    show _ ≤ min (loF sy rs c (i + 1)) _ ∧ max (hiF sy rs c (i + 1)) _ ≤ _
    omega
/-- The cells between the least and the greatest are those that the head has been on. -/
theorem seen_iff (hg : goodC sy st rs c) : ∀ i, Alive sy rs c i → ∀ p, (loF sy rs c (i + 1) ≤ p ∧ p ≤ hiF sy rs c (i + 1)) ↔ cntF sy rs c (i + 1) p ≠ 0 := by
  intro i
  induction i with
  | zero =>
    intro _ p
    show (min 0 0 ≤ p ∧ p ≤ max 0 0) ↔ 0 + (if (0 : Int) = p then 1 else 0) ≠ 0
    by_cases h : (0 : Int) = p
    · rw [if_pos h]; omega
    · rw [if_neg h]; omega
  | succ i ih =>
    intro h p
    have h1 := ih (fun j hj => h j (by omega)) p
    have h2 := pos_in (sy := sy) (rs := rs) (c := c) i
    have h3 := pos_step hg h
    show (min (loF sy rs c (i + 1)) (posF sy rs c (i + 1)) ≤ p ∧ p ≤ max (hiF sy rs c (i + 1)) (posF sy rs c (i + 1))) ↔ cntF sy rs c (i + 1) p + (if posF sy rs c (i + 1) = p then 1 else 0) ≠ 0
    by_cases hp : posF sy rs c (i + 1) = p
    · rw [if_pos hp]; omega
    · rw [if_neg hp, Nat.add_zero]; refine Iff.trans ?_ h1; omega
theorem cnt_le (i : Nat) (p : Int) : cntF sy rs c i p ≤ i := by
  induction i with
  | zero => exact Nat.le_refl _
  | succ i ih =>
    show cntF sy rs c i p + (if _ then 1 else 0) ≤ _
    split <;> omega
/-- How many cells the head has been on. -/
def manyF (sy : Int) (rs : List R3) (c : Conf) : Nat → Nat
  | 0 => 0
  | i + 1 => (hiF sy rs c (i + 1) - loF sy rs c (i + 1) + 1).toNat
theorem many_int (i : Nat) : ((manyF sy rs c (i + 1) : Nat) : Int) = hiF sy rs c (i + 1) - loF sy rs c (i + 1) + 1 := by
  have h4 := lo_le (sy := sy) (rs := rs) (c := c) (i + 1)
  exact Int.toNat_of_nonneg (by omega)
theorem many_step (hg : goodC sy st rs c) {i : Nat} (ha : Alive sy rs c i) : manyF sy rs c (i + 1) = if cntF sy rs c i (posF sy rs c i) = 0 then manyF sy rs c i + 1 else manyF sy rs c i := by
  cases i with
  | zero => rfl
  | succ i =>
    have h1 := seen_iff hg i (fun j hj => ha j (by omega)) (posF sy rs c (i + 1))
    have h2 := pos_in (sy := sy) (rs := rs) (c := c) i
    have h3 := pos_step hg ha
    have e1 := many_int (sy := sy) (rs := rs) (c := c) i
    have e2 := many_int (sy := sy) (rs := rs) (c := c) (i + 1)
    have e3 : loF sy rs c (i + 1 + 1) = min (loF sy rs c (i + 1)) (posF sy rs c (i + 1)) := rfl
    have e4 : hiF sy rs c (i + 1 + 1) = max (hiF sy rs c (i + 1)) (posF sy rs c (i + 1)) := rfl
    rw [e3, e4] at e2
    split
    · rename_i h0
      have : ¬ (loF sy rs c (i + 1) ≤ posF sy rs c (i + 1) ∧ posF sy rs c (i + 1) ≤ hiF sy rs c (i + 1)) := fun h => h1.1 h h0
      omega
    · rename_i h0
      have := h1.2 h0
      omega
/-- The visits of n cells from a on. -/
def visTo (sy : Int) (rs : List R3) (c : Conf) (i : Nat) (a : Int) : Nat → List Int
  | 0 => []
  | n + 1 => visTo sy rs c i a n ++ [(cntF sy rs c i (a + (n : Int)) : Int)]
theorem visTo_len (i : Nat) (a : Int) (n : Nat) : (visTo sy rs c i a n).length = n := by
  induction n with
  | zero => rfl
  | succ n ih => show (visTo sy rs c i a n ++ _).length = _; rw [List.length_append, ih]; rfl
theorem visTo_sum_step (i : Nat) (a : Int) (n : Nat) : (visTo sy rs c (i + 1) a n).sum = (visTo sy rs c i a n).sum + (if a ≤ posF sy rs c i ∧ posF sy rs c i < a + (n : Int) then 1 else 0) := by
  induction n with
  | zero => rw [if_neg (by omega)]; rfl
  | succ n ih =>
    show (visTo sy rs c (i + 1) a n ++ [((cntF sy rs c i (a + (n : Int)) + (if posF sy rs c i = a + (n : Int) then 1 else 0) : Nat) : Int)]).sum = (visTo sy rs c i a n ++ [(cntF sy rs c i (a + (n : Int)) : Int)]).sum + _
    rw [List.sum_append, List.sum_append, ih]
    simp only [List.sum_cons, List.sum_nil]
    by_cases h : posF sy rs c i = a + (n : Int)
    · rw [if_neg (by omega), if_pos h, if_pos (by omega)]; omega
    · rw [if_neg h]
      by_cases h2 : a ≤ posF sy rs c i ∧ posF sy rs c i < a + (n : Int)
      · rw [if_pos h2, if_pos (by omega)]; omega
      · rw [if_neg h2, if_neg (by omega)]; omega
theorem visTo_zero (a : Int) (n : Nat) : (visTo sy rs c 0 a n).sum = 0 := by
  induction n with
  | zero => rfl
  | succ n ih => show (visTo sy rs c 0 a n ++ [((0 : Nat) : Int)]).sum = 0; rw [List.sum_append, ih]; rfl
theorem visTo_sum (a : Int) (n : Nat) : ∀ i, (∀ j < i, a ≤ posF sy rs c j ∧ posF sy rs c j < a + (n : Int)) → (visTo sy rs c i a n).sum = (i : Int) := by
  intro i
  induction i with
  | zero => intro _; exact visTo_zero a n
  | succ i ih =>
    intro h
    rw [visTo_sum_step, ih (fun j hj => h j (by omega)), if_pos (h i (by omega))]
    omega
theorem in_all (i : Nat) : ∀ j < i, loF sy rs c i ≤ posF sy rs c j ∧ posF sy rs c j ≤ hiF sy rs c i := by
  induction i with
  | zero => intro j hj; omega
  | succ i ih =>
    intro j hj
    by_cases h : j = i
    · subst h; exact pos_in _
    · have h1 := ih j (by omega)
      have h2 := lo_mono (sy := sy) (rs := rs) (c := c) i
      omega
/-- The law of the visits. -/
theorem vis_law (i : Nat) : (visTo sy rs c (i + 1) (loF sy rs c (i + 1)) (manyF sy rs c (i + 1))).sum = (i : Int) + 1 := by
  have := visTo_sum (sy := sy) (rs := rs) (c := c) (loF sy rs c (i + 1)) (manyF sy rs c (i + 1)) (i + 1) (fun j hj => by
    have h1 := in_all (sy := sy) (rs := rs) (c := c) (i + 1) j hj
    have h2 := lo_le (sy := sy) (rs := rs) (c := c) (i + 1)
    have h3 := many_int (sy := sy) (rs := rs) (c := c) i
    omega)
  rw [this]; omega
/-- The law of the crossings. -/
theorem cross_law (hg : goodC sy st rs c) (a : Int) : ∀ i, Alive sy rs c i → (crF sy rs c a i ≠ [] ↔ loF sy rs c (i + 1) < a ∧ a ≤ hiF sy rs c (i + 1)) := by
  intro i
  induction i with
  | zero =>
    intro _
    show (([] : List Int) ≠ [] ↔ min 0 0 < a ∧ a ≤ max 0 0)
    exact ⟨fun h => absurd rfl h, fun h => by omega⟩
  | succ i ih =>
    intro h
    have h1 := ih (fun j hj => h j (by omega))
    have h2 := pos_in (sy := sy) (rs := rs) (c := c) i
    have h3 := pos_step hg h
    have hp : posF sy rs c (i + 1) = posF sy rs c i + (ruleOf sy rs (itC sy rs c i).q (itC sy rs c i).ys).b := rfl
    show (if min (posF sy rs c i) (posF sy rs c i + (ruleOf sy rs (itC sy rs c i).q (itC sy rs c i).ys).b) = a - 1 then crF sy rs c a i ++ [(ruleOf sy rs (itC sy rs c i).q (itC sy rs c i).ys).c] else crF sy rs c a i) ≠ [] ↔ min (loF sy rs c (i + 1)) (posF sy rs c (i + 1)) < a ∧ a ≤ max (hiF sy rs c (i + 1)) (posF sy rs c (i + 1))
    rw [← hp]
    split
    · refine ⟨fun _ => ?_, fun _ => by simp⟩
      omega
    · rw [h1]; omega
theorem cross_len (a : Int) (i : Nat) : (crF sy rs c a i).length ≤ i := by
  induction i with
  | zero => exact Nat.le_refl _
  | succ i ih =>
    unfold crF
    split
    · rw [List.length_append]; simp; omega
    · omega
end
/-- One more at a place. -/
theorem sum_set {xs : List Int} {k : Nat} {x y : Int} (h : xs[k]? = some x) : (xs.set k y).sum = xs.sum + (y - x) := by
  induction xs generalizing k with
  | nil => simp at h
  | cons a t ih =>
    cases k with
    | zero =>
      simp only [List.getElem?_cons_zero, Option.some.injEq] at h
      subst h
      simp only [List.set_cons_zero, List.sum_cons]; omega
    | succ k =>
      simp only [List.getElem?_cons_succ] at h
      simp only [List.set_cons_succ, List.sum_cons, ih h]; omega
end Go.Proofs.Ytbpofkggoolmpaa
