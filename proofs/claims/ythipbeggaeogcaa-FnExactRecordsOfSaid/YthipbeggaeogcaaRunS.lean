/-
  Contracts of the reference's l05OwnConfig, l05Halts, l05Step in the words of a configuration, and of l05Run.
-/
import Derived.Test.YthipbeggaeogcaaMachX
namespace Go.Proofs.Ythipbeggaeogcaa
open Go.RowKit

set_option maxHeartbeats 2000000 in
theorem l05OwnConfig_any (f : Nat) (q : Int) (L : Option Addr) (m c : Nat) (xs : List Int) (R : Option Addr) (l d : Nat) (ys : List Int) (w : World) (hc : ConfAt w f q L m c R l d) (hx : SI w L m xs) (hy : SI w R l ys) (hm : m ≤ 1048576) (hl : l ≤ 1048576) :
    Calls Try.prog 188 #[.pointer (some ⟨f, 0, none⟩)] w (NewConf w q xs ys) := by
  obtain ⟨W, hW⟩ : ∃ W, W = w.alloc (.cells #[.int .i64 0, .slice none 0 0, .slice none 0 0] 172) := ⟨_, rfl⟩
  have b0 : Blk W w.heap.size 172 #[.int .i64 0, .slice none 0 0, .slice none 0 0] := by rw [hW]; exact Blk.new w _ _
  have y0 : Below w.heap.size w W := by rw [hW]; exact (Below.refl _ _).alloc (Nat.le_refl _) _
  have HW := Lib.hid hW
  clear hW
  have hcW := hc.below y0
  have q3 : W.cell? ⟨f, 0, none⟩ = some (.int .i64 q) := hcW.1
  have q4 : W.cell? ⟨f, 1, none⟩ = some (.slice L m c) := hcW.2.1
  have q5 : W.cell? ⟨f, 2, none⟩ = some (.slice R l d) := hcW.2.2
  have hgw : f < w.heap.size := hc.lt
  have n1 : ¬ f = w.heap.size := by omega
  have hwW : w.heap.size < W.heap.size := b0.lt
  have slW := (hx.below y0).drewN 1
  have srW := hy.below y0
  have hxl : xs.length = m := hx.len
  have hyl : ys.length = l := hy.len
  have HXL := Lib.hid hxl
  have HYL := Lib.hid hyl
  clear hxl hyl
  have KEEP : Hid (∀ cur, Below W.heap.size W cur → cur.cell? ⟨f, 0, none⟩ = some (.int .i64 q) ∧ cur.cell? ⟨f, 1, none⟩ = some (.slice L m c) ∧ cur.cell? ⟨f, 2, none⟩ = some (.slice R l d)) := fun cur h => hcW.below h
  go_enter Try.func188, Try.ntmps188
  go_wp2_with fail
  rw [← HW.out]
  go_region_held3 (fun w' => w'.cell? ⟨f, 0, none⟩ = some (.int .i64 q) ∧ w'.cell? ⟨f, 1, none⟩ = some (.slice L m c) ∧ w'.cell? ⟨f, 2, none⟩ = some (.slice R l d))
    (first
      | (go_keep; done)
      | (exact ⟨far_set n1 (far_set n1 (far_set n1 (KEEP.out _ z3).1)), far_set n1 (far_set n1 (far_set n1 (KEEP.out _ z3).2.1)), far_set n1 (far_set n1 (far_set n1 (KEEP.out _ z3).2.2))⟩)
      | (exact KEEP.out _ z3)
      | (exact KEEP.out _ z2))
    (first
      | (go_at_call_of 83 (Value.slice L m c); refine (l00Own_any _ _ _ xs _ slW (by omega)).mono ?_; rintro e w2 ⟨L2, cl, rfl, ol2, z2'⟩; have z2 : Below W.heap.size W w2 := below_undrew z2')
      | (go_at_call_of 83 (Value.slice R l d); refine (l00Own_any _ _ _ ys _ (SI.below (xs := ys) srW z2) (by omega)).mono ?_; rintro e w3 ⟨R2, cr, rfl, or2, z3'⟩; have z3 : Below W.heap.size W w3 := z2.trans (z3'.mono z2.size)
         have e0 : w3.cell? ⟨w.heap.size, 0, none⟩ = some (.int .i64 0) := (b0.below' z3).cell 0
         have e1 : w3.cell? ⟨w.heap.size, 1, none⟩ = some (.slice none 0 0) := (b0.below' z3).cell 1
         have e2 : w3.cell? ⟨w.heap.size, 2, none⟩ = some (.slice none 0 0) := (b0.below' z3).cell 2
         have f0 := (b0.below' z3).frozen 0
         have f1 := (b0.below' z3).frozen 1
         have f2 := (b0.below' z3).frozen 2))
  go_wp2_with fail
  have d1 : Blk (((w3.setCell ⟨w.heap.size, 0, none⟩ (.int .i64 q)).setCell ⟨w.heap.size, 1, none⟩ (.slice L2 xs.length cl)).setCell ⟨w.heap.size, 2, none⟩ (.slice R2 ys.length cr)) w.heap.size 172 #[.int .i64 q, .slice L2 xs.length cl, .slice R2 ys.length cr] := (((b0.below' z3).set_ 0 _).set_ 1 _).set_ 2 _
  have hz2 : W.heap.size ≤ w2.heap.size := z2.size
  have olf : Own (((w3.setCell ⟨w.heap.size, 0, none⟩ (.int .i64 q)).setCell ⟨w.heap.size, 1, none⟩ (.slice L2 xs.length cl)).setCell ⟨w.heap.size, 2, none⟩ (.slice R2 ys.length cr)) W.heap.size 2 1 L2 xs.length cl (ints xs) :=
    (((Own.below ol2 z3').far (fun e => by have h : W.heap.size ≤ w.heap.size := ol2.blk_ge _ e; omega) _).far (fun e => by have h : W.heap.size ≤ w.heap.size := ol2.blk_ge _ e; omega) _).far (fun e => by have h : W.heap.size ≤ w.heap.size := ol2.blk_ge _ e; omega) _
  have orf : Own (((w3.setCell ⟨w.heap.size, 0, none⟩ (.int .i64 q)).setCell ⟨w.heap.size, 1, none⟩ (.slice L2 xs.length cl)).setCell ⟨w.heap.size, 2, none⟩ (.slice R2 ys.length cr)) w2.heap.size 2 1 R2 ys.length cr (ints ys) :=
    ((or2.far (fun e => by have h : w2.heap.size ≤ w.heap.size := or2.blk_ge _ e; omega) _).far (fun e => by have h : w2.heap.size ≤ w.heap.size := or2.blk_ge _ e; omega) _).far (fun e => by have h : w2.heap.size ≤ w.heap.size := or2.blk_ge _ e; omega) _
  have yf : Below w.heap.size w (((w3.setCell ⟨w.heap.size, 0, none⟩ (.int .i64 q)).setCell ⟨w.heap.size, 1, none⟩ (.slice L2 xs.length cl)).setCell ⟨w.heap.size, 2, none⟩ (.slice R2 ys.length cr)) := (((y0.trans (z3.mono y0.size)).setCell (Nat.le_refl _) _).setCell (Nat.le_refl _) _).setCell (Nat.le_refl _) _
  generalize ((w3.setCell ⟨w.heap.size, 0, none⟩ (.int .i64 q)).setCell ⟨w.heap.size, 1, none⟩ (.slice L2 xs.length cl)).setCell ⟨w.heap.size, 2, none⟩ (.slice R2 ys.length cr) = wf at *
  have g0 : wf.cell? ⟨w.heap.size, 0, none⟩ = some (.int .i64 q) := d1.cell 0
  have g1 : wf.cell? ⟨w.heap.size, 1, none⟩ = some (.slice L2 xs.length cl) := d1.cell 1
  have g2 : wf.cell? ⟨w.heap.size, 2, none⟩ = some (.slice R2 ys.length cr) := d1.cell 2
  have hres : NewConf w q xs ys (.returned (.agg #[.int .i64 q, .slice L2 xs.length cl, .slice R2 ys.length cr])) wf := by
    refine ⟨L2, cl, R2, cr, rfl, olf.mono (by omega), orf.mono (by omega), fun b h5 h6 => ?_, yf⟩
    have h7 := ol2.blk_lt b h5
    have h8 := or2.blk_ge b h6
    omega
  exact bodyPost_ret (v := .agg #[.int .i64 q, .slice L2 xs.length cl, .slice R2 ys.length cr]) (by simp [results, Try.results188, go_sem, g0, g1, g2]) rfl hres

/-- A configuration in a block, with its sides. -/
def ConfC (w : World) (lo f : Nat) (c : Conf) : Prop :=
  ∃ L a R d, Blk w f 172 #[.int .i64 c.q, .slice L c.xs.length a, .slice R c.ys.length d] ∧ Own w lo 2 1 L c.xs.length a (ints c.xs) ∧ Own w lo 2 1 R c.ys.length d (ints c.ys) ∧ (∀ b, blk L = some b → blk R ≠ some b)
theorem ConfC.below {w w' : World} {lo f : Nat} {c : Conf} (h : ConfC w lo f c) (z : Below w.heap.size w w') : ConfC w' lo f c := by
  obtain ⟨L, a, R, d, h1, h2, h3, h4⟩ := h
  exact ⟨L, a, R, d, h1.below' z, h2.below z, h3.below z, h4⟩
theorem ConfC.drewN {w : World} {lo f : Nat} {c : Conf} (h : ConfC w lo f c) (q : Nat) : ConfC (w.drewN q) lo f c := h

theorem l05Halts_c {w : World} {g : Nat} {sy st : Int} {A : Option Addr} {n k : Nat} {rs : List R3} {f lo : Nat} {c : Conf} (hm : MachAt w g sy st A n k) (hrs : S3 w A n rs) (hc : ConfC w lo f c) (hg : goodC sy st rs c) (hn : n ≤ 1048576) :
    Calls Try.prog 138 #[.pointer (some ⟨g, 0, none⟩), .pointer (some ⟨f, 0, none⟩)] w fun e w' => e = .returned (.bool (haltC sy rs c)) ∧ Below w.heap.size w w' := by
  obtain ⟨L, cl, R, d, hb, ol, or_, _⟩ := hc
  obtain ⟨h1, h2, h3, h4, hnl, h5, h6, hx2, hy2, hxm, hym, hrsv⟩ := conf_parts hg
  obtain ⟨a1, a2, a3, a4, idx, hidx, hlt⟩ := at_parts (ys := c.ys.reverse) h1 h2 h3 h4 hnl h5 h6 (fun y hy => hym y (List.mem_reverse.1 hy))
  have hget := ruleOf_get (rs := rs) (ys := c.ys) hidx hlt
  have hln : rs.length = n := hrs.len
  exact l05Halts_any g sy st A n k rs f c.q L _ cl R _ d c.ys idx (ruleOf sy rs c.q c.ys) w hm hrs hb.confAt or_.rd (by omega) a1 (by omega) a3 (by omega) (Lib.hid hidx) (by omega) (Lib.hid hget) hn
theorem l05At_c {w : World} {g : Nat} {sy st : Int} {A : Option Addr} {n k : Nat} {rs : List R3} {f lo : Nat} {c : Conf} (hm : MachAt w g sy st A n k) (hc : ConfC w lo f c) (hg : goodC sy st rs c) :
    Calls Try.prog 175 #[.pointer (some ⟨g, 0, none⟩), .pointer (some ⟨f, 0, none⟩)] w fun e w' => e = .returned (.int .i64 (atI sy c.q c.ys.reverse)) ∧ ∃ nq, w' = w.drewN nq := by
  obtain ⟨L, cl, R, d, hb, ol, or_, _⟩ := hc
  obtain ⟨h1, h2, h3, h4, hnl, h5, h6, hx2, hy2, hxm, hym, hrsv⟩ := conf_parts hg
  obtain ⟨a1, a2, a3, a4, idx, hidx, hlt⟩ := at_parts (ys := c.ys.reverse) h1 h2 h3 h4 hnl h5 h6 (fun y hy => hym y (List.mem_reverse.1 hy))
  exact l05At_any g sy st A n k f c.q L _ cl R _ d c.ys w hm hb.confAt or_.rd (by omega) a1 (by omega) a3 (by omega)
theorem l05Step_c {w : World} {g : Nat} {sy st : Int} {A : Option Addr} {n k : Nat} {rs : List R3} {f lo : Nat} {c : Conf} (hm : MachAt w g sy st A n k) (hrs : S3 w A n rs) (hc : ConfC w lo f c) (hg : goodC sy st rs c) (hn : n ≤ 1048576) :
    Calls Try.prog 140 #[.pointer (some ⟨g, 0, none⟩), .pointer (some ⟨f, 0, none⟩)] w (SpecConf w (nextC sy rs c) (roomC (nextC sy rs c))) := by
  obtain ⟨L, cl, R, d, hb, ol, or_, _⟩ := hc
  obtain ⟨h1, h2, h3, h4, hnl, h5, h6, hx2, hy2, hxm, hym, hrsv⟩ := conf_parts hg
  obtain ⟨gx, gy⟩ := conf_good hg
  obtain ⟨a1, a2, a3, a4, idx, hidx, hlt⟩ := at_parts (ys := c.ys.reverse) h1 h2 h3 h4 hnl h5 h6 (fun y hy => hym y (List.mem_reverse.1 hy))
  have hget := ruleOf_get (rs := rs) (ys := c.ys) hidx hlt
  have hln : rs.length = n := hrs.len
  have := l05Step_any g sy st A n k rs f c.q L _ cl c.xs R _ d c.ys idx (ruleOf sy rs c.q c.ys) w hm hrs hb.confAt ol.rd or_.rd (by omega) (by omega) ol.le or_.le a1 (by omega) a3 (by omega) (Lib.hid hidx) (by omega) (Lib.hid hget) hn
  rw [stepS_eq gx gy] at this
  exact this
theorem ConfC.set3 {w : World} {lo f : Nat} {cs : Array Value} {a0 b0 c0 : Value} {c : Conf} {L R : Option Addr} {a d : Nat} (hcs : cs = #[a0, b0, c0]) (hb : Blk w f 172 cs) (h2 : Own w lo 2 1 L c.xs.length a (ints c.xs)) (h3 : Own w lo 2 1 R c.ys.length d (ints c.ys)) (h4 : ∀ b, blk L = some b → blk R ≠ some b) :
    ConfC (((w.setCell ⟨f, 0, none⟩ (.int .i64 c.q)).setCell ⟨f, 1, none⟩ (.slice L c.xs.length a)).setCell ⟨f, 2, none⟩ (.slice R c.ys.length d)) lo f c := by
  subst hcs
  have e : ∀ {X : Option Addr} {n' c' : Nat} {xs : List Value}, Own w lo 2 1 X n' c' xs → blk X ≠ some f := by
    intro X n' c' xs h hbk
    rcases h.2 with ⟨rfl, _⟩ | ⟨b, off, cur, rfl, _, hg, _⟩
    · simp [blk] at hbk
    · simp [blk] at hbk; subst hbk
      unfold Blk at hb
      rw [hg] at hb
      simp at hb
  exact ⟨L, a, R, d, conf_set hb _ _ _, ((h2.far (p := ⟨f, 0, none⟩) (e h2) _).far (p := ⟨f, 1, none⟩) (e h2) _).far (p := ⟨f, 2, none⟩) (e h2) _, ((h3.far (p := ⟨f, 0, none⟩) (e h3) _).far (p := ⟨f, 1, none⟩) (e h3) _).far (p := ⟨f, 2, none⟩) (e h3) _, h4⟩
end Go.Proofs.Ythipbeggaeogcaa
