/-
  Contracts of the laws' helpers over []Partial: eqPartialS, markPartialS, heldPartialS.
-/
import Derived.Test.YtokglpdlhacnaaaDoorPbBackAll4
import Derived.Test.YtokglpdlhacnaaaDoorPbBackAll10
import Derived.Test.YtokglpdlhacnaaaDoorPbBackAll11
import Derived.Test.YtokglpdlhacnaaaDoorPkdAncestorsOf0
import Derived.Test.YtokglpdlhacnaaaDoorRows
import Derived.LaidMore
import Derived.Stop.Joined
import Derived.Test.YtokglpdlhacnaaaDoorCards
import Derived.Test.YtokglpdlhacnaaaDoorTie
import Derived.SevenTiedAt
namespace Go.Proofs.YtokglpdlhacnaaaDoor
open Go.RowKit

set_option maxHeartbeats 4000000 in
theorem eqPartialS_c (A B : Option Addr) (n c d lo lo' : Nat) (ts us : List Pm) (w : World) (hA : OPs w lo A n c ts) (hB : OPs w lo' B n d us) (h : pas us = pas ts) (hs : ∀ x ∈ pas ts, x.cs.length ≤ 1000) (hn : n ≤ 1048576) :
    Calls Tryd.prog 33 #[.slice A n c, .slice B n d] w fun e w' => e = .returned (.bool true) ∧ Below w.heap.size w w' := by
  have HE := Lib.hid h
  have HSS := Lib.hid hs
  clear h hs
  go_enter Tryd.func33, Tryd.ntmps33
  go_wp2_with fail
  go_loopw [5] (fun i wr => ∃ k : Nat, k ≤ n ∧ i = .int .i64 (k : Int) ∧ Below w.heap.size w wr) (fun i _ => n - (intOf i).toNat)
  case atStart => exact ⟨0, Nat.zero_le _, rfl, Below.refl _ _⟩
  case round =>
    obtain ⟨k, hk, rfl, hz⟩ := hrel
    by_cases hlt : k < n
    · obtain ⟨t, b, off, HT, rfl, hbl, _, e0, e1, e2, oL, _⟩ := (hA.below hz).pick hlt
      obtain ⟨u, b', off', HU, rfl, hbl', _, e0', e1', e2', oL', _⟩ := (hB.below hz).pick hlt
      have hc : u.pa = t.pa := by
        have h1 := congrArg (·[k]?) HE.out
        simp only [pas, List.getElem?_map, HT.out, HU.out, Option.map_some, Option.some.injEq] at h1
        exact h1
      have hsz := HSS.out t.pa (List.mem_map.2 ⟨t, List.mem_of_getElem? HT.out, rfl⟩)
      have hx : t.xs.length ≤ 1000 := hsz
      obtain ⟨q', p', L', a', xs'⟩ := u
      simp only [Pm.pa, Pa.mk.injEq] at hc
      obtain ⟨hq, hp, hxs⟩ := hc
      dsimp only at hq hp hxs e0' e1' e2' oL'
      subst hq
      subst hp
      subst hxs
      have i1 : (0 : Int) ≤ (k : Int) := by omega
      have i2 : (k : Int) < (n : Int) := by omega
      clear hsz HU HT
      go_wp2_with fail
      go_region_held3 (fun w' => w'.cell? ⟨b, off + k * 3, none⟩ = some (.int .i64 t.q) ∧ w'.cell? ⟨b, off + k * 3 + 1, none⟩ = some (.int .i64 t.p) ∧ w'.cell? ⟨b, off + k * 3 + 2, none⟩ = some (.slice t.L t.xs.length t.a) ∧ w'.cell? ⟨b', off' + k * 3, none⟩ = some (.int .i64 t.q) ∧ w'.cell? ⟨b', off' + k * 3 + 1, none⟩ = some (.int .i64 t.p) ∧ w'.cell? ⟨b', off' + k * 3 + 2, none⟩ = some (.slice L' t.xs.length a'))
        (first | (go_keep; done) | (exact ⟨(z3.cell (p := ⟨b, _, none⟩) hbl).trans e0, (z3.cell (p := ⟨b, _, none⟩) hbl).trans e1, (z3.cell (p := ⟨b, _, none⟩) hbl).trans e2, (z3.cell (p := ⟨b', _, none⟩) hbl').trans e0', (z3.cell (p := ⟨b', _, none⟩) hbl').trans e1', (z3.cell (p := ⟨b', _, none⟩) hbl').trans e2'⟩))
        ((go_at_call 34; refine (eqPartial_any _ _ _ _ _ t.xs _ _ _ _ _ t.xs _ (oL.drewN 1).rd (oL'.drewN 1).rd (by omega)).mono ?_; rintro e W3 ⟨rfl, z3'⟩; have z3 : Below wr.heap.size wr W3 := below_undrew (n := 1) z3'))
      rw [samePartialB_self]
      go_wp2_with fail
      go_roundw
      case rel => exact ⟨k + 1, by omega, by go_num, hz.trans (z3.mono hz.size)⟩
      case measure => simp [intOf]; omega
    · go_wp2_with fail
      go_ret
      exact ⟨rfl, hz⟩

set_option maxHeartbeats 400000 in
theorem markI_zP (A : Option Addr) (c : Nat) (m : Int) (w : World) : Calls Tryd.prog 17 #[.slice A 0 c, .int .i64 m] w fun e w' => e = .returned (.int .i64 m) ∧ w = w' := by
  go_enter Tryd.func17, Tryd.ntmps17
  go_wp2
  go_loop [1, 5] (fun q i => q = .int .i64 m ∧ i = .int .i64 0) (fun _ _ => 0)
  case atStart => exact ⟨rfl, rfl⟩
  case round =>
    obtain ⟨rfl, rfl⟩ := hrel
    go_wp2
    go_ret
    exact ⟨rfl, rfl⟩
def MarkOP (w : World) (lo hi : Nat) (A : Option Addr) (n c : Nat) (m : Int) (e : Ending) (w' : World) : Prop :=
  e = .returned (.int .i64 (m + n)) ∧ Own w' lo 2 1 A n c (ints (marks m n)) ∧ Tch lo hi w w' ∧ (∀ b, blk A ≠ some b → w'.heap[b]? = w.heap[b]?)
theorem markI_oP (A : Option Addr) (n c : Nat) (xs : List Int) (m : Int) (w : World) (lo hi : Nat) (ho : Own w lo 2 1 A n c (ints xs)) (hh : ∀ b, blk A = some b → b < hi) (h0 : 0 ≤ m) (h1 : m + n ≤ 9223372036854775807) :
    Calls Tryd.prog 17 #[.slice A n c, .int .i64 m] w (MarkOP w lo hi A n c m) := by
  rcases Nat.eq_zero_or_pos n with hn | hn
  · subst hn
    have hx : xs = [] := by have := ho.1; rw [length_ints] at this; exact List.eq_nil_of_length_eq_zero (by omega)
    subst hx
    refine (markI_zP A c m w).mono ?_
    rintro e w' ⟨rfl, rfl⟩
    exact ⟨ret_int (by omega), ho, Tch.refl _ _ _, fun _ _ => rfl⟩
  · refine (markI A n c xs m w lo hi (.inr ho) hh h0 h1).mono ?_
    rintro e w' ⟨rfl, oo, t, s⟩
    exact ⟨rfl, oo.resolve_left (fun h => by omega), t, s⟩

def MarkPs (w : World) (lo hi : Nat) (A : Option Addr) (n c : Nat) (ts : List Pm) (p : Int) (e : Ending) (w' : World) : Prop :=
  e = .returned (.int .i64 (p + (offP ts n : Int))) ∧ OPs w' lo A n c (markPa p ts n) ∧ Tch lo hi w w'

set_option maxHeartbeats 8000000 in
theorem markPartialS_c (A : Option Addr) (n c : Nat) (ts : List Pm) (p : Int) (w : World) (lo hi : Nat) (hA : OPs w lo A n c ts) (hh : ∀ b, RecsB A (ts.flatMap Pm.rows) b → b < hi) (hs : ∀ x ∈ pas ts, x.cs.length ≤ 1000) (hn : n ≤ 1000) (g0 : 0 ≤ p) (g1 : p ≤ 1000000000) :
    Calls Tryd.prog 36 #[.slice A n c, .int .i64 p] w (MarkPs w lo hi A n c ts p) := by
  have HSS := Lib.hid hs
  have HH := Lib.hid hh
  have hl : ts.length = n := hA.len
  have HL := Lib.hid hl
  have HOF : Hid (∀ k, k ≤ n → offP ts k ≤ 1002000) := Lib.hid (fun k hk => by
    have := offP_le ts 1002 (fun t ht => by have := HSS.out t.pa (List.mem_map.2 ⟨t, ht, rfl⟩); show 2 + t.xs.length ≤ 1002; have h1 : t.xs.length ≤ 1000 := this; omega) k
    rw [HL.out] at this
    omega)
  clear hs hh hl
  have h0 : OPs w lo A n c (markPa p ts 0) := by rw [markPa_zero]; exact hA
  go_enter Tryd.func36, Tryd.ntmps36
  go_wp2_with fail
  go_loopw [1, 5] (fun q i wr => ∃ k : Nat, k ≤ n ∧ i = .int .i64 (k : Int) ∧ q = .int .i64 (p + (offP ts k : Int)) ∧ OPs wr lo A n c (markPa p ts k) ∧ Tch lo hi w wr) (fun _ i _ => n - (intOf i).toNat)
  case atStart => exact ⟨0, Nat.zero_le _, rfl, by simp [offP_zero], h0, Tch.refl _ _ _⟩
  case round =>
    obtain ⟨k, hk, rfl, rfl, hO, ht⟩ := hrel
    clear h0
    by_cases hlt : k < n
    · obtain ⟨t, b, off, HT, rfl, hbl, hlob, e0, e1, e2, oL, hfz⟩ := hO.pick hlt
      have hkl : k < ts.length := by rw [HL.out]; exact hlt
      have htk : t = ts[k] := by
        have h1 := markPa_get (p := p) (k := k) (List.getElem?_eq_getElem hkl)
        rw [HT.out] at h1
        simpa using h1
      have HTS : Hid (ts[k]? = some t) := Lib.hid (by rw [htk]; exact List.getElem?_eq_getElem hkl)
      have hsz := HSS.out t.pa (List.mem_map.2 ⟨t, List.mem_of_getElem? HTS.out, rfl⟩)
      have hx : t.xs.length ≤ 1000 := hsz
      have hmem : t ∈ ts := List.mem_of_getElem? HTS.out
      have hof := HOF.out k hk
      have hbh : b < hi := HH.out b (.inl rfl)
      have HLh : Hid (∀ b, blk t.L = some b → b < hi) := Lib.hid (fun b hb => HH.out b (.inr ⟨_, List.mem_flatMap.2 ⟨t, hmem, List.mem_cons_self⟩, hb⟩))
      have HNX := Lib.hid (offP_next HTS.out)
      have HMN := Lib.hid (markPa_next (p := p) HTS.out)
      clear htk hsz hmem
      have i1 : (0 : Int) ≤ (k : Int) := by omega
      have i2 : (k : Int) < (n : Int) := by omega
      have f0 := hfz (off + k * 3)
      have f1 := hfz (off + k * 3 + 1)
      obtain ⟨P0, hP0⟩ : ∃ P0 : Int, P0 = p + (offP ts k : Int) := ⟨_, rfl⟩
      have hO1 := hO.setq HT.out P0
      have hT1 : (((markPa p ts k).set k { t with q := P0 })[k]? = some { t with q := P0 }) := by rw [List.getElem?_set_self (by rw [markPa_len]; exact hkl)]
      have hO1' := hO1.setp hT1 (P0 + 1)
      obtain ⟨w1, hw1⟩ : ∃ w1, w1 = (wr.setCell ⟨b, off + k * 3, none⟩ (.int .i64 P0)).setCell ⟨b, off + k * 3 + 1, none⟩ (.int .i64 (P0 + 1)) := ⟨_, rfl⟩
      rw [List.set_set, ← hw1] at hO1'
      have ht1 : Tch lo hi w w1 := by rw [hw1]; exact (ht.setCell (p := ⟨b, off + k * 3, none⟩) hlob hbh _).setCell (p := ⟨b, off + k * 3 + 1, none⟩) hlob hbh _
      obtain ⟨cur, hcur⟩ : ∃ cur, Blk wr b 58 cur := by
        rcases hO.spine.2 with ⟨h, _⟩ | ⟨b2, o2, cur, h, _, hg, _⟩
        · cases h
        · simp only [Option.some.injEq, Addr.mk.injEq, and_true] at h
          obtain ⟨rfl, rfl⟩ := h
          exact ⟨cur, hg⟩
      have oL1 : Own w1 lo 2 1 t.L t.xs.length t.a (ints t.xs) := by rw [hw1]; exact (oL.far (p := ⟨b, off + k * 3, none⟩) (hcur.apt oL (by decide)) _).far (p := ⟨b, off + k * 3 + 1, none⟩) (hcur.apt oL (by decide)) _
      have e21 : w1.cell? ⟨b, off + k * 3 + 2, none⟩ = some (.slice t.L t.xs.length t.a) := by rw [hw1, World.cell?_setCell_other _ _ _ _ (by simp), World.cell?_setCell_other _ _ _ _ (by simp)]; exact e2
      have HT1 : Hid (((markPa p ts k).set k { t with q := P0, p := P0 + 1 })[k]? = some { t with q := P0, p := P0 + 1 }) := Lib.hid (by rw [List.getElem?_set_self (by rw [markPa_len]; exact hkl)])
      have HW1 := Lib.hid hw1
      have HP0 := Lib.hid hP0
      have p0a : 0 ≤ P0 := by omega
      have p0b : P0 ≤ 1002000000 := by omega
      clear hO1 hT1 hw1 hfz
      rw [← HP0.out]
      clear hP0
      go_upto_region 7 with fail
      rw [← HW1.out]
      clear hcur f0 f1 e0 e1 e2 oL ht hO hlob HW1
      go_wp2_with fail
      refine (markI_oP _ _ _ t.xs _ _ lo hi oL1 HLh.out (by omega) (by omega)).mono ?_
      rintro e w2 ⟨rfl, oL2, t2, s2⟩
      have hO2 := hO1'.setL HT1.out (xs := marks (P0 + 1 + 1) t.xs.length) (length_marks _ _) oL2 s2
      have hO4 : OPs w2 lo (some ⟨b, off, none⟩) n c (markPa p ts (k + 1)) := by
        rw [← HMN.out]
        rw [List.set_set] at hO2
        rw [← HP0.out]
        have e2 : P0 + 1 + 1 = P0 + 2 := by omega
        rw [e2] at hO2
        exact hO2
      have ht3 := ht1.trans t2
      have hsz : P0 + 1 + 1 + (t.xs.length : Int) = p + (offP ts (k + 1) : Int) := by rw [HNX.out, HP0.out]; unfold Pm.size; omega
      have HSZ := Lib.hid hsz
      clear hsz s2 t2 ht1 oL1 hO1' e21
      go_wp2_with fail
      go_roundw
      case rel => exact ⟨k + 1, by omega, by go_num, by rw [HSZ.out], hO4, ht3⟩
      case measure => simp [intOf]; omega
    · have hkn : k = n := by omega
      subst hkn
      go_wp2_with fail
      go_ret
      exact ⟨rfl, hO, ht⟩

theorem heldF_mP {p : Int} {n : Nat} {xs : List Int} (h : xs = marks p n) : heldF p xs = p + n := by subst h; exact heldF_marks p n
set_option maxHeartbeats 8000000 in
theorem heldPartialS_c (A : Option Addr) (n c lo : Nat) (ts : List Pm) (p : Int) (w : World) (hA : OPs w lo A n c (markPa p ts n)) (hl : ts.length = n) (hs : ∀ x ∈ pas ts, x.cs.length ≤ 1000) (hn : n ≤ 1000) (g0 : 0 ≤ p) (g1 : p ≤ 1000000000) :
    Calls Tryd.prog 37 #[.slice A n c, .int .i64 p] w fun e w' => e = .returned (.int .i64 (p + (offP ts n : Int))) ∧ Below w.heap.size w w' := by
  have HSS := Lib.hid hs
  have HL := Lib.hid hl
  have HOF : Hid (∀ k, k ≤ n → offP ts k ≤ 1002000) := Lib.hid (fun k hk => by
    have := offP_le ts 1002 (fun t ht => by have := HSS.out t.pa (List.mem_map.2 ⟨t, ht, rfl⟩); show 2 + t.xs.length ≤ 1002; have h1 : t.xs.length ≤ 1000 := this; omega) k
    rw [HL.out] at this
    omega)
  clear hs hl
  go_enter Tryd.func37, Tryd.ntmps37
  go_wp2_with fail
  go_loop [1, 5] (fun q i => ∃ k : Nat, k ≤ n ∧ i = .int .i64 (k : Int) ∧ q = .int .i64 (p + (offP ts k : Int))) (fun _ i => n - (intOf i).toNat)
  case atStart => exact ⟨0, Nat.zero_le _, rfl, by simp [offP_zero]⟩
  case round =>
    obtain ⟨k, hk, rfl, rfl⟩ := hrel
    by_cases hlt : k < n
    · obtain ⟨u, b, off, HU, rfl, hbl, hlob, e0, e1, e2, oL, _⟩ := hA.pick hlt
      have hkl : k < ts.length := by rw [HL.out]; exact hlt
      obtain ⟨t, hT⟩ : ∃ t, ts[k]? = some t := ⟨ts[k], List.getElem?_eq_getElem hkl⟩
      have hu : u = t.mark (p + (offP ts k : Int)) := by
        have h1 := markPa_get (p := p) (k := n) hT
        rw [HU.out, if_pos hlt] at h1
        simpa using h1
      have hsz := HSS.out t.pa (List.mem_map.2 ⟨t, List.mem_of_getElem? hT, rfl⟩)
      have hx : t.xs.length ≤ 1000 := hsz
      have hof := HOF.out k hk
      have HNX := Lib.hid (offP_next hT)
      subst hu
      obtain ⟨P0, hP0⟩ : ∃ P0 : Int, P0 = p + (offP ts k : Int) := ⟨_, rfl⟩
      rw [← hP0] at e0 e1 e2 oL
      have oL' : Own w lo 2 1 t.L t.xs.length t.a (ints (marks (P0 + 1 + 1) t.xs.length)) := by
        have h1 : P0 + 1 + 1 = P0 + 2 := by omega
        rw [h1]; simpa [Pm.mark, length_marks] using oL
      have q0 : w.cell? ⟨b, off + k * 3, none⟩ = some (.int .i64 P0) := e0
      have q1 : w.cell? ⟨b, off + k * 3 + 1, none⟩ = some (.int .i64 (P0 + 1)) := e1
      have q2 : w.cell? ⟨b, off + k * 3 + 2, none⟩ = some (.slice t.L t.xs.length t.a) := by simpa [Pm.mark, length_marks] using e2
      have i1 : (0 : Int) ≤ (k : Int) := by omega
      have i2 : (k : Int) < (n : Int) := by omega
      have p0a : 0 ≤ P0 := by omega
      have p0b : P0 ≤ 1002000000 := by omega
      have gn1 : ¬ (P0 + 1 + 1 + (t.xs.length : Int) < 0) := by omega
      have hsz2 : P0 + 1 + 1 + (t.xs.length : Int) = p + (offP ts (k + 1) : Int) := by rw [HNX.out, hP0]; unfold Pm.size; omega
      have HSZ := Lib.hid hsz2
      have HP0 := Lib.hid hP0
      clear e0 e1 e2 oL hsz hsz2 HU hT
      rw [← hP0]
      clear hP0
      go_wp2_with fail
      refine (heldI _ _ _ (marks (P0 + 1 + 1) t.xs.length) _ _ oL'.rd (by omega) (by omega)).mono ?_
      rintro e w' ⟨rfl, rfl⟩
      rw [heldF_marks]
      go_wp2_with fail
      go_round
      case rel => exact ⟨k + 1, by omega, by go_num, by rw [HSZ.out]⟩
      case measure => simp [intOf]; omega
    · have hkn : k = n := by omega
      subst hkn
      go_wp2_with fail
      go_ret
      exact ⟨rfl, Below.refl _ _⟩

theorem OPs.mkf_far {T : List TypeId} {w w' : World} {l hh lo n c : Nat} {A : Option Addr} {ts : List Pm} (h : OPs w lo A n c ts) (hf : MkF T l hh w w') (hd : ∀ b, lo ≤ b → b < l ∨ hh ≤ b) : OPs w' lo A n c ts :=
  Recs.keptB h (fun b hb => hf.far (Recs.blk_ge h b hb).2 (hd b (Recs.blk_ge h b hb).1))
theorem OPs.mkf_below {T : List TypeId} {w0 w w' : World} {l hh lo n c : Nat} {A : Option Addr} {ts : List Pm} (h0 : OPs w0 lo A n c ts) (hl : w0.heap.size ≤ l) (h : OPs w lo A n c ts) (hf : MkF T l hh w w') : OPs w' lo A n c ts :=
  Recs.keptB h (fun b hb => hf.far (Recs.blk_ge h b hb).2 (.inl (by have := (Recs.blk_ge h0 b hb).2; omega)))
theorem OPs.touch_below {w0 w w' : World} {l hh lo n c : Nat} {A : Option Addr} {ts : List Pm} (h0 : OPs w0 lo A n c ts) (hl : w0.heap.size ≤ l) (h : OPs w lo A n c ts) (ht : Tch l hh w w') : OPs w' lo A n c ts :=
  Recs.keptB h (fun b hb => ht.block b (Recs.blk_ge h b hb).2 (.inl (by have := (Recs.blk_ge h0 b hb).2; omega)))
theorem confsP_len {ts : List Pm} {M : List Pa} (h : pas ts = M) : ts.length = M.length := by rw [← h]; simp [pas]
end Go.Proofs.YtokglpdlhacnaaaDoor

/-
  What the size helper over [][]int64 comes to, in one form; totals of rows.
-/
namespace Go.Proofs.YtokglpdlhacnaaaDoor
open Go.RowKit
theorem szRows_tot : ∀ (rows : List Nat) (left : Int), 0 ≤ left → -1 ≤ szRows left rows ∧ szRows left rows ≤ left ∧ (0 ≤ szRows left rows → szRows left rows = left - rows.sum)
  | [], left, h => by simp [szRows]; omega
  | n :: r, left, h => by
    rw [szRows]
    split
    · omega
    · rename_i hn
      have h2 := szRows_tot r (left - n) (by omega)
      simp only [List.sum_cons]
      omega
theorem row_total {ts : List Sl} {t : Sl} (h : t ∈ ts) : t.xs.length ≤ total ts := by
  unfold total
  obtain ⟨a, b, rfl⟩ := List.append_of_mem h
  simp; omega
theorem total_of_nums (ts : List Sl) : total ts = ((nums ts).map List.length).sum := by simp [total, nums, Function.comp_def]
theorem total_same {ts us : List Sl} (h : nums us = nums ts) : total us = total ts := by rw [total_of_nums, total_of_nums, h]
theorem rows_le {ts us : List Sl} (h : nums us = nums ts) {b : Nat} (hb : ∀ t ∈ ts, t.xs.length ≤ b) : ∀ u ∈ us, u.xs.length ≤ b := by
  intro u hu
  have h1 : u.xs ∈ nums us := List.mem_map.2 ⟨u, hu, rfl⟩
  rw [h] at h1
  obtain ⟨t, ht, e⟩ := List.mem_map.1 h1
  rw [← e]; exact hb t ht
end Go.Proofs.YtokglpdlhacnaaaDoor

/-
  Marks that are read again, for [][]int64; owned rows behind other marks.
-/
namespace Go.Proofs.YtokglpdlhacnaaaDoor
open Go.RowKit

theorem OII.blk_ge {w : World} {lo : Nat} {e2 e1 : TypeId} {A : Option Addr} {n c : Nat} {ts : List Sl} (h : OII w lo e2 e1 A n c ts) : ∀ b, blk A = some b → lo ≤ b := h.1.blk_ge
theorem OII.mono {w : World} {lo lo' : Nat} {e2 e1 : TypeId} {A : Option Addr} {n c : Nat} {ts : List Sl} (h : OII w lo e2 e1 A n c ts) (hl : lo' ≤ lo) : OII w lo' e2 e1 A n c ts := ⟨h.1.mono hl, fun t ht => (h.2.1 t ht).mono hl, h.2.2⟩
theorem OII.alloc {w : World} {lo : Nat} {e2 e1 : TypeId} {A : Option Addr} {n c : Nat} {ts : List Sl} (h : OII w lo e2 e1 A n c ts) (o : Obj) : OII (w.alloc o) lo e2 e1 A n c ts := ⟨h.1.alloc o, fun t ht => (h.2.1 t ht).alloc o, h.2.2⟩
theorem OII.mkf_far {T : List TypeId} {w w' : World} {l hh lo : Nat} {e2 e1 : TypeId} {A : Option Addr} {n c : Nat} {ts : List Sl} (h : OII w lo e2 e1 A n c ts) (hf : MkF T l hh w w') (hd : ∀ b, lo ≤ b → b < l ∨ hh ≤ b) : OII w' lo e2 e1 A n c ts :=
  ⟨h.1.mkf_far hf (fun b hb => hd b (h.1.blk_ge b hb)), fun t ht => (h.2.1 t ht).mkf_far hf (fun b hb => hd b ((h.2.1 t ht).blk_ge b hb)), h.2.2⟩
theorem OII.mkf_below {T : List TypeId} {w0 w w' : World} {l hh lo : Nat} {e2 e1 : TypeId} {A : Option Addr} {n c : Nat} {ts : List Sl} (h0 : OII w0 lo e2 e1 A n c ts) (hl : w0.heap.size ≤ l) (h : OII w lo e2 e1 A n c ts) (hf : MkF T l hh w w') : OII w' lo e2 e1 A n c ts :=
  ⟨h.1.mkf_far hf (fun b hb => .inl (by have := h0.1.blk_lt b hb; omega)), fun t ht => (h.2.1 t ht).mkf_far hf (fun b hb => .inl (by have := (h0.2.1 t ht).blk_lt b hb; omega)), h.2.2⟩
theorem OII.touch_below {w0 w w' : World} {l hh lo : Nat} {e2 e1 : TypeId} {A : Option Addr} {n c : Nat} {ts : List Sl} (h0 : OII w0 lo e2 e1 A n c ts) (hl : w0.heap.size ≤ l) (h : OII w lo e2 e1 A n c ts) (ht : Tch l hh w w') : OII w' lo e2 e1 A n c ts :=
  ⟨h.1.touch ht (fun b hb => .inl (by have := h0.1.blk_lt b hb; omega)), fun t htm => (h.2.1 t htm).touch ht (fun b hb => .inl (by have := (h0.2.1 t htm).blk_lt b hb; omega)), h.2.2⟩

def offs (us : List Sl) (k : Nat) : Nat := total (us.take k)
theorem offs_zero (us : List Sl) : offs us 0 = 0 := by simp [offs, total]
theorem offs_next {us : List Sl} {t : Sl} {k : Nat} (hT : us[k]? = some t) : offs us (k + 1) = offs us k + t.xs.length := total_take hT
theorem offs_le (us : List Sl) (k : Nat) : offs us k ≤ total us := total_take_le us k
theorem offs_end {us : List Sl} {k : Nat} (h : us.length ≤ k) : offs us k = total us := by unfold offs; rw [List.take_of_length_le h]
/-- The rows hold marks that run on from row to row. -/
def MarkedII (w : World) (A : Option Addr) (n : Nat) (us : List Sl) (p : Int) : Prop := Rd w 1 A n (us.map Sl.val) ∧ ∀ k t, us[k]? = some t → SI w t.A t.xs.length (marks (p + offs us k) t.xs.length)
theorem MarkedII.below {w w' : World} {A : Option Addr} {n : Nat} {us : List Sl} {p : Int} (h : MarkedII w A n us p) (z : Below w.heap.size w w') : MarkedII w' A n us p := ⟨h.1.below z, fun k t ht => (h.2 k t ht).below z⟩
def MarkII (w : World) (lo hi : Nat) (A : Option Addr) (n : Nat) (us : List Sl) (p : Int) (e : Ending) (w' : World) : Prop := e = .returned (.int .i64 (p + total us)) ∧ MarkedII w' A n us p ∧ Tch lo hi w w'
/-- What holds behind the first k rows. -/
def MarkTo (w : World) (lo hi : Nat) (A : Option Addr) (n c : Nat) (us : List Sl) (p : Int) (k : Nat) (wr : World) : Prop :=
  Own wr lo 23 1 A n c (us.map Sl.val) ∧ (∀ j t, us[j]? = some t → j < k → SI wr t.A t.xs.length (marks (p + offs us j) t.xs.length)) ∧ (∀ j t, us[j]? = some t → k ≤ j → Own wr lo 2 1 t.A t.xs.length t.c (ints t.xs)) ∧ Tch lo hi w wr
theorem apt_of {us : List Sl} (h : us.Pairwise Apt) {i j : Nat} {t u : Sl} (hi : us[i]? = some t) (hj : us[j]? = some u) (hne : i ≠ j) : ∀ b, blk t.A = some b → blk u.A ≠ some b := by
  obtain ⟨hi1, rfl⟩ := List.getElem?_eq_some_iff.1 hi
  obtain ⟨hj1, rfl⟩ := List.getElem?_eq_some_iff.1 hj
  rw [List.pairwise_iff_getElem] at h
  rcases Nat.lt_or_gt_of_ne hne with hlt | hlt
  · exact h i j hi1 hj1 hlt
  · intro b h1 h2
    exact h j i hj1 hi1 hlt b h2 h1
theorem MarkTo.step {w wr w' : World} {lo hi : Nat} {A : Option Addr} {n c : Nat} {us : List Sl} {p : Int} {k : Nat} {t : Sl} (h : MarkTo w lo hi A n c us p k wr) (hap : us.Pairwise Apt) (hT : us[k]? = some t) (hne : 2 ≠ 23) (ho : OwnE w' lo 2 t.A t.xs.length t.c (marks (p + offs us k) t.xs.length)) (ht : Tch lo hi wr w') (hs : ∀ b, blk t.A ≠ some b → w'.heap[b]? = wr.heap[b]?) : MarkTo w lo hi A n c us p (k + 1) w' := by
  obtain ⟨h1, h2, h3, h4⟩ := h
  have hrow := h3 k t hT (Nat.le_refl _)
  refine ⟨h1.kept fun b hb _ _ => hs b (fun e => hrow.blk_ne h1 hne b e hb), ?_, ?_, h4.trans ht⟩
  · intro j u hu hj
    by_cases e : j = k
    · subst e
      rw [hT] at hu
      cases hu
      exact ho.si
    · refine Rd.keep (h2 j u hu (by omega)) fun q hq hbq => ?_
      exact World.cell?_of_block (hs q.block (fun e2 => apt_of hap hT hu (Ne.symm e) q.block e2 hbq.symm))
  · intro j u hu hj
    exact (h3 j u hu (by omega)).kept fun b hb _ _ => hs b (fun e2 => apt_of hap hT hu (by omega) b e2 hb)

theorem total_of {us : List Sl} {M : List (List Int)} {b : Nat} (h : nums us = M) (hl : (M.map List.length).sum ≤ b) : total us ≤ b := by rw [total_of_nums, h]; exact hl
end Go.Proofs.YtokglpdlhacnaaaDoor

/-
  The walk of the law FnExactAncestorsOf: it returns true, and nothing that was there before has turned.
-/
namespace Go.Proofs.YtokglpdlhacnaaaDoor
open Go.RowKit

set_option maxRecDepth 100000 in
set_option maxHeartbeats 16000000 in
theorem lawAncestorsOf (sy0 st0 : Int) (A0 : Option Addr) (n0 k0 : Nat) (rs0 : List R3) (d1_0 : Int) (d1_1 : Int) (A1_0 : Option Addr) (n1_0 c1_0 : Nat) (x1_0 : List Int) (b2 : Int) (w : World) (hr0 : S3 w A0 n0 rs0) (h1_0 : SI w A1_0 n1_0 x1_0)  (hb0 : n0 ≤ 9223372036854775807) (hb1_0 : n1_0 ≤ 9223372036854775807)  (ht : Tab w) :
    Calls Tryd.prog 7 #[.agg #[.int .i64 sy0, .int .i64 st0, .slice A0 n0 k0], .agg #[.int .i64 d1_0, .int .i64 d1_1, .slice A1_0 n1_0 c1_0], .int .i64 b2] w fun e w' => e = .returned (.bool true) ∧ Below w.heap.size w w' := by
  obtain ⟨W0, hW0⟩ : ∃ W, W = (w.alloc (.cells #[.int .i64 sy0, .int .i64 st0, .slice A0 n0 k0] 37)).alloc (.cells #[.int .i64 d1_0, .int .i64 d1_1, .slice A1_0 n1_0 c1_0] 53) := ⟨_, rfl⟩
  have s1 : (w.alloc (.cells #[.int .i64 sy0, .int .i64 st0, .slice A0 n0 k0] 37)).heap.size = w.heap.size + 1 := by simp
  have bb0 : Blk W0 w.heap.size 37 #[.int .i64 sy0, .int .i64 st0, .slice A0 n0 k0] := by rw [hW0]; exact (Blk.new w _ _).alloc _
  have bb1 : Blk W0 (w.heap.size + 1) 53 #[.int .i64 d1_0, .int .i64 d1_1, .slice A1_0 n1_0 c1_0] := by rw [hW0, ← s1]; exact Blk.new _ _ _
  have z0 : Below w.heap.size w W0 := by rw [hW0]; exact ((Below.refl _ _).alloc (Nat.le_refl _) _).alloc (by simp) _
  have HW0 := Lib.hid hW0
  clear hW0 s1
  go_enter Tryd.func7, Tryd.ntmps7
  go_wp2_with fail
  rw [← HW0.out]
  refine (szMachine_any _ _ _ _ _ _ _ hb0 (by omega) (by omega)).mono ?_
  rintro e W1 ⟨v1, rfl, va1, vb1, vc1, z1⟩
  have VC1 := Lib.hid vc1
  clear vc1
  have yw_W1 : Below w.heap.size w W1 := z0.trans (z1.mono z0.size)
  have uc2 : W1.cell? ⟨(w.heap.size + 1), 0, none⟩ = some (.int .i64 d1_0) := (bb1.below' z1).cell 0
  have uc3 : W1.cell? ⟨(w.heap.size + 1), 1, none⟩ = some (.int .i64 d1_1) := (bb1.below' z1).cell 1
  have uc4 : W1.cell? ⟨(w.heap.size + 1), 2, none⟩ = some (.slice A1_0 n1_0 c1_0) := (bb1.below' z1).cell 2
  by_cases hneg1 : v1 < 0
  · go_wp2_with fail
    go_ret
    exact ⟨rfl, yw_W1⟩
  go_wp2_with fail
  refine (szPartial_any _ _ _ _ _ _ _ hb1_0 (by omega) (by omega)).mono ?_
  rintro e W5 ⟨v5, rfl, va5, vb5, vc5, z5⟩
  have VC5 := Lib.hid vc5
  clear vc5
  clear uc2 uc3 uc4
  have yw_W5 : Below w.heap.size w W5 := yw_W1.trans (z5.mono yw_W1.size)
  by_cases hneg5 : v5 < 0
  · go_wp2_with fail
    go_ret
    exact ⟨rfl, yw_W5⟩
  have hsm : n0 ≤ 1048576 ∧ n1_0 ≤ 1048576 := by
    have t1 := VC1.out (by omega)
    have t5 := VC5.out (by omega)
    omega
  obtain ⟨p0, p1_0⟩ := hsm
  clear VC1
  clear VC5
  have yW0_W5 : Below W0.heap.size W0 W5 := z1.trans (z5.mono z1.size)
  have uc6 : W5.cell? ⟨w.heap.size, 0, none⟩ = some (.int .i64 sy0) := (bb0.below' yW0_W5).cell 0
  have uc7 : W5.cell? ⟨w.heap.size, 1, none⟩ = some (.int .i64 st0) := (bb0.below' yW0_W5).cell 1
  have uc8 : W5.cell? ⟨w.heap.size, 2, none⟩ = some (.slice A0 n0 k0) := (bb0.below' yW0_W5).cell 2
  have uc9 : W5.cell? ⟨(w.heap.size + 1), 0, none⟩ = some (.int .i64 d1_0) := (bb1.below' yW0_W5).cell 0
  have uc10 : W5.cell? ⟨(w.heap.size + 1), 1, none⟩ = some (.int .i64 d1_1) := (bb1.below' yW0_W5).cell 1
  have uc11 : W5.cell? ⟨(w.heap.size + 1), 2, none⟩ = some (.slice A1_0 n1_0 c1_0) := (bb1.below' yW0_W5).cell 2
  obtain ⟨res, hres⟩ : ∃ res, res = ancR sy0 st0 rs0 ⟨d1_0, d1_1, x1_0⟩ b2 := ⟨_, rfl⟩
  have HRES := Lib.hid hres
  clear hres
  go_wp2_with fail
  go_region_held3 (fun w' => w'.cell? ⟨w.heap.size, 0, none⟩ = some (.int .i64 sy0) ∧ w'.cell? ⟨w.heap.size, 1, none⟩ = some (.int .i64 st0) ∧ w'.cell? ⟨w.heap.size, 2, none⟩ = some (.slice A0 n0 k0) ∧ w'.cell? ⟨(w.heap.size + 1), 0, none⟩ = some (.int .i64 d1_0) ∧ w'.cell? ⟨(w.heap.size + 1), 1, none⟩ = some (.int .i64 d1_1) ∧ w'.cell? ⟨(w.heap.size + 1), 2, none⟩ = some (.slice A1_0 n1_0 c1_0))
    (first
      | (go_keep; done)
      | (exact ⟨((bb0.below' yW0_W5).below' zz14).cell 0, ((bb0.below' yW0_W5).below' zz14).cell 1, ((bb0.below' yW0_W5).below' zz14).cell 2, ((bb1.below' yW0_W5).below' zz14).cell 0, ((bb1.below' yW0_W5).below' zz14).cell 1, ((bb1.below' yW0_W5).below' zz14).cell 2⟩)
      | (exact ⟨((bb0.below' yW0_W5).below' zz13).cell 0, ((bb0.below' yW0_W5).below' zz13).cell 1, ((bb0.below' yW0_W5).below' zz13).cell 2, ((bb1.below' yW0_W5).below' zz13).cell 0, ((bb1.below' yW0_W5).below' zz13).cell 1, ((bb1.below' yW0_W5).below' zz13).cell 2⟩)
      | (exact ⟨((bb0.below' yW0_W5).below' zz12).cell 0, ((bb0.below' yW0_W5).below' zz12).cell 1, ((bb0.below' yW0_W5).below' zz12).cell 2, ((bb1.below' yW0_W5).below' zz12).cell 0, ((bb1.below' yW0_W5).below' zz12).cell 1, ((bb1.below' yW0_W5).below' zz12).cell 2⟩))
    (first
      | (go_at_call 21; refine (toMachine_any _ _ _ _ _ rs0 _ ((hr0.below yw_W5).drewN 1) p0).mono ?_; rintro e W12 ⟨B12, rfl, o12, z12⟩; have zz12 : Below W5.heap.size W5 W12 := below_undrew z12)
      | (go_at_call 31; refine (toPartial_any _ _ _ _ _ x1_0 _ ((h1_0.below yw_W5).below zz12) p1_0).mono ?_; rintro e W13 ⟨B13_0, rfl, o13_0, z13⟩; have zz13 : Below W5.heap.size W5 W13 := zz12.trans (z13.mono zz12.size))
      | (go_at_call 30; (with_reducible refine (ancestorsS_r _ _ _ _ _ rs0 _ _ _ _ _ x1_0 _ _ (o12.below z13).as3 o13_0.asI p0 p1_0).mono ?_); rw [← HRES.out]; rintro e W14 ⟨A14r, c14r, us14r, rfl, oR14, hn14r, z14⟩; have zz14 : Below W5.heap.size W5 W14 := zz13.trans (z14.mono zz13.size)))
  clear uc6 uc7 uc8 uc9 uc10 uc11
  have HN14r := Lib.hid hn14r
  clear hn14r
  have hlen : res.1.length ≤ 1000 ∧ ∀ x ∈ res.1, x.cs.length ≤ 1000 := by rw [HRES.out]; exact ⟨ancR_len sy0 st0 rs0 ⟨d1_0, d1_1, x1_0⟩ b2, ancR_side sy0 st0 rs0 ⟨d1_0, d1_1, x1_0⟩ b2⟩
  obtain ⟨lx0, lx1⟩ := hlen
  have LXS := Lib.hid lx1
  clear lx1
  have yW0_W14 : Below W0.heap.size W0 W14 := yW0_W5.trans (zz14.mono yW0_W5.size)
  have uc15 : W14.cell? ⟨w.heap.size, 0, none⟩ = some (.int .i64 sy0) := (bb0.below' yW0_W14).cell 0
  have uc16 : W14.cell? ⟨w.heap.size, 1, none⟩ = some (.int .i64 st0) := (bb0.below' yW0_W14).cell 1
  have uc17 : W14.cell? ⟨w.heap.size, 2, none⟩ = some (.slice A0 n0 k0) := (bb0.below' yW0_W14).cell 2
  go_wp2_with fail
  have yw_W14 : Below w.heap.size w W14 := yw_W5.trans (zz14.mono yw_W5.size)
  refine (toMachine_any _ _ _ _ _ rs0 _ (hr0.below yw_W14) p0).mono ?_
  rintro e W18 ⟨B18, rfl, o18, z18⟩
  clear uc15 uc16 uc17
  obtain ⟨W19, hW19⟩ : ∃ W, W = W18.alloc (.cells #[.int .i64 sy0, .int .i64 st0, .slice B18 n0 n0] 43) := ⟨_, rfl⟩
  have cb0 : Blk W19 W18.heap.size 43 #[.int .i64 sy0, .int .i64 st0, .slice B18 n0 n0] := by rw [hW19]; exact Blk.new W18 _ _
  have z19 : Below W18.heap.size W18 W19 := by rw [hW19]; exact (Below.refl _ _).alloc (Nat.le_refl _) _
  have HW19 := Lib.hid hW19
  clear hW19
  have yW0_W18 : Below W0.heap.size W0 W18 := yW0_W14.trans (z18.mono yW0_W14.size)
  have yW0_W19 : Below W0.heap.size W0 W19 := yW0_W18.trans (z19.mono yW0_W18.size)
  have uc20 : W19.cell? ⟨(w.heap.size + 1), 0, none⟩ = some (.int .i64 d1_0) := (bb1.below' yW0_W19).cell 0
  have uc21 : W19.cell? ⟨(w.heap.size + 1), 1, none⟩ = some (.int .i64 d1_1) := (bb1.below' yW0_W19).cell 1
  have uc22 : W19.cell? ⟨(w.heap.size + 1), 2, none⟩ = some (.slice A1_0 n1_0 c1_0) := (bb1.below' yW0_W19).cell 2
  go_upto_region 10 with fail
  rw [← HW19.out]
  go_wp2_with fail
  have yw_W18 : Below w.heap.size w W18 := yw_W14.trans (z18.mono yw_W14.size)
  have yw_W19 : Below w.heap.size w W19 := yw_W18.trans (z19.mono yw_W18.size)
  refine (toPartial_any _ _ _ _ _ x1_0 _ (h1_0.below yw_W19) p1_0).mono ?_
  rintro e W23 ⟨B23_0, rfl, o23_0, z23⟩
  clear uc20 uc21 uc22
  obtain ⟨W24, hW24⟩ : ∃ W, W = W23.alloc (.cells #[.int .i64 d1_0, .int .i64 d1_1, .slice B23_0 n1_0 n1_0] 58) := ⟨_, rfl⟩
  have cb1 : Blk W24 W23.heap.size 58 #[.int .i64 d1_0, .int .i64 d1_1, .slice B23_0 n1_0 n1_0] := by rw [hW24]; exact Blk.new W23 _ _
  have z24 : Below W23.heap.size W23 W24 := by rw [hW24]; exact (Below.refl _ _).alloc (Nat.le_refl _) _
  have HW24 := Lib.hid hW24
  clear hW24
  have yW19_W24 : Below W19.heap.size W19 W24 := z23.trans (z24.mono z23.size)
  have uc25 : W24.cell? ⟨W18.heap.size, 0, none⟩ = some (.int .i64 sy0) := (cb0.below' yW19_W24).cell 0
  have uc26 : W24.cell? ⟨W18.heap.size, 1, none⟩ = some (.int .i64 st0) := (cb0.below' yW19_W24).cell 1
  have uc27 : W24.cell? ⟨W18.heap.size, 2, none⟩ = some (.slice B18 n0 n0) := (cb0.below' yW19_W24).cell 2
  have uc28 : W24.cell? ⟨W23.heap.size, 0, none⟩ = some (.int .i64 d1_0) := cb1.cell 0
  have uc29 : W24.cell? ⟨W23.heap.size, 1, none⟩ = some (.int .i64 d1_1) := cb1.cell 1
  have uc30 : W24.cell? ⟨W23.heap.size, 2, none⟩ = some (.slice B23_0 n1_0 n1_0) := cb1.cell 2
  go_upto_region 11 with fail
  rw [← HW24.out]
  go_wp2_with fail
  have yW18_W23 : Below W18.heap.size W18 W23 := z19.trans (z23.mono z19.size)
  have yW18_W24 : Below W18.heap.size W18 W24 := yW18_W23.trans (z24.mono yW18_W23.size)
  have yw_W23 : Below w.heap.size w W23 := yw_W19.trans (z23.mono yw_W19.size)
  have yw_W24 : Below w.heap.size w W24 := yw_W23.trans (z24.mono yw_W23.size)
  refine (ancestorsI_r _ _ _ _ _ rs0 _ _ _ _ _ x1_0 _ _ (o18.below yW18_W24).as3 (o23_0.below z24).asI p0 p1_0 (ht.below yw_W24)).mono ?_
  rw [← HRES.out]
  rintro e W31 ⟨A31r, c31r, us31r, rfl, oR31, hn31r, z31⟩
  clear uc25 uc26 uc27 uc28 uc29 uc30
  have HN31r := Lib.hid hn31r
  clear hn31r
  have yW14_W19 : Below W14.heap.size W14 W19 := z18.trans (z19.mono z18.size)
  have yW14_W23 : Below W14.heap.size W14 W23 := yW14_W19.trans (z23.mono yW14_W19.size)
  have yW14_W24 : Below W14.heap.size W14 W24 := yW14_W23.trans (z24.mono yW14_W23.size)
  have yW14_W31 : Below W14.heap.size W14 W31 := yW14_W24.trans (z31.mono yW14_W24.size)
  go_wp2_with fail
  refine (eqPartialS_c _ _ _ _ _ _ _ us31r us14r _ oR31 (oR14.below yW14_W31) (HN14r.out.trans HN31r.out.symm) (by rw [HN31r.out]; exact LXS.out) (by omega)).mono ?_
  rintro e W32 ⟨rfl, z32⟩
  skip
  have yW19_W31 : Below W19.heap.size W19 W31 := yW19_W24.trans (z31.mono yW19_W24.size)
  have yW19_W32 : Below W19.heap.size W19 W32 := yW19_W31.trans (z32.mono yW19_W31.size)
  have uc33 : W32.cell? ⟨W18.heap.size, 0, none⟩ = some (.int .i64 sy0) := (cb0.below' yW19_W32).cell 0
  have uc34 : W32.cell? ⟨W18.heap.size, 1, none⟩ = some (.int .i64 st0) := (cb0.below' yW19_W32).cell 1
  have uc35 : W32.cell? ⟨W18.heap.size, 2, none⟩ = some (.slice B18 n0 n0) := (cb0.below' yW19_W32).cell 2
  have yW0_W23 : Below W0.heap.size W0 W23 := yW0_W19.trans (z23.mono yW0_W19.size)
  have yW0_W24 : Below W0.heap.size W0 W24 := yW0_W23.trans (z24.mono yW0_W23.size)
  have yW0_W31 : Below W0.heap.size W0 W31 := yW0_W24.trans (z31.mono yW0_W24.size)
  have yW0_W32 : Below W0.heap.size W0 W32 := yW0_W31.trans (z32.mono yW0_W31.size)
  have uc36 : W32.cell? ⟨w.heap.size, 0, none⟩ = some (.int .i64 sy0) := (bb0.below' yW0_W32).cell 0
  have uc37 : W32.cell? ⟨w.heap.size, 1, none⟩ = some (.int .i64 st0) := (bb0.below' yW0_W32).cell 1
  have uc38 : W32.cell? ⟨w.heap.size, 2, none⟩ = some (.slice A0 n0 k0) := (bb0.below' yW0_W32).cell 2
  have yw_W31 : Below w.heap.size w W31 := yw_W24.trans (z31.mono yw_W24.size)
  have yw_W32 : Below w.heap.size w W32 := yw_W31.trans (z32.mono yw_W31.size)
  have yW18_W31 : Below W18.heap.size W18 W31 := yW18_W24.trans (z31.mono yW18_W24.size)
  have yW18_W32 : Below W18.heap.size W18 W32 := yW18_W31.trans (z32.mono yW18_W31.size)
  go_wp2_with fail
  go_region_held3 (fun w' => w'.cell? ⟨W18.heap.size, 0, none⟩ = some (.int .i64 sy0) ∧ w'.cell? ⟨W18.heap.size, 1, none⟩ = some (.int .i64 st0) ∧ w'.cell? ⟨W18.heap.size, 2, none⟩ = some (.slice B18 n0 n0) ∧ w'.cell? ⟨w.heap.size, 0, none⟩ = some (.int .i64 sy0) ∧ w'.cell? ⟨w.heap.size, 1, none⟩ = some (.int .i64 st0) ∧ w'.cell? ⟨w.heap.size, 2, none⟩ = some (.slice A0 n0 k0))
    (first
      | (go_keep; done)
      | (exact ⟨((cb0.below' yW19_W32).below' zz40).cell 0, ((cb0.below' yW19_W32).below' zz40).cell 1, ((cb0.below' yW19_W32).below' zz40).cell 2, ((bb0.below' yW0_W32).below' zz40).cell 0, ((bb0.below' yW0_W32).below' zz40).cell 1, ((bb0.below' yW0_W32).below' zz40).cell 2⟩)
      | (exact ⟨((cb0.below' yW19_W32).below' zz39).cell 0, ((cb0.below' yW19_W32).below' zz39).cell 1, ((cb0.below' yW19_W32).below' zz39).cell 2, ((bb0.below' yW0_W32).below' zz39).cell 0, ((bb0.below' yW0_W32).below' zz39).cell 1, ((bb0.below' yW0_W32).below' zz39).cell 2⟩))
    (first
      | (go_at_call 21; refine (toMachine_any _ _ _ _ _ rs0 _ ((hr0.below yw_W32).drewN 1) p0).mono ?_; rintro e W39 ⟨B39, rfl, o39, z39⟩; have zz39 : Below W32.heap.size W32 W39 := below_undrew z39)
      | (go_at_call 23; refine (eqMachine_any _ _ _ _ _ rs0 _ _ _ _ _ rs0 _ ((o18.below yW18_W32).below zz39).rd o39.rd p0).mono ?_; rintro e W40 ⟨rfl, z40⟩; have zz40 : Below W32.heap.size W32 W40 := zz39.trans (z40.mono zz39.size)))
  rw [sameMachineB_self]
  clear uc33 uc34 uc35 uc36 uc37 uc38
  clear o39 z39 zz39 z40
  have yW24_W32 : Below W24.heap.size W24 W32 := z31.trans (z32.mono z31.size)
  have yW24_W40 : Below W24.heap.size W24 W40 := yW24_W32.trans (zz40.mono yW24_W32.size)
  have uc41 : W40.cell? ⟨W23.heap.size, 0, none⟩ = some (.int .i64 d1_0) := (cb1.below' yW24_W40).cell 0
  have uc42 : W40.cell? ⟨W23.heap.size, 1, none⟩ = some (.int .i64 d1_1) := (cb1.below' yW24_W40).cell 1
  have uc43 : W40.cell? ⟨W23.heap.size, 2, none⟩ = some (.slice B23_0 n1_0 n1_0) := (cb1.below' yW24_W40).cell 2
  have yW0_W40 : Below W0.heap.size W0 W40 := yW0_W32.trans (zz40.mono yW0_W32.size)
  have uc44 : W40.cell? ⟨(w.heap.size + 1), 0, none⟩ = some (.int .i64 d1_0) := (bb1.below' yW0_W40).cell 0
  have uc45 : W40.cell? ⟨(w.heap.size + 1), 1, none⟩ = some (.int .i64 d1_1) := (bb1.below' yW0_W40).cell 1
  have uc46 : W40.cell? ⟨(w.heap.size + 1), 2, none⟩ = some (.slice A1_0 n1_0 c1_0) := (bb1.below' yW0_W40).cell 2
  have yw_W40 : Below w.heap.size w W40 := yw_W32.trans (zz40.mono yw_W32.size)
  have yW23_W31 : Below W23.heap.size W23 W31 := z24.trans (z31.mono z24.size)
  have yW23_W32 : Below W23.heap.size W23 W32 := yW23_W31.trans (z32.mono yW23_W31.size)
  have yW23_W40 : Below W23.heap.size W23 W40 := yW23_W32.trans (zz40.mono yW23_W32.size)
  go_wp2_with fail
  go_region_held3 (fun w' => w'.cell? ⟨W23.heap.size, 0, none⟩ = some (.int .i64 d1_0) ∧ w'.cell? ⟨W23.heap.size, 1, none⟩ = some (.int .i64 d1_1) ∧ w'.cell? ⟨W23.heap.size, 2, none⟩ = some (.slice B23_0 n1_0 n1_0) ∧ w'.cell? ⟨(w.heap.size + 1), 0, none⟩ = some (.int .i64 d1_0) ∧ w'.cell? ⟨(w.heap.size + 1), 1, none⟩ = some (.int .i64 d1_1) ∧ w'.cell? ⟨(w.heap.size + 1), 2, none⟩ = some (.slice A1_0 n1_0 c1_0))
    (first
      | (go_keep; done)
      | (exact ⟨((cb1.below' yW24_W40).below' zz48).cell 0, ((cb1.below' yW24_W40).below' zz48).cell 1, ((cb1.below' yW24_W40).below' zz48).cell 2, ((bb1.below' yW0_W40).below' zz48).cell 0, ((bb1.below' yW0_W40).below' zz48).cell 1, ((bb1.below' yW0_W40).below' zz48).cell 2⟩)
      | (exact ⟨((cb1.below' yW24_W40).below' zz47).cell 0, ((cb1.below' yW24_W40).below' zz47).cell 1, ((cb1.below' yW24_W40).below' zz47).cell 2, ((bb1.below' yW0_W40).below' zz47).cell 0, ((bb1.below' yW0_W40).below' zz47).cell 1, ((bb1.below' yW0_W40).below' zz47).cell 2⟩))
    (first
      | (go_at_call 31; refine (toPartial_any _ _ _ _ _ x1_0 _ ((h1_0.below yw_W40).drewN 1) p1_0).mono ?_; rintro e W47 ⟨B47_0, rfl, o47_0, z47⟩; have zz47 : Below W40.heap.size W40 W47 := below_undrew z47)
      | (go_at_call 34; refine (eqPartial_any _ _ _ _ _ x1_0 _ _ _ _ _ x1_0 _ ((o23_0.below yW23_W40).below zz47).asI o47_0.asI p1_0).mono ?_; rintro e W48 ⟨rfl, z48⟩; have zz48 : Below W40.heap.size W40 W48 := zz47.trans (z48.mono zz47.size)))
  rw [samePartialB_self]
  clear uc41 uc42 uc43 uc44 uc45 uc46
  clear o47_0 z47 zz47 z48
  have TM0 : Hid (136 ∈ [136, 2]) := Lib.hid (by decide)
  have TI0 : Hid (2 ∈ [136, 2]) := Lib.hid (by decide)
  have TN_Machine : Hid (43 ∉ [136, 2]) := Lib.hid (by decide)
  have TL_Machine : Hid (37 ∉ [136, 2]) := Lib.hid (by decide)
  have TN_Partial : Hid (58 ∉ [136, 2]) := Lib.hid (by decide)
  have TL_Partial : Hid (53 ∉ [136, 2]) := Lib.hid (by decide)
  have hs_W1 : W0.heap.size ≤ W1.heap.size := z1.size
  have hs_W5 : W1.heap.size ≤ W5.heap.size := z5.size
  have hs_W14 : W5.heap.size ≤ W14.heap.size := zz14.size
  have hs_W18 : W14.heap.size ≤ W18.heap.size := z18.size
  have hs_W19 : W18.heap.size ≤ W19.heap.size := z19.size
  have hs_W23 : W19.heap.size ≤ W23.heap.size := z23.size
  have hs_W24 : W23.heap.size ≤ W24.heap.size := z24.size
  have hs_W31 : W24.heap.size ≤ W31.heap.size := z31.size
  have hs_W32 : W31.heap.size ≤ W32.heap.size := z32.size
  have hs_W40 : W32.heap.size ≤ W40.heap.size := zz40.size
  have hs_W48 : W40.heap.size ≤ W48.heap.size := zz48.size
  have yW18_W40 : Below W18.heap.size W18 W40 := yW18_W32.trans (zz40.mono yW18_W32.size)
  have yW18_W48 : Below W18.heap.size W18 W48 := yW18_W40.trans (zz48.mono yW18_W40.size)
  have m0 : Mk W48 W14.heap.size W24.heap.size 136 3 B18 n0 := (((o18.below yW18_W48)).mono (by omega)).mk (fun b hb => by have := o18.blk_lt b hb; omega)
  have yW23_W48 : Below W23.heap.size W23 W48 := yW23_W40.trans (zz48.mono yW23_W40.size)
  have m1_0 : Mk W48 W14.heap.size W24.heap.size 2 1 B23_0 n1_0 := (((o23_0.below yW23_W48)).mono (by omega)).mk (fun b hb => by have := o23_0.blk_lt b hb; omega)
  have yW0_W48 : Below W0.heap.size W0 W48 := yW0_W40.trans (zz48.mono yW0_W40.size)
  have yW19_W40 : Below W19.heap.size W19 W40 := yW19_W32.trans (zz40.mono yW19_W32.size)
  have yW19_W48 : Below W19.heap.size W19 W48 := yW19_W40.trans (zz48.mono yW19_W40.size)
  have yW24_W48 : Below W24.heap.size W24 W48 := yW24_W40.trans (zz48.mono yW24_W40.size)
  have yw_W48 : Below w.heap.size w W48 := yw_W40.trans (zz48.mono yw_W40.size)
  have yW31_W40 : Below W31.heap.size W31 W40 := z32.trans (zz40.mono z32.size)
  have yW31_W48 : Below W31.heap.size W31 W48 := yW31_W40.trans (zz48.mono yW31_W40.size)
  have yW14_W32 : Below W14.heap.size W14 W32 := yW14_W31.trans (z32.mono yW14_W31.size)
  have yW14_W40 : Below W14.heap.size W14 W40 := yW14_W32.trans (zz40.mono yW14_W32.size)
  have yW14_W48 : Below W14.heap.size W14 W48 := yW14_W40.trans (zz48.mono yW14_W40.size)
  have io0 := (oR31.below yW31_W48)
  have so0 := (oR14.below yW14_W48)
  have bm0 := (bb0.below' yW0_W48)
  have cm0 := (cb0.below' yW19_W48)
  have bm1 := (bb1.below' yW0_W48)
  have cm1 := (cb1.below' yW24_W48)
  have cq0 := cm0
  have uc49 : W48.cell? ⟨W18.heap.size, 0, none⟩ = some (.int .i64 sy0) := cq0.cell 0
  have uc50 : W48.cell? ⟨W18.heap.size, 1, none⟩ = some (.int .i64 st0) := cq0.cell 1
  have uc51 : W48.cell? ⟨W18.heap.size, 2, none⟩ = some (.slice B18 n0 n0) := cq0.cell 2
  go_wp2_with fail
  refine (markMachine_m [136, 2] _ _ _ _ _ _ _ W14.heap.size W24.heap.size m0 p0 TM0.out TN_Machine.out (by omega) (by omega)).mono ?_
  rintro e W52 ⟨rfl, f52⟩
  clear uc49 uc50 uc51
  have cq1 := cm1.mkf f52 TN_Partial.out
  have uc53 : W52.cell? ⟨W23.heap.size, 0, none⟩ = some (.int .i64 d1_0) := cq1.cell 0
  have uc54 : W52.cell? ⟨W23.heap.size, 1, none⟩ = some (.int .i64 d1_1) := cq1.cell 1
  have uc55 : W52.cell? ⟨W23.heap.size, 2, none⟩ = some (.slice B23_0 n1_0 n1_0) := cq1.cell 2
  go_wp2_with fail
  refine (markPartial_m [136, 2] _ _ _ _ _ _ _ W14.heap.size W24.heap.size (m1_0.mkf f52) p1_0 TI0.out TN_Partial.out (by omega) (by omega)).mono ?_
  rintro e W56 ⟨rfl, f56⟩
  clear uc53 uc54 uc55
  have ff56 := f52.trans f56
  have io0 := io0.mkf_far ff56 (fun b hb => .inr hb)
  have so0 := OPs.mkf_below oR14 (Nat.le_refl _) so0 ff56
  have bm0 := bm0.mkf ff56 TL_Machine.out
  have bm1 := bm1.mkf ff56 TL_Partial.out
  have yM : Below w.heap.size w W56 := yw_W48.trans (ff56.below yw_W14.size yw_W48.size)
  have hs_W56 : W48.heap.size ≤ W56.heap.size := ff56.size
  clear ff56
  have gneg : ¬ ((1 : Int) + ((n0 * 3 : Nat) : Int) + ((n1_0 : Nat) : Int) < 0) := by omega
  go_wp2_with fail
  refine (eqPartialS_c _ _ _ _ _ _ _ us31r us14r _ io0 so0 (HN14r.out.trans HN31r.out.symm) (by rw [HN31r.out]; exact LXS.out) (by omega)).mono ?_
  rintro e W57 ⟨rfl, z57⟩
  skip
  clear gneg
  have hs_W57 : W56.heap.size ≤ W57.heap.size := z57.size
  go_wp2_with fail
  refine (markPartialS_c _ _ _ us31r _ _ W24.heap.size W31.heap.size (io0.below z57) (fun b hb => (Recs.blk_ge oR31 b hb).2) (by rw [HN31r.out]; exact LXS.out) (by omega) (by omega) (by omega)).mono ?_
  rintro e W58 ⟨rfl, eR, t58⟩
  have so0 := OPs.touch_below oR14 (by omega) (so0.below z57) t58
  have bm0 := (bm0.below' z57).touch t58 (.inl (by have := bb0.lt; omega))
  have bm1 := (bm1.below' z57).touch t58 (.inl (by have := bb1.lt; omega))
  have yw_W57 : Below w.heap.size w W57 := yM.trans (z57.mono yM.size)
  have hlow : w.heap.size ≤ W24.heap.size := by have := yw_W14.size; omega
  have yN : Below w.heap.size w W58 := yw_W57.trans (t58.below hlow yw_W57.size)
  have hs_W58 : W57.heap.size ≤ W58.heap.size := t58.size
  clear t58
  go_wp2_with fail
  refine (heldPartialS_c _ _ _ _ us31r _ _ eR (confsP_len HN31r.out) (by rw [HN31r.out]; exact LXS.out) (by omega) (by omega) (by omega)).mono ?_
  rintro e W59 ⟨rfl, z59⟩
  have gneg : ¬ ((1 : Int) + (offP us31r res.1.length : Int) < 0) := by omega
  have uc60 : W59.cell? ⟨w.heap.size, 0, none⟩ = some (.int .i64 sy0) := (bm0.below' z59).cell 0
  have uc61 : W59.cell? ⟨w.heap.size, 1, none⟩ = some (.int .i64 st0) := (bm0.below' z59).cell 1
  have uc62 : W59.cell? ⟨w.heap.size, 2, none⟩ = some (.slice A0 n0 k0) := (bm0.below' z59).cell 2
  have uc63 : W59.cell? ⟨(w.heap.size + 1), 0, none⟩ = some (.int .i64 d1_0) := (bm1.below' z59).cell 0
  have uc64 : W59.cell? ⟨(w.heap.size + 1), 1, none⟩ = some (.int .i64 d1_1) := (bm1.below' z59).cell 1
  have uc65 : W59.cell? ⟨(w.heap.size + 1), 2, none⟩ = some (.slice A1_0 n1_0 c1_0) := (bm1.below' z59).cell 2
  have yw_W59 : Below w.heap.size w W59 := yN.trans (z59.mono yN.size)
  go_wp2_with fail
  go_region_held3 (fun w' => w'.cell? ⟨w.heap.size, 0, none⟩ = some (.int .i64 sy0) ∧ w'.cell? ⟨w.heap.size, 1, none⟩ = some (.int .i64 st0) ∧ w'.cell? ⟨w.heap.size, 2, none⟩ = some (.slice A0 n0 k0) ∧ w'.cell? ⟨(w.heap.size + 1), 0, none⟩ = some (.int .i64 d1_0) ∧ w'.cell? ⟨(w.heap.size + 1), 1, none⟩ = some (.int .i64 d1_1) ∧ w'.cell? ⟨(w.heap.size + 1), 2, none⟩ = some (.slice A1_0 n1_0 c1_0))
    (first
      | (go_keep; done)
      | (exact ⟨((bm0.below' z59).below' zz68).cell 0, ((bm0.below' z59).below' zz68).cell 1, ((bm0.below' z59).below' zz68).cell 2, ((bm1.below' z59).below' zz68).cell 0, ((bm1.below' z59).below' zz68).cell 1, ((bm1.below' z59).below' zz68).cell 2⟩)
      | (exact ⟨((bm0.below' z59).below' zz67).cell 0, ((bm0.below' z59).below' zz67).cell 1, ((bm0.below' z59).below' zz67).cell 2, ((bm1.below' z59).below' zz67).cell 0, ((bm1.below' z59).below' zz67).cell 1, ((bm1.below' z59).below' zz67).cell 2⟩)
      | (exact ⟨((bm0.below' z59).below' zz66).cell 0, ((bm0.below' z59).below' zz66).cell 1, ((bm0.below' z59).below' zz66).cell 2, ((bm1.below' z59).below' zz66).cell 0, ((bm1.below' z59).below' zz66).cell 1, ((bm1.below' z59).below' zz66).cell 2⟩))
    (first
      | (go_at_call 21; refine (toMachine_any _ _ _ _ _ rs0 _ ((hr0.below yw_W59).drewN 1) p0).mono ?_; rintro e W66 ⟨B66, rfl, o66, z66⟩; have zz66 : Below W59.heap.size W59 W66 := below_undrew z66)
      | (go_at_call 31; refine (toPartial_any _ _ _ _ _ x1_0 _ ((h1_0.below yw_W59).below zz66) p1_0).mono ?_; rintro e W67 ⟨B67_0, rfl, o67_0, z67⟩; have zz67 : Below W59.heap.size W59 W67 := zz66.trans (z67.mono zz66.size))
      | (go_at_call 32; (with_reducible refine (ancestorsI_r _ _ _ _ _ rs0 _ _ _ _ _ x1_0 _ _ (o66.below z67).as3 o67_0.asI p0 p1_0 ((ht.below yw_W59).below zz67)).mono ?_); rw [← HRES.out]; rintro e W68 ⟨A68r, c68r, us68r, rfl, oR68, hn68r, z68⟩; have zz68 : Below W59.heap.size W59 W68 := zz67.trans (z68.mono zz67.size)))
  clear uc60 uc61 uc62 uc63 uc64 uc65
  have HN68r := Lib.hid hn68r
  clear hn68r
  have yW58_W68 : Below W58.heap.size W58 W68 := z59.trans (zz68.mono z59.size)
  go_wp2_with fail
  refine (eqPartialS_c _ _ _ _ _ _ _ us68r us14r _ oR68 (so0.below yW58_W68) (HN14r.out.trans HN68r.out.symm) (by rw [HN68r.out]; exact LXS.out) (by omega)).mono ?_
  rintro e W69 ⟨rfl, z69⟩
  skip
  go_wp2_with fail
  have yW58_W69 : Below W58.heap.size W58 W69 := yW58_W68.trans (z69.mono yW58_W68.size)
  refine (heldPartialS_c _ _ _ _ us31r _ _ (eR.below yW58_W69) (confsP_len HN31r.out) (by rw [HN31r.out]; exact LXS.out) (by omega) (by omega) (by omega)).mono ?_
  rintro e W70 ⟨rfl, z70⟩
  have yw_W68 : Below w.heap.size w W68 := yw_W59.trans (zz68.mono yw_W59.size)
  have yw_W69 : Below w.heap.size w W69 := yw_W68.trans (z69.mono yw_W68.size)
  have yw_W70 : Below w.heap.size w W70 := yw_W69.trans (z70.mono yw_W69.size)
  go_wp2_with fail
  go_ret
  exact ⟨rfl, yw_W70⟩
end Go.Proofs.YtokglpdlhacnaaaDoor

/-
  For every input, FnExactAncestorsOf returns true, and each argument reads afterwards as it read before. The three listed tables of the library hold what the program's text lays.
-/
namespace Go.Proofs.YtokglpdlhacnaaaDoor.lawAncestorsOfRow
open Go.ChangeShapes Go.WideShapes Go.ChangeAt Go.RowKit Go.Joins Go.Proofs.YtokglpdlhacnaaaDoor

theorem own : ownKnob Tryd.prog.godebug = none := by kernel_rfl
theorem laidOut : laidOutB Tryd.prog = true := by kernel_rfl
theorem readable : ∀ t ∈ Tryd.f7.params.toList, Tryd.prog.readableRec t = true ∧ t < Tryd.prog.types.size := by
  have h : (Tryd.f7.params.toList.all fun t => Tryd.prog.readableRec t && decide (t < Tryd.prog.types.size)) = true := by kernel_rfl
  intro t ht
  have := List.all_eq_true.1 h t ht
  simpa using this

/-- The heap that the program's own start leaves meets the condition. -/
theorem door_met (os : Os) (args : Array Value) : laidMetH Tryd.prog Rows.fnExactAncestorsOfRow.laid ((World.doorLaid Tryd.prog 400 os).forCall (fun _ _ => 0) ⟨#[], args, []⟩).memory :=
  laidMetH_of_parts3 (fuel := 8) (laidMet_of_run' 8 (by kernel_rfl) (by kernel_rfl)) (by kernel_rfl) (by kernel_rfl)
/-- What the condition gives the walk. -/
theorem tab_of {W : World} (h : laidMetH Tryd.prog Rows.fnExactAncestorsOfRow.laid W) : Tab W := by
  rw [MakeChecks.laidMetH_plain _ _ _ (by kernel_rfl)] at h
  obtain ⟨ps, ⟨g0, t0, cs0, f0, p0, q0, _, _, _, _, ⟨g1, t1, cs1, f1, p1, q1, _, _, _, _, ⟨g2, t2, cs2, f2, p2, q2, hg2, ht2, hv2, hd2, _, _⟩, _⟩, _⟩, _, _⟩ := h
  have hg : Tryd.prog.globalNamed "internal/strconv.uint64pow10" = some 2 := by kernel_rfl
  have hty : (Tryd.prog.globals[2]?).map (·.type) = some 201 := by kernel_rfl
  obtain rfl := Option.some.inj (hg.symm.trans hg2)
  obtain rfl := Option.some.inj (hty.symm.trans ht2)
  unfold Tab Lib.TabIs
  rw [hv2]
  have hc := Lib.cells_of_tab (zs := Lib.pow10Tab) (k := .u64) Tryd.underlying201 Tryd.underlying152 (by kernel_rfl) (by kernel_rfl) hd2
  rw [← hc]

set_option maxRecDepth 100000 in
theorem lifted (os : Os) (started : os.Started) (H : Type) (enc : TypeId × Value → H) :
    ReturnsInHanded {} Tryd.checked os 7 .any (fun w args => (Rows.fnExactAncestorsOfSpec.pre enc Tryd.prog Tryd.f7 [] false w args ∧ laidMetH Tryd.prog Rows.fnExactAncestorsOfRow.laid w) ∧ sizedMet enc Tryd.prog Tryd.f7 (OpenSpec.ofChange Rows.fnExactAncestorsOfSpec) false w args)
      (Rows.fnExactAncestorsOfSpec.post enc Tryd.prog Tryd.f7 false true false false) := by
  refine returnsInHanded_of_change_and (C := Tryd.checked) (X := fun w _ => laidMetH Tryd.prog Rows.fnExactAncestorsOfRow.laid w) (fun _ _ _ hh h => h.of_heap hh) own started (by kernel_rfl) Tryd.func7
    (ChangeSpec.witness_shaped (enc := enc) (C := Tryd.checked) (os := os) (X := fun w _ => laidMetH Tryd.prog Rows.fnExactAncestorsOfRow.laid w) false (World.doorLaid Tryd.prog 400 os) #[.agg #[.int .i64 0, .int .i64 0, .slice none 0 0], .agg #[.int .i64 0, .int .i64 0, .slice none 0 0], .int .i64 0] 8 rfl (World.shaped_of_RefB (by kernel_rfl) (by kernel_rfl)) (by kernel_rfl) (by kernel_rfl) (by kernel_rfl) (door_met os _)) ?_
  intro W base args ds gs before hval0 hW _ _ hL _
  have hval : ∀ (j : Nat) t v, Tryd.f7.params[j]? = some t → args[j]? = some v → Value.okWide Tryd.prog W .any base t v := hval0
  have hW' := hW
  obtain ⟨p, q, hA0, hV, hbef, hfz, hnd⟩ := hW
  have hA : DataW.TrodAll enc Tryd.prog W 0 (fun _ => true) true Tryd.f7.params.toList args.toList ds p := hA0
  rw [Tryd.params7] at hA hval
  obtain ⟨v0, vs0, d0, ds0, p0, q0, hargs, rfl, rfl, h0, r0⟩ := trodAll_cons hA
  obtain ⟨v1, vs1, d1, ds1, p1, q1, rfl, rfl, rfl, h1, r1⟩ := trodAll_cons r0
  obtain ⟨v2, vs2, d2, ds2, p2, q2, rfl, rfl, rfl, h2, r2⟩ := trodAll_cons r1
  obtain ⟨rfl, rfl, rfl⟩ := trodAll_nil r2
  obtain rfl : args = #[v0, v1, v2] := by cases args; simp_all
  obtain ⟨rfl, rfl⟩ := trodVars_none hV
  obtain ⟨c00, c01, c02, y00, y01, y02, nn0, rfl, _, _, e00, e01, e02⟩ := open_agg3 Tryd.underlying37 (by kernel_rfl) (by kernel_rfl) (hval 0 37 v0 rfl rfl) h0
  obtain ⟨z00, ez, _, _⟩ := DataW.trod_int Tryd.underlying2 e00
  simp only [List.cons.injEq, and_true] at ez
  subst ez
  obtain ⟨z01, ez, _, _⟩ := DataW.trod_int Tryd.underlying2 e01
  simp only [List.cons.injEq, and_true] at ez
  subst ez
  obtain ⟨A02, n02, k02, x02, rfl, S02, l02, m02⟩ := s3_of_trod Tryd.underlying35 Tryd.underlying138 rfl rfl rfl rfl rfl rfl Tryd.underlying2 (by kernel_rfl) (by kernel_rfl) e02
  obtain ⟨c10, c11, c12, y10, y11, y12, nn1, rfl, _, _, e10, e11, e12⟩ := open_agg3 Tryd.underlying53 (by kernel_rfl) (by kernel_rfl) (hval 1 53 v1 rfl rfl) h1
  obtain ⟨z10, ez, _, _⟩ := DataW.trod_int Tryd.underlying2 e10
  simp only [List.cons.injEq, and_true] at ez
  subst ez
  obtain ⟨z11, ez, _, _⟩ := DataW.trod_int Tryd.underlying2 e11
  simp only [List.cons.injEq, and_true] at ez
  subst ez
  obtain ⟨A12, n12, k12, x12, rfl, S12, l12, m12, _⟩ := si_of_trod Tryd.underlying23 Tryd.underlying2 (by kernel_rfl) e12
  obtain ⟨b2, rfl⟩ := okWide_int Tryd.underlying2 (hval 2 2 v2 rfl rfl)
  refine (lawAncestorsOf z00 z01 A02 n02 k02 x02 z10 z11 A12 n12 k12 x12 b2 W S02 S12 (by omega) (by omega) (tab_of hL)).mono fun e W' ⟨he, hb⟩ => ?_
  subst he
  exact ⟨_, rfl, law_post laidOut readable rfl (by kernel_rfl) Tryd.underlying4 rfl rfl rfl hW' hb⟩

theorem row_holds : Rows.FnExactAncestorsOfSaid :=
  OpenClaim.holds_of_wide 7 Tryd.f7 rfl rfl rfl rfl rfl rfl rfl ⟨rfl, rfl, rfl, rfl, rfl⟩ rfl rfl rfl rfl rfl (by kernel_rfl) Tryd.func7 (by kernel_rfl)
    (of_decide_eq_true (by kernel_rfl)) (by unfold Func.isWrapper; first | (rw [if_pos (by decide +kernel)]; kernel_rfl) | (rw [if_neg (by decide +kernel)]; exact ⟨rfl, rfl⟩))
    (fun os started H enc _ => lifted os started H enc)
end Go.Proofs.YtokglpdlhacnaaaDoor.lawAncestorsOfRow

/-
  The tied card of FnExactAncestorsOf: for every input it returns true, and each argument reads afterwards as it read before; the three listed tables are tied to the program's text.
-/
namespace Go.Proofs.YtokglpdlhacnaaaDoor.cardAncestorsOf
open Go Go.Proofs.YtokglpdlhacnaaaDoor

theorem proved : Rows.FnExactAncestorsOfCardSaid :=
  Claim7.holds_tied_plain_at .later [] Rows.fnExactAncestorsOfCard.laidKinds true Rows.fnExactAncestorsOfCard.stood.harness true
    lawAncestorsOfRow.row_holds (fun _ h => by cases h) (by kernel_rfl) (fun _ h => by cases h) fnExactAncestorsOf_row_tie rfl ⟨rfl, rfl⟩ (by kernel_rfl) rfl
    (fun f fn hf hfn => by
      obtain rfl : f = 7 := Option.some.inj ((show Tryd.prog.funcNamed Rows.fnExactAncestorsOfRow.func = some 7 by kernel_rfl).symm.trans hf) |>.symm
      obtain rfl : fn = Tryd.f7 := (Option.some.inj (Tryd.func7.symm.trans hfn)).symm
      exact ⟨by kernel_rfl, fun j t ht => by
        rw [Tryd.params7] at ht
        have hm : t ∈ [37, 53, 2] := by simpa using Array.mem_of_getElem? ht
        have hall : ([37, 53, 2].all fun u => !Tryd.prog.wantsStandIn u) = true := by kernel_rfl
        exact (show Tryd.prog.wantsStandIn t = false by simpa using List.all_eq_true.1 hall t hm)⟩)
    (by kernel_rfl)
end Go.Proofs.YtokglpdlhacnaaaDoor.cardAncestorsOf
