/-
  Contracts of the laws' helpers over []Turn: eqTurnS, markTurnS, heldTurnS.
-/
import Derived.Test.YthipbeggaeogcaaTusM
import Derived.Test.YthipbeggaeogcaaHelpTurn
import Derived.Test.YthipbeggaeogcaaHelpL
namespace Go.Proofs.Ythipbeggaeogcaa
open Go.RowKit

set_option maxHeartbeats 4000000 in
theorem eqTurnS_c (A B : Option Addr) (n c d lo lo' : Nat) (ts us : List Tm) (w : World) (hA : OTs w lo A n c ts) (hB : OTs w lo' B n d us) (h : tus us = tus ts) (hs : ∀ x ∈ tus ts, x.word.length ≤ 1000) (hn : n ≤ 1048576) :
    Calls Try.prog 27 #[.slice A n c, .slice B n d] w fun e w' => e = .returned (.bool true) ∧ Below w.heap.size w w' := by
  have HE := Lib.hid h
  have HSS := Lib.hid hs
  clear h hs
  go_enter Try.func27, Try.ntmps27
  go_wp2_with fail
  go_loopw [5] (fun i wr => ∃ k : Nat, k ≤ n ∧ i = .int .i64 (k : Int) ∧ Below w.heap.size w wr) (fun i _ => n - (intOf i).toNat)
  case atStart => exact ⟨0, Nat.zero_le _, rfl, Below.refl _ _⟩
  case round =>
    obtain ⟨k, hk, rfl, hz⟩ := hrel
    by_cases hlt : k < n
    · obtain ⟨t, b, off, HT, rfl, hbl, _, e0, e1, oL, _⟩ := (hA.below hz).pick hlt
      obtain ⟨u, b', off', HU, rfl, hbl', _, e0', e1', oL', _⟩ := (hB.below hz).pick hlt
      have hc : u.tu = t.tu := by
        have h1 := congrArg (·[k]?) HE.out
        simp only [tus, List.getElem?_map, HT.out, HU.out, Option.map_some, Option.some.injEq] at h1
        exact h1
      have hsz := HSS.out t.tu (List.mem_map.2 ⟨t, List.mem_of_getElem? HT.out, rfl⟩)
      have hx : t.xs.length ≤ 1000 := hsz
      obtain ⟨q', L', a', xs'⟩ := u
      simp only [Tm.tu, Tu.mk.injEq] at hc
      obtain ⟨hq, hxs⟩ := hc
      dsimp only at hq hxs e0' e1' oL'
      subst hq
      subst hxs
      have i1 : (0 : Int) ≤ (k : Int) := by omega
      have i2 : (k : Int) < (n : Int) := by omega
      clear hsz HU HT
      go_wp2_with fail
      go_region_held3 (fun w' => w'.cell? ⟨b, off + k * 2, none⟩ = some (.int .i64 t.q) ∧ w'.cell? ⟨b, off + k * 2 + 1, none⟩ = some (.slice t.L t.xs.length t.a) ∧ w'.cell? ⟨b', off' + k * 2, none⟩ = some (.int .i64 t.q) ∧ w'.cell? ⟨b', off' + k * 2 + 1, none⟩ = some (.slice L' t.xs.length a'))
        (first | (go_keep; done) | (exact ⟨(z3.cell (p := ⟨b, _, none⟩) hbl).trans e0, (z3.cell (p := ⟨b, _, none⟩) hbl).trans e1, (z3.cell (p := ⟨b', _, none⟩) hbl').trans e0', (z3.cell (p := ⟨b', _, none⟩) hbl').trans e1'⟩))
        ((go_at_call 20; refine (eqTurn_any _ _ _ _ t.xs _ _ _ _ t.xs _ (oL.drewN 1).rd (oL'.drewN 1).rd (by omega)).mono ?_; rintro e W3 ⟨rfl, z3'⟩; have z3 : Below wr.heap.size wr W3 := below_undrew (n := 1) z3'))
      rw [sameTurnB_self]
      go_wp2_with fail
      go_roundw
      case rel => exact ⟨k + 1, by omega, by go_num, hz.trans (z3.mono hz.size)⟩
      case measure => simp [intOf]; omega
    · go_wp2_with fail
      go_ret
      exact ⟨rfl, hz⟩

set_option maxHeartbeats 400000 in
theorem markI_zU (A : Option Addr) (c : Nat) (m : Int) (w : World) : Calls Try.prog 38 #[.slice A 0 c, .int .i64 m] w fun e w' => e = .returned (.int .i64 m) ∧ w = w' := by
  go_enter Try.func38, Try.ntmps38
  go_wp2
  go_loop [1, 5] (fun q i => q = .int .i64 m ∧ i = .int .i64 0) (fun _ _ => 0)
  case atStart => exact ⟨rfl, rfl⟩
  case round =>
    obtain ⟨rfl, rfl⟩ := hrel
    go_wp2
    go_ret
    exact ⟨rfl, rfl⟩
def MarkOU (w : World) (lo hi : Nat) (A : Option Addr) (n c : Nat) (m : Int) (e : Ending) (w' : World) : Prop :=
  e = .returned (.int .i64 (m + n)) ∧ Own w' lo 2 1 A n c (ints (marks m n)) ∧ Tch lo hi w w' ∧ (∀ b, blk A ≠ some b → w'.heap[b]? = w.heap[b]?)
theorem markI_oU (A : Option Addr) (n c : Nat) (xs : List Int) (m : Int) (w : World) (lo hi : Nat) (ho : Own w lo 2 1 A n c (ints xs)) (hh : ∀ b, blk A = some b → b < hi) (h0 : 0 ≤ m) (h1 : m + n ≤ 9223372036854775807) :
    Calls Try.prog 38 #[.slice A n c, .int .i64 m] w (MarkOU w lo hi A n c m) := by
  rcases Nat.eq_zero_or_pos n with hn | hn
  · subst hn
    have hx : xs = [] := by have := ho.1; rw [length_ints] at this; exact List.eq_nil_of_length_eq_zero (by omega)
    subst hx
    refine (markI_zU A c m w).mono ?_
    rintro e w' ⟨rfl, rfl⟩
    exact ⟨ret_int (by omega), ho, Tch.refl _ _ _, fun _ _ => rfl⟩
  · refine (markI A n c xs m w lo hi (.inr ho) hh h0 h1).mono ?_
    rintro e w' ⟨rfl, oo, t, s⟩
    exact ⟨rfl, oo.resolve_left (fun h => by omega), t, s⟩

def MarkTs (w : World) (lo hi : Nat) (A : Option Addr) (n c : Nat) (ts : List Tm) (p : Int) (e : Ending) (w' : World) : Prop :=
  e = .returned (.int .i64 (p + (offU ts n : Int))) ∧ OTs w' lo A n c (markTu p ts n) ∧ Tch lo hi w w'

set_option maxHeartbeats 8000000 in
theorem markTurnS_c (A : Option Addr) (n c : Nat) (ts : List Tm) (p : Int) (w : World) (lo hi : Nat) (hA : OTs w lo A n c ts) (hh : ∀ b, RecsB A (ts.flatMap Tm.rows) b → b < hi) (hs : ∀ x ∈ tus ts, x.word.length ≤ 1000) (hn : n ≤ 1000) (g0 : 0 ≤ p) (g1 : p ≤ 1000000000) :
    Calls Try.prog 28 #[.slice A n c, .int .i64 p] w (MarkTs w lo hi A n c ts p) := by
  have HSS := Lib.hid hs
  have HH := Lib.hid hh
  have hl : ts.length = n := hA.len
  have HL := Lib.hid hl
  have HOF : Hid (∀ k, k ≤ n → offU ts k ≤ 1001000) := Lib.hid (fun k hk => by
    have := offU_le ts 1001 (fun t ht => by have := HSS.out t.tu (List.mem_map.2 ⟨t, ht, rfl⟩); show 1 + t.xs.length ≤ 1001; have h1 : t.xs.length ≤ 1000 := this; omega) k
    rw [HL.out] at this
    omega)
  clear hs hh hl
  have h0 : OTs w lo A n c (markTu p ts 0) := by rw [markTu_zero]; exact hA
  go_enter Try.func28, Try.ntmps28
  go_wp2_with fail
  go_loopw [1, 5] (fun q i wr => ∃ k : Nat, k ≤ n ∧ i = .int .i64 (k : Int) ∧ q = .int .i64 (p + (offU ts k : Int)) ∧ OTs wr lo A n c (markTu p ts k) ∧ Tch lo hi w wr) (fun _ i _ => n - (intOf i).toNat)
  case atStart => exact ⟨0, Nat.zero_le _, rfl, by simp [offU_zero], h0, Tch.refl _ _ _⟩
  case round =>
    obtain ⟨k, hk, rfl, rfl, hO, ht⟩ := hrel
    clear h0
    by_cases hlt : k < n
    · obtain ⟨t, b, off, HT, rfl, hbl, hlob, e0, e1, oL, hfz⟩ := hO.pick hlt
      have hkl : k < ts.length := by rw [HL.out]; exact hlt
      have htk : t = ts[k] := by
        have h1 := markTu_get (p := p) (k := k) (List.getElem?_eq_getElem hkl)
        rw [HT.out] at h1
        simpa using h1
      have HTS : Hid (ts[k]? = some t) := Lib.hid (by rw [htk]; exact List.getElem?_eq_getElem hkl)
      have hsz := HSS.out t.tu (List.mem_map.2 ⟨t, List.mem_of_getElem? HTS.out, rfl⟩)
      have hx : t.xs.length ≤ 1000 := hsz
      have hmem : t ∈ ts := List.mem_of_getElem? HTS.out
      have hof := HOF.out k hk
      have hbh : b < hi := HH.out b (.inl rfl)
      have HLh : Hid (∀ b, blk t.L = some b → b < hi) := Lib.hid (fun b hb => HH.out b (.inr ⟨_, List.mem_flatMap.2 ⟨t, hmem, List.mem_cons_self⟩, hb⟩))
      have HNX := Lib.hid (offU_next HTS.out)
      have HMN := Lib.hid (markTu_next (p := p) HTS.out)
      clear htk hsz hmem
      have i1 : (0 : Int) ≤ (k : Int) := by omega
      have i2 : (k : Int) < (n : Int) := by omega
      have f0 := hfz (off + k * 2)
      have hO1 := hO.setq HT.out (p + (offU ts k : Int))
      have ht1 := ht.setCell (p := ⟨b, off + k * 2, none⟩) hlob hbh (.int .i64 (p + (offU ts k : Int)))
      obtain ⟨cur, hcur⟩ : ∃ cur, Blk wr b 30 cur := by
        rcases hO.spine.2 with ⟨h, _⟩ | ⟨b2, o2, cur, h, _, hg, _⟩
        · cases h
        · simp only [Option.some.injEq, Addr.mk.injEq, and_true] at h
          obtain ⟨rfl, rfl⟩ := h
          exact ⟨cur, hg⟩
      have oL1 := oL.far (p := ⟨b, off + k * 2, none⟩) (hcur.apt oL (by decide)) (.int .i64 (p + (offU ts k : Int)))
      have e11 : (wr.setCell ⟨b, off + k * 2, none⟩ (.int .i64 (p + (offU ts k : Int)))).cell? ⟨b, off + k * 2 + 1, none⟩ = some (.slice t.L t.xs.length t.a) := by rw [World.cell?_setCell_other _ _ _ _ (by simp)]; exact e1
      have hnb : ∀ b', blk t.L = some b' → b' ≠ b := fun b' hb' e => hcur.apt oL (by decide) (e ▸ hb')
      have HNB := Lib.hid hnb
      clear hnb hfz
      have HT1 : Hid (((markTu p ts k).set k { t with q := p + (offU ts k : Int) })[k]? = some { t with q := p + (offU ts k : Int) }) := Lib.hid (by rw [List.getElem?_set_self (by rw [markTu_len]; exact hkl)])
      go_upto_region 5 with fail
      have hb1 : Blk (wr.setCell ⟨b, off + k * 2, none⟩ (.int .i64 (p + (offU ts k : Int)))) b 30 _ := hcur.set_ _ _
      generalize wr.setCell ⟨b, off + k * 2, none⟩ (.int .i64 (p + (offU ts k : Int))) = w1 at *
      clear hcur f0 e0 e1 oL ht hO hlob
      go_wp2_with fail
      refine (markI_oU _ _ _ t.xs _ _ lo hi oL1 HLh.out (by omega) (by omega)).mono ?_
      rintro e w2 ⟨rfl, oL2, t2, s2⟩
      have hO2 := hO1.setL HT1.out (xs := marks (p + (offU ts k : Int) + 1) t.xs.length) (length_marks _ _) oL2 s2
      have hO4 : OTs w2 lo (some ⟨b, off, none⟩) n c (markTu p ts (k + 1)) := by
        rw [← HMN.out]
        rw [List.set_set] at hO2
        exact hO2
      have ht3 := ht1.trans t2
      have hsz : p + (offU ts k : Int) + 1 + (t.xs.length : Int) = p + (offU ts (k + 1) : Int) := by rw [HNX.out]; unfold Tm.size; omega
      have HSZ := Lib.hid hsz
      clear hsz s2 t2 ht1 oL1 hO1 e11
      go_wp2_with fail
      go_roundw
      case rel => exact ⟨k + 1, by omega, by go_num, by rw [HSZ.out], hO4, ht3⟩
      case measure => simp [intOf]; omega
    · have hkn : k = n := by omega
      subst hkn
      go_wp2_with fail
      go_ret
      exact ⟨rfl, hO, ht⟩

theorem heldF_mU {p : Int} {n : Nat} {xs : List Int} (h : xs = marks p n) : heldF p xs = p + n := by subst h; exact heldF_marks p n
set_option maxHeartbeats 8000000 in
theorem heldTurnS_c (A : Option Addr) (n c lo : Nat) (ts : List Tm) (p : Int) (w : World) (hA : OTs w lo A n c (markTu p ts n)) (hl : ts.length = n) (hs : ∀ x ∈ tus ts, x.word.length ≤ 1000) (hn : n ≤ 1000) (g0 : 0 ≤ p) (g1 : p ≤ 1000000000) :
    Calls Try.prog 29 #[.slice A n c, .int .i64 p] w fun e w' => e = .returned (.int .i64 (p + (offU ts n : Int))) ∧ Below w.heap.size w w' := by
  have HSS := Lib.hid hs
  have HL := Lib.hid hl
  have HOF : Hid (∀ k, k ≤ n → offU ts k ≤ 1001000) := Lib.hid (fun k hk => by
    have := offU_le ts 1001 (fun t ht => by have := HSS.out t.tu (List.mem_map.2 ⟨t, ht, rfl⟩); show 1 + t.xs.length ≤ 1001; have h1 : t.xs.length ≤ 1000 := this; omega) k
    rw [HL.out] at this
    omega)
  clear hs hl
  go_enter Try.func29, Try.ntmps29
  go_wp2_with fail
  go_loop [1, 5] (fun q i => ∃ k : Nat, k ≤ n ∧ i = .int .i64 (k : Int) ∧ q = .int .i64 (p + (offU ts k : Int))) (fun _ i => n - (intOf i).toNat)
  case atStart => exact ⟨0, Nat.zero_le _, rfl, by simp [offU_zero]⟩
  case round =>
    obtain ⟨k, hk, rfl, rfl⟩ := hrel
    by_cases hlt : k < n
    · obtain ⟨u, b, off, HU, rfl, hbl, hlob, e0, e1, oL, _⟩ := hA.pick hlt
      have hkl : k < ts.length := by rw [HL.out]; exact hlt
      obtain ⟨t, hT⟩ : ∃ t, ts[k]? = some t := ⟨ts[k], List.getElem?_eq_getElem hkl⟩
      have hu : u = t.mark (p + (offU ts k : Int)) := by
        have h1 := markTu_get (p := p) (k := n) hT
        rw [HU.out, if_pos hlt] at h1
        simpa using h1
      have hsz := HSS.out t.tu (List.mem_map.2 ⟨t, List.mem_of_getElem? hT, rfl⟩)
      have hx : t.xs.length ≤ 1000 := hsz
      have hof := HOF.out k hk
      have HNX := Lib.hid (offU_next hT)
      subst hu
      have oL' : Own w lo 2 1 t.L t.xs.length t.a (ints (marks (p + (offU ts k : Int) + 1) t.xs.length)) := by simpa [Tm.mark, length_marks] using oL
      have q0 : w.cell? ⟨b, off + k * 2, none⟩ = some (.int .i64 (p + (offU ts k : Int))) := e0
      have q1 : w.cell? ⟨b, off + k * 2 + 1, none⟩ = some (.slice t.L t.xs.length t.a) := by simpa [Tm.mark, length_marks] using e1
      have i1 : (0 : Int) ≤ (k : Int) := by omega
      have i2 : (k : Int) < (n : Int) := by omega
      have gn1 : ¬ (p + (offU ts k : Int) + 1 + (t.xs.length : Int) < 0) := by omega
      have hsz2 : p + (offU ts k : Int) + 1 + (t.xs.length : Int) = p + (offU ts (k + 1) : Int) := by rw [HNX.out]; unfold Tm.size; omega
      have HSZ := Lib.hid hsz2
      clear e0 e1 oL hsz hsz2 HU hT
      go_wp2_with fail
      refine (heldI _ _ _ (marks (p + (offU ts k : Int) + 1) t.xs.length) _ _ oL'.rd (by omega) (by omega)).mono ?_
      rintro e w' ⟨rfl, rfl⟩
      rw [heldF_marks]
      go_wp2_with fail
      go_round
      case rel => exact ⟨k + 1, by omega, by go_num, by rw [HSZ.out]⟩
      case measure => simp [intOf]; omega
    · have hkn : k = n := by omega
      subst hkn
      go_wp2_with fail
      go_ret
      exact ⟨rfl, Below.refl _ _⟩

theorem OTs.mkf_far {T : List TypeId} {w w' : World} {l hh lo n c : Nat} {A : Option Addr} {ts : List Tm} (h : OTs w lo A n c ts) (hf : MkF T l hh w w') (hd : ∀ b, lo ≤ b → b < l ∨ hh ≤ b) : OTs w' lo A n c ts :=
  Recs.keptB h (fun b hb => hf.far (Recs.blk_ge h b hb).2 (hd b (Recs.blk_ge h b hb).1))
theorem OTs.mkf_below {T : List TypeId} {w0 w w' : World} {l hh lo n c : Nat} {A : Option Addr} {ts : List Tm} (h0 : OTs w0 lo A n c ts) (hl : w0.heap.size ≤ l) (h : OTs w lo A n c ts) (hf : MkF T l hh w w') : OTs w' lo A n c ts :=
  Recs.keptB h (fun b hb => hf.far (Recs.blk_ge h b hb).2 (.inl (by have := (Recs.blk_ge h0 b hb).2; omega)))
theorem OTs.touch_below {w0 w w' : World} {l hh lo n c : Nat} {A : Option Addr} {ts : List Tm} (h0 : OTs w0 lo A n c ts) (hl : w0.heap.size ≤ l) (h : OTs w lo A n c ts) (ht : Tch l hh w w') : OTs w' lo A n c ts :=
  Recs.keptB h (fun b hb => ht.block b (Recs.blk_ge h b hb).2 (.inl (by have := (Recs.blk_ge h0 b hb).2; omega)))
theorem confsU_len {ts : List Tm} {M : List Tu} (h : tus ts = M) : ts.length = M.length := by rw [← h]; simp [tus]
end Go.Proofs.Ythipbeggaeogcaa
