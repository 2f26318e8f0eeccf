/-
  Contract of the reference's l22Eval: the walk.
-/
import Derived.Test.YtfheepjfpgiaoaaEvS
import Derived.Deep.RegionHeld3
namespace Go.Proofs.Ytfheepjfpgiaoaa
open Go.RowKit

theorem elBBs : Elem Try.prog 23 43 1 24 (.slice none 0 0) := ⟨Try.underlying23, by kernel_rfl, rfl, by decide⟩
def EvSP (w : World) (r : Option Tr) (e : Ending) (w' : World) : Prop :=
  Below w.heap.size w w' ∧ match r with
  | some x => ∃ A c, e = .returned (.tuple #[.slice A x.nodes c, .bool true]) ∧ Own w' w.heap.size 4 1 A x.nodes c (bools x.enc)
  | none => e = .returned (.tuple #[.slice none 0 0, .bool false])
theorem RowB.of {w : World} {lo : Nat} {t : Tr} {A : Option Addr} {c : Nat} (h : Own w lo 4 1 A t.nodes c (bools t.enc)) : RowB w t ⟨A, c, t.enc⟩ := ⟨rfl, by show Own _ _ _ _ _ t.enc.length _ _; rw [enc_len]; exact h.mono (Nat.zero_le _)⟩
theorem NewS.tree {w : World} {t : Tr} {e : Ending} {w' : World} (h : NewS w t.enc e w') : ∃ A c, e = .returned (.slice A t.nodes c) ∧ Own w' w.heap.size 4 1 A t.nodes c (bools t.enc) ∧ Below w.heap.size w w' := by
  obtain ⟨A, c, he, ho, hz⟩ := h
  rw [enc_len] at he ho
  exact ⟨A, c, he, ho, hz⟩
set_option maxRecDepth 100000 in
set_option maxHeartbeats 8000000 in
theorem l22Eval_any (ex : Ex) (A : Option Addr) (n c : Nat) (SA : Option Addr) (sc : Nat) (s : List Tr) (w : World) (hx : S2 w A n ex.enc) (hn : n ≤ 40) (hok : ex.ok) (hs : TRd w SA s) (h6 : s.length = 6) (hsn : ∀ t ∈ s, t.nodes ≤ 2000) :
    Calls Try.prog 150 #[.slice A n c, .slice SA 6 sc] w (EvSP w (ex.ev s)) := by
  have hl : ex.enc.length = n := hx.len
  have HL := Lib.hid hl
  have HX := Lib.hid hx
  have HS := Lib.hid hs
  have H6 := Lib.hid h6
  have HSN := Lib.hid hsn
  have HOK := Lib.hid hok
  have hn1 : 1 ≤ n := by rw [← hl, ex_len]; exact ex_pos ex
  have o0 := Own.lit0 w 43 1
  have z0 : Below w.heap.size w (w.alloc (.cells #[] 43)) := (Below.refl _ _).alloc (Nat.le_refl _) _
  have HT0 : Hid (TOw (w.alloc (.cells #[] 43)) w.heap.size (some ⟨w.heap.size, 0, none⟩) 0 (([] : List Tr).reverse)) := Lib.hid ⟨[], rfl, o0, fun k t h => by simp at h⟩
  have HD0 : Hid (ex.enc.drop n = flatE []) := Lib.hid (by rw [List.drop_of_length_le (by omega)]; rfl)
  have w0 : IntKind.i64.wrap ((n : Int) - 1) = (n : Int) - 1 := IntWalk.i64_in _ (by omega)
  clear hx hs h6 hsn hok hl o0
  go_enter Try.func150, Try.ntmps150
  go_wp2_with fail
  go_loopw [6, 7] (fun s6 s7 wr => ∃ (k : Nat) (q : Int) (es : List Ex) (St : List Tr) (KA : Option Addr) (kc : Nat), k ≤ n ∧ s7 = .int .i64 q ∧ Hid (q = (k : Int) - 1) ∧ s6 = .slice KA St.length kc ∧ Hid (ex.enc.drop k = flatE es) ∧ Hid (vals s es St) ∧ Hid (TOw wr w.heap.size KA kc St.reverse) ∧ Hid (∀ t ∈ St, t.nodes ≤ 2000) ∧ Hid (St.length + k ≤ n) ∧ Below w.heap.size w wr) (fun _ s7 _ => (intOf s7 + 1).toNat)
  case atStart => exact ⟨n, (n : Int) - 1, [], [], _, 0, Nat.le_refl _, rfl, rfl, rfl, HD0, Lib.hid vals_nil, HT0, Lib.hid (by simp), Lib.hid (by simp), z0⟩
  case round =>
    obtain ⟨k, q, es, St, KA, kc, hk, rfl, HQ, rfl, HD, HV, HT, HN, HLN, hz⟩ := hrel
    clear z0 HT0 HD0 w0
    rcases Nat.eq_zero_or_pos k with hk0 | hk0
    · subst hk0
      obtain rfl : q = -1 := by have := HQ.out; omega
      have hes : es = [ex] := flatE_inj (by rw [← HD.out, List.drop_zero]; simp [flatE])
      obtain ⟨x, St', hSt, hev, hv2⟩ := vals_cons (hes ▸ HV.out)
      obtain rfl : St' = [] := by have := vals_len hv2; exact List.eq_nil_of_length_eq_zero this
      subst hSt
      have HEV := Lib.hid hev
      obtain ⟨u, sb, so, hr, rfl, hsb, hc⟩ := HT.out.rd.pick (k := 0) (t := x) (by simp)
      rw [Nat.add_zero] at hc
      have hxn : x.nodes ≤ 2000 := HN.out x (by simp)
      have o1 := Own.lit0 wr 4 1
      have HSB := Lib.hid ((hr.sb).alloc (.cells #[] 4))
      have y1 : Below w.heap.size w (wr.alloc (.cells #[] 4)) := hz.alloc hz.size _
      have hlo := hz.size
      obtain ⟨X, hX⟩ : ∃ X, x.nodes = X := ⟨_, rfl⟩
      rw [hX] at hc hxn HSB
      have HXX := Lib.hid hX
      have i1 : ((1 : Nat) : Int) = 1 := rfl
      have hc1 : (wr.alloc (.cells #[] 4)).cell? ⟨sb, so, none⟩ = some (.slice u.A X u.c) := (World.cell?_alloc_lt wr _ ⟨sb, so, none⟩ hsb).trans hc
      clear hes hev hv2 hr hX
      rw [show [x].length = 1 from rfl]
      go_wp2_with (at_builtin; refine wpList_append_Own rfl (.tmp 96) (.tmp 99) rfl elBool (lo := wr.heap.size) rfl o1 rfl HSB.out (bools_one _) (by omega) (by simp only [maxLen]; omega) (by simp) ?_; intro A2 c2 w2 o2 hg2 _; have HO2 := Lib.hid o2; have HG2 := Lib.hid hg2)
      rw [HEV.out]
      have o3 := HO2.out
      rw [Nat.zero_add, List.nil_append] at o3
      exact bodyPost_ret (v := .tuple #[.slice A2 X c2, .bool true]) (by simp [results, Try.results150, go_sem]) rfl ⟨y1.grown HG2.out (by simp; omega) (fun b hb => by simp [blk] at hb; omega), A2, c2, by rw [HXX.out], by rw [HXX.out]; exact o3.mono hlo⟩
    · obtain ⟨j, rfl⟩ : ∃ j, k = j + 1 := ⟨k - 1, by omega⟩
      obtain rfl : q = (j : Int) := by have := HQ.out; omega
      obtain ⟨e0, es', hdj, hev0, hcs⟩ := suf_step s HOK.out (j := j) (by rw [HL.out]; omega) HD.out
      have HDJ := Lib.hid hdj
      have HE0 := Lib.hid hev0
      have hjn : j < n := by omega
      obtain ⟨r, g, off, HRR, _, rfl, hgb, c0, c1⟩ := (HX.out.below hz).pick hjn
      have i1 : (0 : Int) ≤ (j : Int) := by omega
      have i2 : (j : Int) < (n : Int) := by omega
      have i3 : (j : Int) ≥ 0 := by omega
      have w1 : IntKind.i64.wrap ((j : Int) - 1) = (j : Int) - 1 := IntWalk.i64_in _ (by omega)
      have hLn : St.length ≤ 40 := by have := HLN.out; omega
      have hlo := hz.size
      obtain ⟨W1, hW_⟩ : ∃ W_, W_ = wr.alloc (.cells #[.bool false] 4) := ⟨_, rfl⟩
      have b1 : Blk W1 wr.heap.size 4 #[.bool false] := by rw [hW_]; exact Blk.new wr _ _
      have z1 : Below wr.heap.size wr W1 := by rw [hW_]; exact (Below.refl _ _).alloc (Nat.le_refl _) _
      have HW1 := Lib.hid hW_
      clear hW_
      have zW1 : Below w.heap.size w W1 := hz.trans (z1.mono hz.size)
      have HZ1 := Lib.hid zW1
      have HB1 := Lib.hid b1
      have HZR := Lib.hid z1
      have HT1 := Lib.hid (HT.out.below z1)
      have hgb1 : g < W1.heap.size := by have := z1.size; omega
      have c0' : W1.cell? ⟨g, off + j * 2, none⟩ = some (.int .i64 r.a) := (z1.cell (p := ⟨g, off + j * 2, none⟩) hgb).trans c0
      have c1' : W1.cell? ⟨g, off + j * 2 + 1, none⟩ = some (.int .i64 r.b) := (z1.cell (p := ⟨g, off + j * 2 + 1, none⟩) hgb).trans c1
      have HMY := Lib.hid (l22Many_any r.a r.b W1)
      have hrx : ∀ y, ex.enc[j]? = some y → r = y := fun y hy => by have := HRR.out; rw [hy] at this; exact (Option.some.inj this).symm
      have HST0 := Lib.hid (HS.out.below zW1)
      clear hdj hev0 hk hk0 b1 z1 zW1 c0 c1 HQ
      rcases hcs with ⟨rfl, hy, hes⟩ | ⟨v, hv6, rfl, hy, hes⟩ | ⟨a, b, rfl, hy, hes⟩ | ⟨a, rfl, hy, hes⟩ | ⟨a, rfl, hy, hes⟩ | ⟨a, b, rfl, hy, hes⟩
      · have hr0 := hrx _ hy
        rw [hr0] at HMY c0' c1'
        dsimp only at HMY c0' c1'
        clear hr0 hrx hy HRR
        have HF : Hid (fE ⟨0, 0⟩ = 0) := Lib.hid rfl
        rw [HF.out] at HMY
        clear HF
        subst hes
        have hv : vals s es St := HV.out
        have HVV := Lib.hid hv
        obtain ⟨p, hp⟩ : ∃ p, St.length = p := ⟨_, rfl⟩
        have hpL : p + 0 = p := rfl
        obtain ⟨St', hSt⟩ : ∃ St', St = St' := ⟨St, rfl⟩
        subst hSt
        clear hv
        obtain ⟨L, hL⟩ : ∃ L, St.length = L := ⟨_, rfl⟩
        have hLp : L = p + 0 := by rw [← hL, ← hp]; rfl
        rw [hL] at hLn ⊢
        have HNS : Hid (∀ t ∈ St, t.nodes ≤ 2000) := Lib.hid (fun t ht => HN.out t ht)
        have hLN2 : p + 0 + (j + 1) ≤ n := by have := HLN.out; rw [hL, hLp] at this; exact this
        have w2 : IntKind.i64.wrap ((L : Int) - 1) = (L : Int) - 1 := IntWalk.i64_in _ (by omega)
        have w3 : IntKind.i64.wrap ((L : Int) - 0) = (p : Int) := by rw [show (L : Int) - 0 = (p : Int) by omega]; exact IntWalk.i64_in _ (by omega)
        have HTC : Hid (TOw W1 w.heap.size KA kc St.reverse) := Lib.hid HT1.out
        have hkc : L ≤ kc := by obtain ⟨us, h1, h2, _⟩ := HT1.out; have h3 := h2.le; rw [List.length_reverse, hL] at h3; exact h3
        have HPP := Lib.hid hp
        have hpk : p ≤ kc := by omega
        obtain rfl : p = L := by omega
        clear hLp hp hL
        have HEV0 : Hid (Ex.nil.ev s = some .nil) := Lib.hid rfl
        have HRW : Hid (RowB W1 .nil ⟨some ⟨wr.heap.size, 0, none⟩, 1, Tr.nil.enc⟩) := Lib.hid (by rw [HW1.out]; exact RowB.of (t := .nil) (lo := 0) (Own.lit wr #[.bool false] _ 1 1 0 rfl (by simp [maxLen]) (Nat.zero_le _)))
        go_upto_region 7 with fail
        rw [← HW1.out]
        go_upto_region 20 with (go_at_call 160; refine HMY.out.mono ?_; rintro e w' ⟨rfl, rfl⟩)
        have HXX : Hid ((.nil : Tr).nodes = 1) := Lib.hid rfl
        have hxn : 1 ≤ 2000 := by omega
        have k6 : ¬ (kc : Int) < (p : Int) := by omega
        have k7 : (p : Int) ≤ (kc : Int) := by omega
        have hloW : w.heap.size ≤ W1.heap.size := HZ1.out.size
        have HVN := Lib.hid (vals_push HVV.out HEV0.out)
        have HNN : Hid (∀ t ∈ (.nil :: St), t.nodes ≤ 2000) := Lib.hid (fun t ht => by
          rcases List.mem_cons.1 ht with h | h
          · rw [h, HXX.out]; exact hxn
          · exact HNS.out t h)
        have hza : Below W1.heap.size W1 (W1.alloc (.cells #[.slice (some ⟨wr.heap.size, 0, none⟩) 1 1] 43)) := (Below.refl _ _).alloc (Nat.le_refl _) _
        obtain ⟨us, hus1, hus2, hus3⟩ := HTC.out.below hza
        have HU1 := Lib.hid hus1
        have HU2 := Lib.hid hus2
        have HU3 := Lib.hid hus3
        have HRA := Lib.hid (HRW.out.kb (KB.below hza))
        rw [List.length_reverse, HPP.out] at hus2
        have HOW := Lib.hid hus2
        clear hus1 hus2 hus3 hza
        go_wp2_with (at_builtin; refine wpList_append_Own rfl (.tmp 92) (.tmp 94) rfl elBBs (lo := w.heap.size) rfl HOW.out rfl (Rd.new1 W1 _ _) (by intro u hu; simp at hu; subst hu; rfl) (by omega) (by simp only [maxLen]; omega) (by simp; omega) ?_; intro A5 c5 w5 o5 hg5 _; have HO5 := Lib.hid o5; have HG5 := Lib.hid hg5)
        all_goals
          have hzf : Below w.heap.size w w5 := HOW.out.below_of (HZ1.out.alloc hloW _) HG5.out (by simp; omega)
          have HTF : Hid (TOw w5 w.heap.size A5 c5 ((.nil :: St).reverse)) := Lib.hid (by
            rw [List.reverse_cons]
            exact TOw.push HU1.out HU2.out HU3.out HRA.out (by rw [List.length_reverse, HPP.out, HXX.out]; exact HO5.out) HG5.out)
          go_roundw
        all_goals first | exact ⟨j, (j : Int) - 1, _, .nil :: St, A5, c5, by omega, rfl, Lib.hid rfl, by rw [List.length_cons, HPP.out], HDJ, HVN, HTF, HNN, Lib.hid (by rw [List.length_cons, HPP.out]; omega), hzf⟩ | (simp [intOf] <;> omega) | trace_state
      · have hr0 := hrx _ hy
        rw [hr0] at HMY c0' c1'
        dsimp only at HMY c0' c1'
        clear hr0 hrx hy HRR
        have HF : Hid (fE ⟨1, (v : Int)⟩ = 0) := Lib.hid rfl
        rw [HF.out] at HMY
        clear HF
        subst hes
        have hv : vals s es St := HV.out
        have HVV := Lib.hid hv
        obtain ⟨p, hp⟩ : ∃ p, St.length = p := ⟨_, rfl⟩
        have hpL : p + 0 = p := rfl
        obtain ⟨St', hSt⟩ : ∃ St', St = St' := ⟨St, rfl⟩
        subst hSt
        clear hv
        obtain ⟨L, hL⟩ : ∃ L, St.length = L := ⟨_, rfl⟩
        have hLp : L = p + 0 := by rw [← hL, ← hp]; rfl
        rw [hL] at hLn ⊢
        have HNS : Hid (∀ t ∈ St, t.nodes ≤ 2000) := Lib.hid (fun t ht => HN.out t ht)
        have hLN2 : p + 0 + (j + 1) ≤ n := by have := HLN.out; rw [hL, hLp] at this; exact this
        have w2 : IntKind.i64.wrap ((L : Int) - 1) = (L : Int) - 1 := IntWalk.i64_in _ (by omega)
        have w3 : IntKind.i64.wrap ((L : Int) - 0) = (p : Int) := by rw [show (L : Int) - 0 = (p : Int) by omega]; exact IntWalk.i64_in _ (by omega)
        have HTC : Hid (TOw W1 w.heap.size KA kc St.reverse) := Lib.hid HT1.out
        have hkc : L ≤ kc := by obtain ⟨us, h1, h2, _⟩ := HT1.out; have h3 := h2.le; rw [List.length_reverse, hL] at h3; exact h3
        have HPP := Lib.hid hp
        have hpk : p ≤ kc := by omega
        obtain rfl : p = L := by omega
        clear hLp hp hL
        obtain ⟨tv, htv⟩ : ∃ tv, s[v]? = some tv := ⟨s[v]'(by rw [H6.out]; omega), List.getElem?_eq_getElem (by rw [H6.out]; omega)⟩
        have HEV0 : Hid ((Ex.var v).ev s = some tv) := Lib.hid (by show some (s.getD v .nil) = some tv; rw [List.getD_eq_getElem?_getD, htv]; rfl)
        have hxn : tv.nodes ≤ 2000 := HSN.out tv (List.mem_of_getElem? htv)
        obtain ⟨u, sb, so, hr, rfl, hsb, hcv⟩ := HST0.out.pick htv
        obtain ⟨uA, uc, uxs⟩ := u
        obtain rfl : uxs = tv.enc := hr.1
        dsimp only at hcv
        have HRW := Lib.hid hr
        have j1 : (0 : Int) ≤ (v : Int) := by omega
        have j2 : (v : Int) < 6 := by omega
        clear hr htv
        go_upto_region 7 with fail
        rw [← HW1.out]
        go_upto_region 20 with (go_at_call 160; refine HMY.out.mono ?_; rintro e w' ⟨rfl, rfl⟩)
        obtain ⟨X, hX⟩ : ∃ X, (tv : Tr).nodes = X := ⟨_, rfl⟩
        have HXX := Lib.hid hX
        rw [hX] at hxn ⊢
        clear hX
        have k5 : ¬ (X : Int) > 2000 := by omega
        have k6 : ¬ (kc : Int) < (p : Int) := by omega
        have k7 : (p : Int) ≤ (kc : Int) := by omega
        have hloW : w.heap.size ≤ W1.heap.size := HZ1.out.size
        have HVN := Lib.hid (vals_push HVV.out HEV0.out)
        have HNN : Hid (∀ t ∈ (tv :: St), t.nodes ≤ 2000) := Lib.hid (fun t ht => by
          rcases List.mem_cons.1 ht with h | h
          · rw [h, HXX.out]; exact hxn
          · exact HNS.out t h)
        have hza : Below W1.heap.size W1 (W1.alloc (.cells #[.slice uA X uc] 43)) := (Below.refl _ _).alloc (Nat.le_refl _) _
        obtain ⟨us, hus1, hus2, hus3⟩ := HTC.out.below hza
        have HU1 := Lib.hid hus1
        have HU2 := Lib.hid hus2
        have HU3 := Lib.hid hus3
        have HRA := Lib.hid (HRW.out.kb (KB.below hza))
        rw [List.length_reverse, HPP.out] at hus2
        have HOW := Lib.hid hus2
        clear hus1 hus2 hus3 hza
        go_wp2_with (at_builtin; refine wpList_append_Own rfl (.tmp 92) (.tmp 94) rfl elBBs (lo := w.heap.size) rfl HOW.out rfl (Rd.new1 W1 _ _) (by intro u hu; simp at hu; subst hu; rfl) (by omega) (by simp only [maxLen]; omega) (by simp; omega) ?_; intro A5 c5 w5 o5 hg5 _; have HO5 := Lib.hid o5; have HG5 := Lib.hid hg5)
        all_goals
          have hzf : Below w.heap.size w w5 := HOW.out.below_of (HZ1.out.alloc hloW _) HG5.out (by simp; omega)
          have HTF : Hid (TOw w5 w.heap.size A5 c5 ((tv :: St).reverse)) := Lib.hid (by
            rw [List.reverse_cons]
            exact TOw.push HU1.out HU2.out HU3.out HRA.out (by rw [List.length_reverse, HPP.out, HXX.out]; exact HO5.out) HG5.out)
          go_roundw
        all_goals first | exact ⟨j, (j : Int) - 1, _, tv :: St, A5, c5, by omega, rfl, Lib.hid rfl, by rw [List.length_cons, HPP.out], HDJ, HVN, HTF, HNN, Lib.hid (by rw [List.length_cons, HPP.out]; omega), hzf⟩ | (simp [intOf] <;> omega) | trace_state
      · have hr0 := hrx _ hy
        rw [hr0] at HMY c0' c1'
        dsimp only at HMY c0' c1'
        clear hr0 hrx hy HRR
        have HF : Hid (fE ⟨2, 0⟩ = 2) := Lib.hid rfl
        rw [HF.out] at HMY
        clear HF
        subst hes
        obtain ⟨xa, St1, hSt, hva, hv1⟩ := vals_cons HV.out
        subst hSt
        obtain ⟨xb, St', hSt, hvb, hv⟩ := vals_cons hv1
        subst hSt
        have HVV := Lib.hid hv
        have HVA := Lib.hid hva
        have HVB := Lib.hid hvb
        have HXA := Lib.hid (HN.out xa (by simp))
        have HXB := Lib.hid (HN.out xb (by simp))
        clear hva hvb hv1
        obtain ⟨p, hp⟩ : ∃ p, St'.length = p := ⟨_, rfl⟩
        clear hv
        obtain ⟨L, hL⟩ : ∃ L, (xa :: xb :: St').length = L := ⟨_, rfl⟩
        have hLp : L = p + 2 := by rw [← hL, ← hp]; rfl
        rw [hL] at hLn ⊢
        have HNS : Hid (∀ t ∈ St', t.nodes ≤ 2000) := Lib.hid (fun t ht => HN.out t (List.mem_cons_of_mem _ (List.mem_cons_of_mem _ ht)))
        have hLN2 : p + 2 + (j + 1) ≤ n := by have := HLN.out; rw [hL, hLp] at this; exact this
        obtain ⟨q, hq⟩ : ∃ q, p + 1 = q := ⟨_, rfl⟩
        have w2 : IntKind.i64.wrap ((L : Int) - 1) = (q : Int) := by rw [show (L : Int) - 1 = (q : Int) by omega]; exact IntWalk.i64_in _ (by omega)
        have w4 : IntKind.i64.wrap ((q : Int) - 1) = (p : Int) := by rw [show (q : Int) - 1 = (p : Int) by omega]; exact IntWalk.i64_in _ (by omega)
        have j1 : (0 : Int) ≤ (q : Int) := by omega
        have j2 : (q : Int) < (L : Int) := by omega
        have j3 : (0 : Int) ≤ (p : Int) := by omega
        have j4 : (p : Int) < (L : Int) := by omega
        have w3 : IntKind.i64.wrap ((L : Int) - 2) = (p : Int) := by rw [show (L : Int) - 2 = (p : Int) by omega]; exact IntWalk.i64_in _ (by omega)
        have HTC : Hid (TOw W1 w.heap.size KA kc St'.reverse) := Lib.hid (by have h := HT1.out; rw [List.reverse_cons, List.reverse_cons, List.append_assoc] at h; exact h.cut)
        have hkc : L ≤ kc := by obtain ⟨us, h1, h2, _⟩ := HT1.out; have h3 := h2.le; rw [List.length_reverse, hL] at h3; exact h3
        have HPP := Lib.hid hp
        have hpk : p ≤ kc := by omega
        have HQQ := Lib.hid hq
        have hqp : p < q := by omega
        clear hq
        have HLP := Lib.hid hLp
        clear hLp hp hL
        obtain ⟨u, kb, ko, hra, hKA, hkb, hca⟩ := HT1.out.rd.pick (k := q) (t := xa) (by rw [List.reverse_cons, List.getElem?_append_right (by simp; have := HQQ.out; have := HPP.out; omega)]; simp [← HQQ.out, ← HPP.out])
        obtain ⟨u2, kb2, ko2, hrb, hKA2, _, hcb⟩ := HT1.out.rd.pick (k := p) (t := xb) (by rw [List.reverse_cons, List.reverse_cons, List.append_assoc, List.getElem?_append_right (by simp; have := HPP.out; omega)]; simp [← HPP.out])
        rw [hKA] at hKA2
        simp only [Option.some.injEq, Addr.mk.injEq, and_true] at hKA2
        obtain ⟨rfl, rfl⟩ := hKA2
        subst hKA
        obtain ⟨uA, uc, uxs⟩ := u
        obtain ⟨vA, vc, vxs⟩ := u2
        obtain rfl : uxs = xa.enc := hra.1
        obtain rfl : vxs = xb.enc := hrb.1
        dsimp only at hca hcb
        have HSA := Lib.hid hra.sb
        have HSB2 := Lib.hid hrb.sb
        have HKS : Hid (∀ w', Below W1.heap.size W1 w' → w'.cell? ⟨kb, ko + q, none⟩ = some (.slice uA xa.nodes uc) ∧ w'.cell? ⟨kb, ko + p, none⟩ = some (.slice vA xb.nodes vc)) := Lib.hid (fun w' z => ⟨(z.cell (p := ⟨kb, ko + q, none⟩) hkb).trans hca, (z.cell (p := ⟨kb, ko + p, none⟩) hkb).trans hcb⟩)
        clear hra hrb
        go_upto_region 7 with fail
        rw [← HW1.out]
        obtain ⟨na, hna⟩ : ∃ na, xa.nodes = na := ⟨_, rfl⟩
        obtain ⟨nb, hnb⟩ : ∃ nb, xb.nodes = nb := ⟨_, rfl⟩
        have hna2 : na ≤ 2000 := by rw [← hna]; exact HXA.out
        have hnb2 : nb ≤ 2000 := by rw [← hnb]; exact HXB.out
        have HPA := Lib.hid (fun k => l21Pair_any uA na uc xa.enc vA nb vc xb.enc (W1.drewN k) (by rw [← hna]; exact HSA.out.drewN k) (by rw [← hnb]; exact HSB2.out.drewN k) (by omega) (by omega))
        rw [hna, hnb] at HKS
        rw [hna] at hca
        rw [hnb] at hcb
        have HNX : Hid ((Tr.nd xa xb).nodes = 1 + na + nb) := Lib.hid (by rw [Tr.nodes, hna, hnb])
        clear hna hnb
        go_upto_region 12 with (go_at_call 160; refine HMY.out.mono ?_; rintro e w' ⟨rfl, rfl⟩)
        refine wp_region_held_drew (S := (fun w' => w'.cell? ⟨kb, ko + q, none⟩ = some (.slice uA na uc) ∧ w'.cell? ⟨kb, ko + p, none⟩ = some (.slice vA nb vc))) (by kernel_rfl) ?_ (fun hHeld => ?_)
        · exact HKS.out _ (below_drewN (Below.refl _ _) 1)
        refine wpAnyH_take (i := 0) (v := ?_) rfl (by kernel_rfl) (by kernel_rfl) (by kernel_rfl) (fun _ _ _ h => h) (Or.inl ⟨by rfl, ?_⟩) (by assumption) ?_
        rotate_left
        · intro w hSw
          try dsimp only at hSw
          obtain ⟨hs0_, hs1_⟩ := hSw
          go_simp
          try with_reducible rfl
        try simp only [Act.put, List.setIfInBounds_toArray]
        refine wpAnyH_take (i := 1) (v := ?_) rfl (by kernel_rfl) (by kernel_rfl) (by kernel_rfl) (fun _ _ _ h => h) (Or.inl ⟨by rfl, ?_⟩) (by assumption) ?_
        rotate_left
        · intro w hSw
          try dsimp only at hSw
          obtain ⟨hs0_, hs1_⟩ := hSw
          go_simp
          try with_reducible rfl
        try simp only [Act.put]
        refine wpAnyH_take (i := 2) (v := ?_) rfl (by kernel_rfl) (by kernel_rfl) (by kernel_rfl) (fun _ _ _ h => h) (Or.inl ⟨by rfl, ?_⟩) (by assumption) ?_
        rotate_left
        · intro w hSw
          try dsimp only at hSw
          obtain ⟨hs0_, hs1_⟩ := hSw
          go_simp
          try with_reducible rfl
        try simp only [Act.put]
        refine wpAnyH_take (i := 3) (v := ?_) rfl (by kernel_rfl) (by kernel_rfl) (by kernel_rfl) (fun _ _ _ h => h) (Or.inl ⟨by rfl, ?_⟩) (by assumption) ?_
        rotate_left
        · intro w hSw
          try dsimp only at hSw
          obtain ⟨hs0_, hs1_⟩ := hSw
          go_simp
          try with_reducible rfl
        try simp only [Act.put]
        refine wpAnyH_take (i := 4) (v := ?_) rfl (by kernel_rfl) (by kernel_rfl) (by kernel_rfl) (fun _ _ _ h => h) (Or.inl ⟨by rfl, ?_⟩) (by assumption) ?_
        rotate_left
        · intro w hSw
          try dsimp only at hSw
          obtain ⟨hs0_, hs1_⟩ := hSw
          go_simp
          try with_reducible rfl
        try simp only [Act.put]
        refine wpAnyH_take (i := 5) (v := ?_) rfl (by kernel_rfl) (by kernel_rfl) (by kernel_rfl) (fun _ _ _ h => h) (Or.inl ⟨by rfl, ?_⟩) (by assumption) ?_
        rotate_left
        · intro w hSw
          try dsimp only at hSw
          obtain ⟨hs0_, hs1_⟩ := hSw
          go_simp
          try with_reducible rfl
        try simp only [Act.put]
        refine wpAnyH_take (i := 6) (v := ?_) rfl (by kernel_rfl) (by kernel_rfl) (by kernel_rfl) (fun _ _ _ h => h) (Or.inl ⟨by rfl, ?_⟩) (by assumption) ?_
        rotate_left
        · intro w hSw
          try dsimp only at hSw
          obtain ⟨hs0_, hs1_⟩ := hSw
          go_simp
          try with_reducible rfl
        try simp only [Act.put]
        refine wpAnyH_take (i := 7) (v := ?_) rfl (by kernel_rfl) (by kernel_rfl) (by kernel_rfl) (fun _ _ _ h => h) (Or.inl ⟨by rfl, ?_⟩) (by assumption) ?_
        rotate_left
        · intro w hSw
          try dsimp only at hSw
          obtain ⟨hs0_, hs1_⟩ := hSw
          go_simp
          try with_reducible rfl
        try simp only [Act.put]
        refine wpAnyH_take (i := 8) (v := ?_) rfl (by kernel_rfl) (by kernel_rfl) (by kernel_rfl) (fun _ _ _ h => h) (Or.inl ⟨by rfl, ?_⟩) (by assumption) ?_
        rotate_left
        · intro w hSw
          try dsimp only at hSw
          obtain ⟨hs0_, hs1_⟩ := hSw
          go_simp
          try with_reducible rfl
        try simp only [Act.put]
        try simp only [putAll, markAll, dstAt, Act.put, List.getElem_toArray, List.getElem?_toArray, List.getElem_cons_zero, List.getElem_cons_succ, List.getElem?_cons_zero, List.getElem?_cons_succ, Option.bind_some, List.setIfInBounds_toArray, List.set_cons_zero, List.set_cons_succ]
        refine wpAnyH_ready (rs := [9]) (by kernel_rfl) (by simp) ?_
        refine AllReadyH.cons rfl (fun K hK => ?_) ?_
        · go_simp
          refine (HPA.out 1).mono ?_
          intro e2 W3 hN
          obtain ⟨A3, c3, rfl, o3, z3'⟩ := NewS.tree (t := .nd xa xb) hN
          have z3 : Below W1.heap.size W1 W3 := below_undrew (n := 1) z3'
          rw [HNX.out]
          clear hN z3'
          refine hK.out _ _ ?_ (fun hHeld => ?_)
          · first | exact HKS.out _ z3 | exact HKS.out _ (below_drewN (Below.refl _ _) 1)
          clear hK K
          try simp only [Act.put, List.setIfInBounds_toArray, List.set_cons_zero, List.set_cons_succ]
          try simp only [putAll, markAll, dstAt, Act.put, List.getElem_toArray, List.getElem?_toArray, List.getElem_cons_zero, List.getElem_cons_succ, List.getElem?_cons_zero, List.getElem?_cons_succ, Option.bind_some, List.setIfInBounds_toArray, List.set_cons_zero, List.set_cons_succ]
          refine wpAnyH_ready (rs := [10]) (by kernel_rfl) (by simp) ?_
          refine AllReadyH.cons rfl (fun K hK => ?_) ?_
          · go_simp
            refine hK.out _ _ ?_ (fun hHeld => ?_)
            · first | exact HKS.out _ z3 | exact HKS.out _ (below_drewN (Below.refl _ _) 1)
            clear hK K
            try simp only [Act.put, List.setIfInBounds_toArray, List.set_cons_zero, List.set_cons_succ]
            refine wpAnyH_done (by kernel_rfl) ?_ _
            have HZ3 := Lib.hid (HZ1.out.trans (z3.mono HZ1.out.size))
            have HTC3 := Lib.hid (HTC.out.below z3)
            have HRW := Lib.hid (RowB.of o3)
            clear o3 z3
            by_cases hle : 1 + na + nb ≤ 2000
            rotate_left
            · have HEVN : Hid (ex.ev s = none) := Lib.hid (by
                cases h : ex.ev s with
                | none => rfl
                | some y =>
                  exfalso
                  refine HE0.out (by rw [h]; simp) ?_
                  simp only [Ex.ev, HVA.out, HVB.out]
                  rw [if_neg (by have := HNX.out; rw [Tr.nodes] at this; omega)])
              have k5 : (((1 + na + nb : Nat)) : Int) > 2000 := by omega
              obtain ⟨X, hX⟩ : ∃ X, 1 + na + nb = X := ⟨_, rfl⟩
              rw [hX] at k5 ⊢
              go_wp2_with fail
              rw [HEVN.out]
              exact bodyPost_ret (v := .tuple #[.slice none 0 0, .bool false]) (by simp [results, Try.results150, go_sem]) rfl ⟨HZ3.out, rfl⟩
            have HEV0 : Hid ((Ex.cons a b).ev s = some (.nd xa xb)) := Lib.hid (by
              simp only [Ex.ev, HVA.out, HVB.out]
              rw [if_pos (by have := HNX.out; rw [Tr.nodes] at this; omega)])
            have hxn : (Tr.nd xa xb).nodes ≤ 2000 := by rw [HNX.out]; exact hle
            rw [← HNX.out]
            clear hle
            obtain ⟨X, hX⟩ : ∃ X, ((.nd xa xb) : Tr).nodes = X := ⟨_, rfl⟩
            have HXX := Lib.hid hX
            rw [hX] at hxn ⊢
            clear hX
            have k5 : ¬ (X : Int) > 2000 := by omega
            have k6 : ¬ (kc : Int) < (p : Int) := by omega
            have k7 : (p : Int) ≤ (kc : Int) := by omega
            have hloW : w.heap.size ≤ W3.heap.size := HZ3.out.size
            have HVN := Lib.hid (vals_push HVV.out HEV0.out)
            have HNN : Hid (∀ t ∈ ((.nd xa xb) :: St'), t.nodes ≤ 2000) := Lib.hid (fun t ht => by
              rcases List.mem_cons.1 ht with h | h
              · rw [h, HXX.out]; exact hxn
              · exact HNS.out t h)
            have hza : Below W3.heap.size W3 (W3.alloc (.cells #[.slice A3 X c3] 43)) := (Below.refl _ _).alloc (Nat.le_refl _) _
            obtain ⟨us, hus1, hus2, hus3⟩ := HTC3.out.below hza
            have HU1 := Lib.hid hus1
            have HU2 := Lib.hid hus2
            have HU3 := Lib.hid hus3
            have HRA := Lib.hid (HRW.out.kb (KB.below hza))
            rw [List.length_reverse, HPP.out] at hus2
            have HOW := Lib.hid hus2
            clear hus1 hus2 hus3 hza
            go_wp2_with (at_builtin; refine wpList_append_Own rfl (.tmp 92) (.tmp 94) rfl elBBs (lo := w.heap.size) rfl HOW.out rfl (Rd.new1 W3 _ _) (by intro u hu; simp at hu; subst hu; rfl) (by omega) (by simp only [maxLen]; omega) (by simp; omega) ?_; intro A5 c5 w5 o5 hg5 _; have HO5 := Lib.hid o5; have HG5 := Lib.hid hg5)
            all_goals
              have hzf : Below w.heap.size w w5 := HOW.out.below_of (HZ3.out.alloc hloW _) HG5.out (by simp; omega)
              have HTF : Hid (TOw w5 w.heap.size A5 c5 (((.nd xa xb) :: St').reverse)) := Lib.hid (by
                rw [List.reverse_cons]
                exact TOw.push HU1.out HU2.out HU3.out HRA.out (by rw [List.length_reverse, HPP.out, HXX.out]; exact HO5.out) HG5.out)
              go_roundw
            all_goals first | exact ⟨j, (j : Int) - 1, _, (.nd xa xb) :: St', A5, c5, by omega, rfl, Lib.hid rfl, by rw [List.length_cons, HPP.out], HDJ, HVN, HTF, HNN, Lib.hid (by rw [List.length_cons, HPP.out]; omega), hzf⟩ | (simp [intOf] <;> omega) | trace_state
          exact AllReadyH.nil
        exact AllReadyH.nil
      · have hr0 := hrx _ hy
        rw [hr0] at HMY c0' c1'
        dsimp only at HMY c0' c1'
        clear hr0 hrx hy HRR
        have HF : Hid (fE ⟨3, 0⟩ = 1) := Lib.hid rfl
        rw [HF.out] at HMY
        clear HF
        subst hes
        obtain ⟨xa, St', hSt, hva, hv⟩ := vals_cons HV.out
        have HVV := Lib.hid hv
        have HVA := Lib.hid hva
        have HXA := Lib.hid (HN.out xa (by rw [hSt]; simp))
        obtain ⟨p, hp⟩ : ∃ p, St'.length = p := ⟨_, rfl⟩
        subst hSt
        clear hva
        clear hv
        obtain ⟨L, hL⟩ : ∃ L, (xa :: St').length = L := ⟨_, rfl⟩
        have hLp : L = p + 1 := by rw [← hL, ← hp]; rfl
        rw [hL] at hLn ⊢
        have HNS : Hid (∀ t ∈ St', t.nodes ≤ 2000) := Lib.hid (fun t ht => HN.out t (List.mem_cons_of_mem _ ht))
        have hLN2 : p + 1 + (j + 1) ≤ n := by have := HLN.out; rw [hL, hLp] at this; exact this
        have j3 : (0 : Int) ≤ (p : Int) := by omega
        have j4 : (p : Int) < (L : Int) := by omega
        have w3 : IntKind.i64.wrap ((L : Int) - 1) = (p : Int) := by rw [show (L : Int) - 1 = (p : Int) by omega]; exact IntWalk.i64_in _ (by omega)
        have HTC : Hid (TOw W1 w.heap.size KA kc St'.reverse) := Lib.hid (by have h := HT1.out; rw [List.reverse_cons] at h; exact h.cut)
        have hkc : L ≤ kc := by obtain ⟨us, h1, h2, _⟩ := HT1.out; have h3 := h2.le; rw [List.length_reverse, hL] at h3; exact h3
        have HPP := Lib.hid hp
        have hpk : p ≤ kc := by omega
        have HLP := Lib.hid hLp
        clear hLp hp hL
        obtain ⟨u, kb, ko, hra, hKA, hkb, hca⟩ := HT1.out.rd.pick (k := p) (t := xa) (by rw [List.reverse_cons, List.getElem?_append_right (by simp; have := HPP.out; omega)]; simp [← HPP.out])
        subst hKA
        obtain ⟨uA, uc, uxs⟩ := u
        obtain rfl : uxs = xa.enc := hra.1
        dsimp only at hca
        have HHD := Lib.hid (l21Head_any uA xa.nodes uc xa W1 hra.sb (by have := HXA.out; omega) hra.le)
        have HEV0 : Hid ((Ex.hd a).ev s = some xa.hd) := Lib.hid (by simp only [Ex.ev, HVA.out]; rfl)
        have hxn : xa.hd.nodes ≤ 2000 := Nat.le_trans (hd_nodes xa) HXA.out
        clear hra
        go_upto_region 7 with fail
        rw [← HW1.out]
        go_upto_region 20 with (first | (go_at_call 160; refine HMY.out.mono ?_; rintro e w' ⟨rfl, rfl⟩) | (go_at_call 224; refine HHD.out.mono ?_; intro e W3 hN; obtain ⟨A3, c3, rfl, o3, z3⟩ := hN.tree))
        have HZ3 := Lib.hid (HZ1.out.trans (z3.mono HZ1.out.size))
        have HTC3 := Lib.hid (HTC.out.below z3)
        have HRW := Lib.hid (RowB.of o3)
        clear o3 z3 hN
        obtain ⟨X, hX⟩ : ∃ X, (xa.hd : Tr).nodes = X := ⟨_, rfl⟩
        have HXX := Lib.hid hX
        rw [hX] at hxn ⊢
        clear hX
        have k5 : ¬ (X : Int) > 2000 := by omega
        have k6 : ¬ (kc : Int) < (p : Int) := by omega
        have k7 : (p : Int) ≤ (kc : Int) := by omega
        have hloW : w.heap.size ≤ W3.heap.size := HZ3.out.size
        have HVN := Lib.hid (vals_push HVV.out HEV0.out)
        have HNN : Hid (∀ t ∈ (xa.hd :: St'), t.nodes ≤ 2000) := Lib.hid (fun t ht => by
          rcases List.mem_cons.1 ht with h | h
          · rw [h, HXX.out]; exact hxn
          · exact HNS.out t h)
        have hza : Below W3.heap.size W3 (W3.alloc (.cells #[.slice A3 X c3] 43)) := (Below.refl _ _).alloc (Nat.le_refl _) _
        obtain ⟨us, hus1, hus2, hus3⟩ := HTC3.out.below hza
        have HU1 := Lib.hid hus1
        have HU2 := Lib.hid hus2
        have HU3 := Lib.hid hus3
        have HRA := Lib.hid (HRW.out.kb (KB.below hza))
        rw [List.length_reverse, HPP.out] at hus2
        have HOW := Lib.hid hus2
        clear hus1 hus2 hus3 hza
        go_wp2_with (at_builtin; refine wpList_append_Own rfl (.tmp 92) (.tmp 94) rfl elBBs (lo := w.heap.size) rfl HOW.out rfl (Rd.new1 W3 _ _) (by intro u hu; simp at hu; subst hu; rfl) (by omega) (by simp only [maxLen]; omega) (by simp; omega) ?_; intro A5 c5 w5 o5 hg5 _; have HO5 := Lib.hid o5; have HG5 := Lib.hid hg5)
        all_goals
          have hzf : Below w.heap.size w w5 := HOW.out.below_of (HZ3.out.alloc hloW _) HG5.out (by simp; omega)
          have HTF : Hid (TOw w5 w.heap.size A5 c5 ((xa.hd :: St').reverse)) := Lib.hid (by
            rw [List.reverse_cons]
            exact TOw.push HU1.out HU2.out HU3.out HRA.out (by rw [List.length_reverse, HPP.out, HXX.out]; exact HO5.out) HG5.out)
          go_roundw
        all_goals first | exact ⟨j, (j : Int) - 1, _, xa.hd :: St', A5, c5, by omega, rfl, Lib.hid rfl, by rw [List.length_cons, HPP.out], HDJ, HVN, HTF, HNN, Lib.hid (by rw [List.length_cons, HPP.out]; omega), hzf⟩ | (simp [intOf] <;> omega) | trace_state
      · have hr0 := hrx _ hy
        rw [hr0] at HMY c0' c1'
        dsimp only at HMY c0' c1'
        clear hr0 hrx hy HRR
        have HF : Hid (fE ⟨4, 0⟩ = 1) := Lib.hid rfl
        rw [HF.out] at HMY
        clear HF
        subst hes
        obtain ⟨xa, St', hSt, hva, hv⟩ := vals_cons HV.out
        have HVV := Lib.hid hv
        have HVA := Lib.hid hva
        have HXA := Lib.hid (HN.out xa (by rw [hSt]; simp))
        obtain ⟨p, hp⟩ : ∃ p, St'.length = p := ⟨_, rfl⟩
        subst hSt
        clear hva
        clear hv
        obtain ⟨L, hL⟩ : ∃ L, (xa :: St').length = L := ⟨_, rfl⟩
        have hLp : L = p + 1 := by rw [← hL, ← hp]; rfl
        rw [hL] at hLn ⊢
        have HNS : Hid (∀ t ∈ St', t.nodes ≤ 2000) := Lib.hid (fun t ht => HN.out t (List.mem_cons_of_mem _ ht))
        have hLN2 : p + 1 + (j + 1) ≤ n := by have := HLN.out; rw [hL, hLp] at this; exact this
        have j3 : (0 : Int) ≤ (p : Int) := by omega
        have j4 : (p : Int) < (L : Int) := by omega
        have w3 : IntKind.i64.wrap ((L : Int) - 1) = (p : Int) := by rw [show (L : Int) - 1 = (p : Int) by omega]; exact IntWalk.i64_in _ (by omega)
        have HTC : Hid (TOw W1 w.heap.size KA kc St'.reverse) := Lib.hid (by have h := HT1.out; rw [List.reverse_cons] at h; exact h.cut)
        have hkc : L ≤ kc := by obtain ⟨us, h1, h2, _⟩ := HT1.out; have h3 := h2.le; rw [List.length_reverse, hL] at h3; exact h3
        have HPP := Lib.hid hp
        have hpk : p ≤ kc := by omega
        have HLP := Lib.hid hLp
        clear hLp hp hL
        obtain ⟨u, kb, ko, hra, hKA, hkb, hca⟩ := HT1.out.rd.pick (k := p) (t := xa) (by rw [List.reverse_cons, List.getElem?_append_right (by simp; have := HPP.out; omega)]; simp [← HPP.out])
        subst hKA
        obtain ⟨uA, uc, uxs⟩ := u
        obtain rfl : uxs = xa.enc := hra.1
        dsimp only at hca
        have HHD := Lib.hid (l21Tail_any uA xa.nodes uc xa W1 hra.sb (by have := HXA.out; omega) hra.le)
        have HEV0 : Hid ((Ex.tl a).ev s = some xa.tl) := Lib.hid (by simp only [Ex.ev, HVA.out]; rfl)
        have hxn : xa.tl.nodes ≤ 2000 := Nat.le_trans (tl_nodes xa) HXA.out
        clear hra
        go_upto_region 7 with fail
        rw [← HW1.out]
        go_upto_region 20 with (first | (go_at_call 160; refine HMY.out.mono ?_; rintro e w' ⟨rfl, rfl⟩) | (go_at_call 225; refine HHD.out.mono ?_; intro e W3 hN; obtain ⟨A3, c3, rfl, o3, z3⟩ := hN.tree))
        have HZ3 := Lib.hid (HZ1.out.trans (z3.mono HZ1.out.size))
        have HTC3 := Lib.hid (HTC.out.below z3)
        have HRW := Lib.hid (RowB.of o3)
        clear o3 z3 hN
        obtain ⟨X, hX⟩ : ∃ X, (xa.tl : Tr).nodes = X := ⟨_, rfl⟩
        have HXX := Lib.hid hX
        rw [hX] at hxn ⊢
        clear hX
        have k5 : ¬ (X : Int) > 2000 := by omega
        have k6 : ¬ (kc : Int) < (p : Int) := by omega
        have k7 : (p : Int) ≤ (kc : Int) := by omega
        have hloW : w.heap.size ≤ W3.heap.size := HZ3.out.size
        have HVN := Lib.hid (vals_push HVV.out HEV0.out)
        have HNN : Hid (∀ t ∈ (xa.tl :: St'), t.nodes ≤ 2000) := Lib.hid (fun t ht => by
          rcases List.mem_cons.1 ht with h | h
          · rw [h, HXX.out]; exact hxn
          · exact HNS.out t h)
        have hza : Below W3.heap.size W3 (W3.alloc (.cells #[.slice A3 X c3] 43)) := (Below.refl _ _).alloc (Nat.le_refl _) _
        obtain ⟨us, hus1, hus2, hus3⟩ := HTC3.out.below hza
        have HU1 := Lib.hid hus1
        have HU2 := Lib.hid hus2
        have HU3 := Lib.hid hus3
        have HRA := Lib.hid (HRW.out.kb (KB.below hza))
        rw [List.length_reverse, HPP.out] at hus2
        have HOW := Lib.hid hus2
        clear hus1 hus2 hus3 hza
        go_wp2_with (at_builtin; refine wpList_append_Own rfl (.tmp 92) (.tmp 94) rfl elBBs (lo := w.heap.size) rfl HOW.out rfl (Rd.new1 W3 _ _) (by intro u hu; simp at hu; subst hu; rfl) (by omega) (by simp only [maxLen]; omega) (by simp; omega) ?_; intro A5 c5 w5 o5 hg5 _; have HO5 := Lib.hid o5; have HG5 := Lib.hid hg5)
        all_goals
          have hzf : Below w.heap.size w w5 := HOW.out.below_of (HZ3.out.alloc hloW _) HG5.out (by simp; omega)
          have HTF : Hid (TOw w5 w.heap.size A5 c5 ((xa.tl :: St').reverse)) := Lib.hid (by
            rw [List.reverse_cons]
            exact TOw.push HU1.out HU2.out HU3.out HRA.out (by rw [List.length_reverse, HPP.out, HXX.out]; exact HO5.out) HG5.out)
          go_roundw
        all_goals first | exact ⟨j, (j : Int) - 1, _, xa.tl :: St', A5, c5, by omega, rfl, Lib.hid rfl, by rw [List.length_cons, HPP.out], HDJ, HVN, HTF, HNN, Lib.hid (by rw [List.length_cons, HPP.out]; omega), hzf⟩ | (simp [intOf] <;> omega) | trace_state
      · have hr0 := hrx _ hy
        rw [hr0] at HMY c0' c1'
        dsimp only at HMY c0' c1'
        clear hr0 hrx hy HRR
        have HF : Hid (fE ⟨5, 0⟩ = 2) := Lib.hid rfl
        rw [HF.out] at HMY
        clear HF
        subst hes
        obtain ⟨xa, St1, hSt, hva, hv1⟩ := vals_cons HV.out
        subst hSt
        obtain ⟨xb, St', hSt, hvb, hv⟩ := vals_cons hv1
        subst hSt
        have HVV := Lib.hid hv
        have HVA := Lib.hid hva
        have HVB := Lib.hid hvb
        have HXA := Lib.hid (HN.out xa (by simp))
        have HXB := Lib.hid (HN.out xb (by simp))
        clear hva hvb hv1
        obtain ⟨p, hp⟩ : ∃ p, St'.length = p := ⟨_, rfl⟩
        clear hv
        obtain ⟨L, hL⟩ : ∃ L, (xa :: xb :: St').length = L := ⟨_, rfl⟩
        have hLp : L = p + 2 := by rw [← hL, ← hp]; rfl
        rw [hL] at hLn ⊢
        have HNS : Hid (∀ t ∈ St', t.nodes ≤ 2000) := Lib.hid (fun t ht => HN.out t (List.mem_cons_of_mem _ (List.mem_cons_of_mem _ ht)))
        have hLN2 : p + 2 + (j + 1) ≤ n := by have := HLN.out; rw [hL, hLp] at this; exact this
        obtain ⟨q, hq⟩ : ∃ q, p + 1 = q := ⟨_, rfl⟩
        have w2 : IntKind.i64.wrap ((L : Int) - 1) = (q : Int) := by rw [show (L : Int) - 1 = (q : Int) by omega]; exact IntWalk.i64_in _ (by omega)
        have w4 : IntKind.i64.wrap ((q : Int) - 1) = (p : Int) := by rw [show (q : Int) - 1 = (p : Int) by omega]; exact IntWalk.i64_in _ (by omega)
        have j1 : (0 : Int) ≤ (q : Int) := by omega
        have j2 : (q : Int) < (L : Int) := by omega
        have j3 : (0 : Int) ≤ (p : Int) := by omega
        have j4 : (p : Int) < (L : Int) := by omega
        have w3 : IntKind.i64.wrap ((L : Int) - 2) = (p : Int) := by rw [show (L : Int) - 2 = (p : Int) by omega]; exact IntWalk.i64_in _ (by omega)
        have HTC : Hid (TOw W1 w.heap.size KA kc St'.reverse) := Lib.hid (by have h := HT1.out; rw [List.reverse_cons, List.reverse_cons, List.append_assoc] at h; exact h.cut)
        have hkc : L ≤ kc := by obtain ⟨us, h1, h2, _⟩ := HT1.out; have h3 := h2.le; rw [List.length_reverse, hL] at h3; exact h3
        have HPP := Lib.hid hp
        have hpk : p ≤ kc := by omega
        have HQQ := Lib.hid hq
        have hqp : p < q := by omega
        clear hq
        have HLP := Lib.hid hLp
        clear hLp hp hL
        obtain ⟨u, kb, ko, hra, hKA, hkb, hca⟩ := HT1.out.rd.pick (k := q) (t := xa) (by rw [List.reverse_cons, List.getElem?_append_right (by simp; have := HQQ.out; have := HPP.out; omega)]; simp [← HQQ.out, ← HPP.out])
        obtain ⟨u2, kb2, ko2, hrb, hKA2, _, hcb⟩ := HT1.out.rd.pick (k := p) (t := xb) (by rw [List.reverse_cons, List.reverse_cons, List.append_assoc, List.getElem?_append_right (by simp; have := HPP.out; omega)]; simp [← HPP.out])
        rw [hKA] at hKA2
        simp only [Option.some.injEq, Addr.mk.injEq, and_true] at hKA2
        obtain ⟨rfl, rfl⟩ := hKA2
        subst hKA
        obtain ⟨uA, uc, uxs⟩ := u
        obtain ⟨vA, vc, vxs⟩ := u2
        obtain rfl : uxs = xa.enc := hra.1
        obtain rfl : vxs = xb.enc := hrb.1
        dsimp only at hca hcb
        have HSA := Lib.hid hra.sb
        have HSB2 := Lib.hid hrb.sb
        have HKS : Hid (∀ w', Below W1.heap.size W1 w' → w'.cell? ⟨kb, ko + q, none⟩ = some (.slice uA xa.nodes uc) ∧ w'.cell? ⟨kb, ko + p, none⟩ = some (.slice vA xb.nodes vc)) := Lib.hid (fun w' z => ⟨(z.cell (p := ⟨kb, ko + q, none⟩) hkb).trans hca, (z.cell (p := ⟨kb, ko + p, none⟩) hkb).trans hcb⟩)
        clear hra hrb
        go_upto_region 7 with fail
        rw [← HW1.out]
        obtain ⟨na, hna⟩ : ∃ na, xa.nodes = na := ⟨_, rfl⟩
        obtain ⟨nb, hnb⟩ : ∃ nb, xb.nodes = nb := ⟨_, rfl⟩
        have hna2 : na ≤ 2000 := by rw [← hna]; exact HXA.out
        have hnb2 : nb ≤ 2000 := by rw [← hnb]; exact HXB.out
        have HCM := Lib.hid (fun k => l21Compare_any uA na uc xa.enc vA nb vc xb.enc (W1.drewN k) (by rw [← hna]; exact HSA.out.drewN k) (by rw [← hnb]; exact HSB2.out.drewN k) (by omega) (by omega))
        rw [hna] at hca
        rw [hnb] at hcb
        have HCE := Lib.hid (cmpB_eq xa.enc xb.enc)
        obtain ⟨cv, hcv⟩ : ∃ cv, cmpB xa.enc xb.enc = cv := ⟨_, rfl⟩
        rw [hcv] at HCM HCE
        clear hna hnb hcv HKS
        go_upto_region 18 with (go_at_call 160; refine HMY.out.mono ?_; rintro e w' ⟨rfl, rfl⟩)
        by_cases hxy : xa = xb
        · have e1 : (cv == 0) = true := by rw [HCE.out, hxy]; simp
          have HEV0 : Hid ((Ex.same a b).ev s = some (.nd .nil .nil)) := Lib.hid (by simp only [Ex.ev, HVA.out, HVB.out]; rw [if_pos hxy])
          clear hxy
          go_quiet ((go_at_call 226; exact quiet_1 (HCM.out _)))
          obtain ⟨V, hV⟩ : ∃ V, V = W1.drewN nq := ⟨_, rfl⟩
          rw [← hV]
          have zV : Below W1.heap.size W1 V := by rw [hV]; exact below_drewN (Below.refl _ _) _
          have HZV := Lib.hid (HZ1.out.trans (zV.mono HZ1.out.size))
          have HTV := Lib.hid (HTC.out.below zV)
          clear hV zV hca hcb
          obtain ⟨W3, hW_⟩ : ∃ W_, W_ = V.alloc (.cells #[.bool true, .bool false, .bool false] 4) := ⟨_, rfl⟩
          have b3 : Blk W3 V.heap.size 4 #[.bool true, .bool false, .bool false] := by rw [hW_]; exact Blk.new V _ _
          have z3 : Below V.heap.size V W3 := by rw [hW_]; exact (Below.refl _ _).alloc (Nat.le_refl _) _
          have HW3 := Lib.hid hW_
          clear hW_
          have HZ3 := Lib.hid (HZV.out.trans (z3.mono HZV.out.size))
          have HTC3 := Lib.hid (HTV.out.below z3)
          have HRW : Hid (RowB W3 (.nd .nil .nil) ⟨some ⟨V.heap.size, 0, none⟩, 3, (Tr.nd .nil .nil).enc⟩) := Lib.hid (by rw [HW3.out]; exact RowB.of (t := .nd .nil .nil) (lo := 0) (Own.lit V #[.bool true, .bool false, .bool false] _ 3 1 0 rfl (by simp [maxLen]) (Nat.zero_le _)))
          clear b3 z3
          go_upto_region 20 with fail
          rw [← HW3.out]
          have HXX : Hid (((.nd .nil .nil) : Tr).nodes = 3) := Lib.hid rfl
          have hxn : 3 ≤ 2000 := by omega
          have k6 : ¬ (kc : Int) < (p : Int) := by omega
          have k7 : (p : Int) ≤ (kc : Int) := by omega
          have hloW : w.heap.size ≤ W3.heap.size := HZ3.out.size
          have HVN := Lib.hid (vals_push HVV.out HEV0.out)
          have HNN : Hid (∀ t ∈ ((.nd .nil .nil) :: St'), t.nodes ≤ 2000) := Lib.hid (fun t ht => by
            rcases List.mem_cons.1 ht with h | h
            · rw [h, HXX.out]; exact hxn
            · exact HNS.out t h)
          have hza : Below W3.heap.size W3 (W3.alloc (.cells #[.slice (some ⟨V.heap.size, 0, none⟩) 3 3] 43)) := (Below.refl _ _).alloc (Nat.le_refl _) _
          obtain ⟨us, hus1, hus2, hus3⟩ := HTC3.out.below hza
          have HU1 := Lib.hid hus1
          have HU2 := Lib.hid hus2
          have HU3 := Lib.hid hus3
          have HRA := Lib.hid (HRW.out.kb (KB.below hza))
          rw [List.length_reverse, HPP.out] at hus2
          have HOW := Lib.hid hus2
          clear hus1 hus2 hus3 hza
          go_wp2_with (at_builtin; refine wpList_append_Own rfl (.tmp 92) (.tmp 94) rfl elBBs (lo := w.heap.size) rfl HOW.out rfl (Rd.new1 W3 _ _) (by intro u hu; simp at hu; subst hu; rfl) (by omega) (by simp only [maxLen]; omega) (by simp; omega) ?_; intro A5 c5 w5 o5 hg5 _; have HO5 := Lib.hid o5; have HG5 := Lib.hid hg5)
          all_goals
            have hzf : Below w.heap.size w w5 := HOW.out.below_of (HZ3.out.alloc hloW _) HG5.out (by simp; omega)
            have HTF : Hid (TOw w5 w.heap.size A5 c5 (((.nd .nil .nil) :: St').reverse)) := Lib.hid (by
              rw [List.reverse_cons]
              exact TOw.push HU1.out HU2.out HU3.out HRA.out (by rw [List.length_reverse, HPP.out, HXX.out]; exact HO5.out) HG5.out)
            go_roundw
          all_goals first | exact ⟨j, (j : Int) - 1, _, (.nd .nil .nil) :: St', A5, c5, by omega, rfl, Lib.hid rfl, by rw [List.length_cons, HPP.out], HDJ, HVN, HTF, HNN, Lib.hid (by rw [List.length_cons, HPP.out]; omega), hzf⟩ | (simp [intOf] <;> omega) | trace_state
        · have e1 : (cv == 0) = false := by rw [HCE.out]; exact decide_eq_false (fun e => hxy (enc_inj e))
          have HEV0 : Hid ((Ex.same a b).ev s = some .nil) := Lib.hid (by simp only [Ex.ev, HVA.out, HVB.out]; rw [if_neg hxy])
          clear hxy
          go_quiet ((go_at_call 226; exact quiet_1 (HCM.out _)))
          obtain ⟨V, hV⟩ : ∃ V, V = W1.drewN nq := ⟨_, rfl⟩
          rw [← hV]
          have zV : Below W1.heap.size W1 V := by rw [hV]; exact below_drewN (Below.refl _ _) _
          have HZV := Lib.hid (HZ1.out.trans (zV.mono HZ1.out.size))
          have HTV := Lib.hid (HTC.out.below zV)
          have HRW : Hid (RowB V .nil ⟨some ⟨wr.heap.size, 0, none⟩, 1, Tr.nil.enc⟩) := Lib.hid (RowB.kb (w := W1) (by rw [HW1.out]; exact RowB.of (t := .nil) (lo := 0) (Own.lit wr #[.bool false] _ 1 1 0 rfl (by simp [maxLen]) (Nat.zero_le _))) (KB.below zV))
          clear hV zV hca hcb
          go_upto_region 20 with fail
          have HXX : Hid ((.nil : Tr).nodes = 1) := Lib.hid rfl
          have hxn : 1 ≤ 2000 := by omega
          have k6 : ¬ (kc : Int) < (p : Int) := by omega
          have k7 : (p : Int) ≤ (kc : Int) := by omega
          have hloW : w.heap.size ≤ V.heap.size := HZV.out.size
          have HVN := Lib.hid (vals_push HVV.out HEV0.out)
          have HNN : Hid (∀ t ∈ (.nil :: St'), t.nodes ≤ 2000) := Lib.hid (fun t ht => by
            rcases List.mem_cons.1 ht with h | h
            · rw [h, HXX.out]; exact hxn
            · exact HNS.out t h)
          have hza : Below V.heap.size V (V.alloc (.cells #[.slice (some ⟨wr.heap.size, 0, none⟩) 1 1] 43)) := (Below.refl _ _).alloc (Nat.le_refl _) _
          obtain ⟨us, hus1, hus2, hus3⟩ := HTV.out.below hza
          have HU1 := Lib.hid hus1
          have HU2 := Lib.hid hus2
          have HU3 := Lib.hid hus3
          have HRA := Lib.hid (HRW.out.kb (KB.below hza))
          rw [List.length_reverse, HPP.out] at hus2
          have HOW := Lib.hid hus2
          clear hus1 hus2 hus3 hza
          go_wp2_with (at_builtin; refine wpList_append_Own rfl (.tmp 92) (.tmp 94) rfl elBBs (lo := w.heap.size) rfl HOW.out rfl (Rd.new1 V _ _) (by intro u hu; simp at hu; subst hu; rfl) (by omega) (by simp only [maxLen]; omega) (by simp; omega) ?_; intro A5 c5 w5 o5 hg5 _; have HO5 := Lib.hid o5; have HG5 := Lib.hid hg5)
          all_goals
            have hzf : Below w.heap.size w w5 := HOW.out.below_of (HZV.out.alloc hloW _) HG5.out (by simp; omega)
            have HTF : Hid (TOw w5 w.heap.size A5 c5 ((.nil :: St').reverse)) := Lib.hid (by
              rw [List.reverse_cons]
              exact TOw.push HU1.out HU2.out HU3.out HRA.out (by rw [List.length_reverse, HPP.out, HXX.out]; exact HO5.out) HG5.out)
            go_roundw
          all_goals first | exact ⟨j, (j : Int) - 1, _, .nil :: St', A5, c5, by omega, rfl, Lib.hid rfl, by rw [List.length_cons, HPP.out], HDJ, HVN, HTF, HNN, Lib.hid (by rw [List.length_cons, HPP.out]; omega), hzf⟩ | (simp [intOf] <;> omega) | trace_state
end Go.Proofs.Ytfheepjfpgiaoaa
