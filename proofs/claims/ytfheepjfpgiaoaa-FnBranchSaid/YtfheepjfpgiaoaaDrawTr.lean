/-
  The reference's draws of trees: l21DrawDeep, l21Number, l21List, l21DrawOk.
-/
import Derived.Test.YtfheepjfpgiaoaaTsI
import Derived.Test.YtfheepjfpgiaoaaNowS
import Derived.Test.YtfheepjfpgiaoaaEvW
import Derived.Test.YtfheepjfpgiaoaaDrawWd
namespace Go.Proofs.Ytfheepjfpgiaoaa
open Go.RowKit

/-- How many choices and how many nodes a tree of a depth takes at most. -/
def chD : Nat → Nat
  | 0 => 0
  | d + 1 => 2 + 2 * chD d
def ndD : Nat → Nat
  | 0 => 1
  | d + 1 => 1 + 2 * ndD d
theorem ndD_pos (d : Nat) : 1 ≤ ndD d := by cases d <;> simp only [ndD] <;> omega
theorem chD_mono : ∀ {i j : Nat}, i ≤ j → chD i ≤ chD j
  | 0, _, _ => Nat.zero_le _
  | i + 1, 0, h => absurd h (by omega)
  | i + 1, j + 1, h => by have := chD_mono (show i ≤ j by omega); simp only [chD]; omega
theorem ndD_mono : ∀ {i j : Nat}, i ≤ j → ndD i ≤ ndD j
  | 0, j, _ => ndD_pos j
  | i + 1, 0, h => absurd h (by omega)
  | i + 1, j + 1, h => by have := ndD_mono (show i ≤ j by omega); simp only [ndD]; omega
/-- A tree was drawn. -/
def DrewT (b : Nat) (A : Option Addr) (n c T M : Nat) (w : World) (e : Ending) (w' : World) : Prop :=
  ∃ D d t, e = .returned (.slice D t.nodes d) ∧ Own w' w.heap.size 4 1 D t.nodes d (bools (Tr.enc t)) ∧ t.nodes ≤ M ∧ Src b A n c T w' ∧ Kb b w w'
theorem NewS.tr {w : World} {t : Tr} {e : Ending} {w' : World} (h : NewS w t.enc e w') : ∃ A c, e = .returned (.slice A t.nodes c) ∧ Own w' w.heap.size 4 1 A t.nodes c (bools t.enc) ∧ Below w.heap.size w w' := by
  obtain ⟨A, c, h1, h2, h3⟩ := h
  rw [enc_len] at h1 h2
  exact ⟨A, c, h1, h2, h3⟩
theorem Own.tsb {w : World} {lo n c : Nat} {A : Option Addr} {t : Tr} (h : Own w lo 4 1 A n c (bools t.enc)) : SB w A n t.enc := h.rd
set_option maxRecDepth 100000 in
set_option maxHeartbeats 4000000 in
theorem drawDeep_any (b : Nat) (A : Option Addr) (n c : Nat) (xs : List Int) (hn : n ≤ 9223372036854775807) (hA : ∀ k, blk A = some k → k ≠ b) : ∀ (d T : Nat) (w : World), d ≤ 20 → SBy w A n xs → Src b A n c T w → b < w.heap.size → T + chD d ≤ 900000000 → ndD d ≤ 10000 →
    Calls Try.prog 166 #[.pointer (some ⟨b, 0, none⟩), .int .i64 (d : Int)] w (DrewT b A n c (T + chD d) (ndD d) w) := by
  intro d
  induction d with
  | zero =>
    intro T w hd hx hs hb hT hM
    have HS := Lib.hid hs
    clear hs hx
    go_enter Try.func166, Try.ntmps166
    go_wp2_with (go_at_call 232; refine (l21Nil_any _).mono ?_; rintro e w1 h1; obtain ⟨D, d, rfl, o1, z1⟩ := NewS.tr (t := .nil) h1)
    go_ret
    exact ⟨D, d, .nil, rfl, o1, Nat.le_refl _, HS.out.below z1, Kb.of_below z1⟩
  | succ d ih =>
    intro T w hd hx hs hb hT hM
    have HX := Lib.hid hx
    have HA := Lib.hid hA
    have HS := Lib.hid hs
    have HI := Lib.hid ih
    have i0 : ¬ (((d + 1 : Nat) : Int) ≤ 0) := by omega
    have i1 : IntKind.i64.wrap (((d + 1 : Nat) : Int) - 1) = (d : Int) := by rw [IntWalk.i64_in _ (by omega)]; omega
    have hch : T + 2 + chD d + chD d ≤ 900000000 := by have : chD (d + 1) = 2 + 2 * chD d := rfl; omega
    have hnd : 1 + 2 * ndD d ≤ 10000 := hM
    have HCH : Hid (chD (d + 1) = 2 + 2 * chD d) := Lib.hid rfl
    have HND : Hid (ndD (d + 1) = 1 + 2 * ndD d) := Lib.hid rfl
    have HP := Lib.hid (ndD_pos d)
    obtain ⟨D1, hD1⟩ : ∃ D1 : Nat, D1 = d + 1 := ⟨_, rfl⟩
    rw [← hD1] at i0 i1 HCH HND ⊢
    clear hx hA hs ih hD1 hM hT
    go_enter Try.func166, Try.ntmps166
    go_wp2_with fail
    refine (one_any b A n c T xs 3 _ HX.out HA.out HS.out (by omega) hn (by omega) (by omega)).mono ?_
    rintro e1 w1 ⟨y, rfl, hs1, hk1⟩
    cases y with
    | true =>
      have HS1 := Lib.hid hs1
      have HK1 := Lib.hid hk1
      clear hs1 hk1
      go_wp2_with (go_at_call 232; refine (l21Nil_any _).mono ?_; rintro e w2 h1; obtain ⟨D, dd, rfl, o1, z1⟩ := NewS.tr (t := .nil) h1)
      go_ret
      exact ⟨D, dd, .nil, rfl, o1.mono HK1.out.size, by rw [HND.out]; have := HP.out; show 1 ≤ _; omega, (HS1.out.below z1).le (by rw [HCH.out]; omega), HK1.out.trans (Kb.of_below z1)⟩
    | false =>
      have HS1 := Lib.hid hs1
      have HK1 := Lib.hid hk1
      have HX1 := Lib.hid (HX.out.kb hk1 HA.out)
      have hb1 : b < w1.heap.size := Nat.lt_of_lt_of_le hb hk1.size
      clear hs1 hk1
      go_wp2_with fail
      refine (HI.out (T + 2) w1 (by omega) HX1.out HS1.out hb1 (by omega) (by omega)).mono ?_
      rintro e2 w2 ⟨Da, da, ta, rfl, oa, ha, hs2, hk2⟩
      have HX2 := Lib.hid (HX1.out.kb hk2 HA.out)
      have HS2 := Lib.hid hs2
      have HK2 := Lib.hid (HK1.out.trans hk2)
      have hb2 : b < w2.heap.size := Nat.lt_of_lt_of_le hb1 hk2.size
      have HOA := Lib.hid oa
      clear hs2 hk2 oa HX1 HS1 HK1
      go_wp2_with fail
      refine (HI.out (T + 2 + chD d) w2 (by omega) HX2.out HS2.out hb2 (by omega) (by omega)).mono ?_
      rintro e3 w3 ⟨Db, db, tb, rfl, ob, hbn, hs3, hk3⟩
      have HS3 := Lib.hid hs3
      have HK3 := Lib.hid (HK2.out.trans hk3)
      have HOA3 := Lib.hid (hk3.own' HOA.out hb1).tsb
      have HOB := Lib.hid ob.tsb
      clear hs3 hk3 ob HX2 HS2 HK2 HOA
      go_wp2_with (go_at_call 223; refine (l21Pair_any _ _ _ _ _ _ _ _ _ HOA3.out HOB.out (by omega) (by omega)).mono ?_; rintro e4 w4 h4; obtain ⟨D, dd, rfl, o4, z4⟩ := NewS.tr (t := .nd ta tb) h4)
      go_ret
      exact ⟨D, dd, .nd ta tb, rfl, o4.mono HK3.out.size, by rw [HND.out, Tr.nodes]; omega, (HS3.out.below z4).le (by rw [HCH.out]; omega), HK3.out.trans (Kb.of_below z4)⟩
/-- The tree of a list. -/
def lstT : List Tr → Tr
  | [] => .nil
  | t :: ts => .nd t (lstT ts)
def lstB (ts : List Tr) : List Bool := ts.flatMap fun t => true :: t.enc
theorem lstT_enc : ∀ ts : List Tr, (lstT ts).enc = lstB ts ++ [false]
  | [] => rfl
  | t :: ts => by simp [lstT, lstB, Tr.enc, lstT_enc ts]
theorem lstB_next {ts : List Tr} {k : Nat} {t : Tr} (h : ts[k]? = some t) : lstB (ts.take (k + 1)) = lstB (ts.take k) ++ (true :: t.enc) := by
  obtain ⟨hk, rfl⟩ := List.getElem?_eq_some_iff.1 h
  unfold lstB
  rw [List.take_succ_eq_append_getElem hk, List.flatMap_append, List.flatMap_singleton]
theorem lstT_nodes {ts : List Tr} {M : Nat} (h : ∀ t ∈ ts, t.nodes ≤ M) : (lstT ts).nodes ≤ 1 + ts.length * (M + 1) := by
  induction ts with
  | nil => simp [lstT, Tr.nodes]
  | cons t ts ih =>
    have h1 := ih (fun x hx => h x (List.mem_cons_of_mem _ hx))
    have h2 := h t List.mem_cons_self
    simp only [lstT, Tr.nodes, List.length_cons, Nat.add_mul]
    omega
/-- A tree in new memory. -/
def NewT (w : World) (t : Tr) (e : Ending) (w' : World) : Prop := ∃ A c, e = .returned (.slice A t.nodes c) ∧ Own w' w.heap.size 4 1 A t.nodes c (bools t.enc) ∧ Below w.heap.size w w'
theorem two_rd (w : World) : Rd (w.alloc (.cells #[.bool true, .bool false] 4)) 1 (some ⟨w.heap.size, 0, none⟩) 2 [.bool true, .bool false] := (Own.lit w #[.bool true, .bool false] 4 2 1 w.heap.size rfl (by simp [maxLen]) (Nat.le_refl _)).rd
set_option maxRecDepth 100000 in
set_option maxHeartbeats 4000000 in
theorem number_any (m : Nat) (w : World) (hm : m ≤ 1000) : Calls Try.prog 165 #[.int .i64 (m : Int)] w (NewT w (lstT (List.replicate m .nil))) := by
  have o0 := Own.lit0 w 4 1
  have z0 : Below w.heap.size w (w.alloc (.cells #[] 4)) := (Below.refl _ _).alloc (Nat.le_refl _) _
  have HO0 := Lib.hid o0
  clear o0
  go_enter Try.func165, Try.ntmps165
  go_wp2_with fail
  go_loopw [0, 3] (fun s0 s3 wr => ∃ (q : Nat) (A : Option Addr) (c : Nat) (os : List Bool), q ≤ m ∧ s0 = .int .i64 (q : Int) ∧ s3 = .slice A os.length c ∧ Hid (os = lstB (List.replicate (m - q) .nil)) ∧ Hid (os.length = 2 * (m - q)) ∧ Hid (Own wr w.heap.size 4 1 A os.length c (bools os)) ∧ Below w.heap.size w wr) (fun s0 _ _ => (intOf s0).toNat)
  case atStart => exact ⟨m, _, 0, [], Nat.le_refl _, rfl, rfl, Lib.hid (by simp [lstB]), Lib.hid (by simp), HO0, z0⟩
  case round =>
    obtain ⟨q, A, c, os, hq, rfl, rfl, HE, HL, HO, hz⟩ := hrel
    clear HO0 z0
    have hlo := hz.size
    by_cases hq0 : 0 < q
    · have i1 : (0 : Int) < (q : Int) := by omega
      have i2 : IntKind.i64.wrap ((q : Int) - 1) = ((q - 1 : Nat) : Int) := by rw [IntWalk.i64_in _ (by omega)]; omega
      have ho1 := HO.out.alloc (.cells #[.bool true, .bool false] 4)
      have HLm : Hid (os.length ≤ 2000) := Lib.hid (by have := HL.out; omega)
      have hlm := HLm.out
      go_wp2_with (at_builtin; refine wpList_append_Own rfl (.tmp 9) (.tmp 10) rfl elBool (lo := w.heap.size) rfl ho1 rfl (two_rd wr) (by intro u hu; simp at hu; rcases hu with rfl | rfl <;> rfl) (by omega) (by simp only [maxLen]; omega) (by simp; omega) ?_; intro A5 c5 w5 o5 hg5 _; have HO5 := Lib.hid o5; have HG5 := Lib.hid hg5)
      go_roundw
      case rel =>
        have e1 : os.length + 2 = (os ++ [true, false]).length := by simp
        refine ⟨q - 1, A5, c5, os ++ [true, false], by omega, by go_num, by rw [e1], Lib.hid ?_, Lib.hid ?_, Lib.hid ?_, (HO.out.alloc _).below_of (hz.alloc hlo _) HG5.out (by simp; omega)⟩
        · have h1 := HE.out
          rw [h1, show m - (q - 1) = (m - q) + 1 by omega, List.replicate_succ']
          simp [lstB, Tr.enc]
        · rw [← e1, HL.out]; omega
        · have h := HO5.out
          rw [← e1]
          simpa [bools] using h
      case measure => (simp [intOf] <;> omega)
    · obtain rfl : q = 0 := by omega
      have i1 : ¬ ((0 : Int) < ((0 : Nat) : Int)) := by omega
      have ho1 := HO.out.alloc (.cells #[.bool false] 4)
      have hlm : os.length ≤ 2000 := by have := HL.out; omega
      go_wp2_with (at_builtin; refine wpList_append_Own rfl (.tmp 12) (.tmp 13) rfl elBool (lo := w.heap.size) rfl ho1 rfl (Rd.new1 _ (.bool false) _) (by simp [Value.oneCell']) (by omega) (by simp only [maxLen]; omega) (by simp; omega) ?_; intro A5 c5 w5 o5 hg5 _; have HO5 := Lib.hid o5; have HG5 := Lib.hid hg5)
      go_ret
      have e1 : (lstT (List.replicate m .nil)).enc = os ++ [false] := by rw [lstT_enc, HE.out, Nat.sub_zero]
      have e2 : (lstT (List.replicate m .nil)).nodes = os.length + 1 := by rw [← enc_len, e1]; simp
      refine ⟨A5, c5, by rw [e2]; rfl, ?_, (HO.out.alloc _).below_of (hz.alloc hlo _) HG5.out (by simp; omega)⟩
      rw [e2, e1]
      simpa [bools] using HO5.out
set_option maxRecDepth 100000 in
set_option maxHeartbeats 4000000 in
theorem list21_any (A : Option Addr) (c : Nat) (ts : List Tr) (w : World) (hx : TRd w A ts) (hn : ts.length ≤ 100) (hm : ∀ t ∈ ts, t.nodes ≤ 10000) : Calls Try.prog 167 #[.slice A ts.length c] w (NewT w (lstT ts)) := by
  have o0 := Own.lit0 w 4 1
  have z0 : Below w.heap.size w (w.alloc (.cells #[] 4)) := (Below.refl _ _).alloc (Nat.le_refl _) _
  have HO0 := Lib.hid o0
  have HX := Lib.hid hx
  have HM := Lib.hid hm
  obtain ⟨L, hL⟩ : ∃ L, ts.length = L := ⟨_, rfl⟩
  have HLL := Lib.hid hL
  rw [hL] at hn ⊢
  clear o0 hx hm hL
  go_enter Try.func167, Try.ntmps167
  go_wp2_with fail
  go_loopw [3, 4] (fun s3 s4 wr => ∃ (k : Nat) (D : Option Addr) (d : Nat) (os : List Bool), k ≤ L ∧ s4 = .int .i64 (k : Int) ∧ s3 = .slice D os.length d ∧ Hid (os = lstB (ts.take k)) ∧ Hid (os.length ≤ k * 10001) ∧ Hid (Own wr w.heap.size 4 1 D os.length d (bools os)) ∧ Below w.heap.size w wr) (fun _ s4 _ => L - (intOf s4).toNat)
  case atStart => exact ⟨0, _, 0, [], Nat.zero_le _, rfl, rfl, Lib.hid (by simp [lstB]), Lib.hid (by simp), HO0, z0⟩
  case round =>
    obtain ⟨k, D, d, os, hk, rfl, rfl, HE, HL, HO, hz⟩ := hrel
    clear HO0 z0
    have hlo := hz.size
    by_cases hkL : k < L
    · have i1 : (k : Int) < (L : Int) := by omega
      have i0 : (0 : Int) ≤ (k : Int) := by omega
      obtain ⟨t, ht⟩ : ∃ t, ts[k]? = some t := ⟨ts[k]'(by rw [HLL.out]; exact hkL), List.getElem?_eq_getElem _⟩
      have htn := HM.out t (List.mem_of_getElem? ht)
      have HT := Lib.hid ht
      clear ht
      have hlm : os.length ≤ 1000100 := by have := HL.out; have : k * 10001 ≤ 100 * 10001 := Nat.mul_le_mul_right _ (by omega); omega
      go_upto_region 6 with (at_builtin; refine wpList_append_Own rfl (.tmp 12) (.tmp 13) rfl elBool (lo := w.heap.size) rfl (HO.out.alloc _) rfl (Rd.new1 _ (.bool true) _) (by simp [Value.oneCell']) (by omega) (by simp only [maxLen]; omega) (by simp; omega) ?_; intro A5 c5 w5 o5 hg5 _)
      have z5 : Below w.heap.size w w5 := (HO.out.alloc _).below_of (hz.alloc hlo _) hg5 (by simp; omega)
      have hlo5 := z5.size
      obtain ⟨u, b, off, hu, rfl, hbl, hc⟩ := (HX.out.below z5).pick HT.out
      have HU := Lib.hid hu.sb
      clear hg5 hu
      go_wp2_with (at_builtin; refine wpList_append_Own rfl (.tmp 15) (.tmp 19) rfl elBool (lo := w.heap.size) rfl o5 rfl HU.out (bools_one _) (by omega) (by simp only [maxLen]; omega) (by omega) ?_; intro A6 c6 w6 o6 hg6 _; have HO6 := Lib.hid o6; have HG6 := Lib.hid hg6)
      go_roundw
      case rel =>
        have e1 : os.length + 1 + t.nodes = (os ++ (true :: t.enc)).length := by simp [enc_len]; omega
        refine ⟨k + 1, A6, c6, os ++ (true :: t.enc), by omega, by go_num, by rw [← e1], Lib.hid ?_, Lib.hid ?_, Lib.hid ?_, o5.below_of z5 HG6.out hlo5⟩
        · rw [lstB_next HT.out, HE.out]
        · rw [← e1]; have := HL.out; rw [Nat.add_mul]; omega
        · have h := HO6.out
          rw [← e1]
          simpa [bools] using h
      case measure => (simp [intOf] <;> omega)
    · obtain rfl : k = L := by omega
      have i1 : ¬ ((k : Int) < (k : Int)) := by omega
      have hlm : os.length ≤ 1000100 := by have := HL.out; have : k * 10001 ≤ 100 * 10001 := Nat.mul_le_mul_right _ (by omega); omega
      go_wp2_with (at_builtin; refine wpList_append_Own rfl (.tmp 21) (.tmp 22) rfl elBool (lo := w.heap.size) rfl (HO.out.alloc _) rfl (Rd.new1 _ (.bool false) _) (by simp [Value.oneCell']) (by omega) (by simp only [maxLen]; omega) (by simp; omega) ?_; intro A5 c5 w5 o5 hg5 _; have HO5 := Lib.hid o5; have HG5 := Lib.hid hg5)
      go_ret
      have e1 : (lstT ts).enc = os ++ [false] := by rw [lstT_enc, HE.out, List.take_of_length_le (by rw [HLL.out]; exact Nat.le_refl _)]
      have e2 : (lstT ts).nodes = os.length + 1 := by rw [← enc_len, e1]; simp
      refine ⟨A5, c5, by rw [e2]; rfl, ?_, (HO.out.alloc _).below_of (hz.alloc hlo _) HG5.out (by simp; omega)⟩
      rw [e2, e1]
      simpa [bools] using HO5.out
theorem OBB.kb {w w' : World} {b lo n c : Nat} {e2 e1 : TypeId} {A : Option Addr} {us : List Bl} (h : OBB w lo e2 e1 A n c us) (k : Kb b w w') (hb : b < lo) : OBB w' lo e2 e1 A n c us :=
  ⟨k.own' h.1 hb, fun u hu => k.own' (h.2.1 u hu) hb, h.2.2⟩
/-- Rows of trees that the call owns. -/
def RowsT (w : World) (lo : Nat) (A : Option Addr) (c : Nat) (ts : List Tr) : Prop := NowS w lo A c ts
theorem NowS.kb {w w' : World} {b lo c : Nat} {A : Option Addr} {ts : List Tr} (h : NowS w lo A c ts) (k : Kb b w w') (hb : b < lo) : NowS w' lo A c ts := by
  obtain ⟨us, h1, h2⟩ := h
  exact ⟨us, h1, h2.kb k hb⟩
theorem NowS.alloc {w : World} {lo c : Nat} {A : Option Addr} {ts : List Tr} (h : NowS w lo A c ts) (o : Obj) : NowS (w.alloc o) lo A c ts := h.below ((Below.refl _ _).alloc (Nat.le_refl _) _)
/-- The row as values. -/
theorem NowS.row {w : World} {lo c : Nat} {A : Option Addr} {ts : List Tr} (h : NowS w lo A c ts) : ∃ us, numsB us = ts.map Tr.enc ∧ OBB w lo 43 4 A ts.length c us := h
/-- One row more, apart from all that are there. -/
theorem NowS.pushK {w w2 : World} {lo lo' c : Nat} {A : Option Addr} {s : List Tr} {x : Tr} {A1 A2 : Option Addr} {c1 c2 : Nat} {us : List Bl} (h1 : numsB us = s.map Tr.enc) (h2 : OBB w lo 43 4 A s.length c us) (hlo : lo ≤ lo') (hap : ∀ u ∈ us, ∀ bb, blk u.A = some bb → bb < lo') (ho : Own w lo' 4 1 A1 x.nodes c1 (bools x.enc))
    (hs : Own w2 lo 43 1 A2 (s.length + 1) c2 (us.map Bl.val ++ [.slice A1 x.nodes c1])) (hg : w.grownBy w2 (blk A)) : NowS w2 lo A2 c2 (s ++ [x]) := by
  refine ⟨us ++ [⟨A1, c1, x.enc⟩], by simp only [numsB, List.map_append, List.map_singleton] at h1 ⊢; rw [h1], ?_, ?_, ?_⟩
  · rw [List.length_append, List.map_append, List.map_singleton]
    have e1 : Bl.val ⟨A1, c1, x.enc⟩ = .slice A1 x.nodes c1 := by unfold Bl.val; rw [enc_len]
    rw [e1]; exact hs
  · intro u hu
    rcases List.mem_append.1 hu with h | h
    · exact (h2.2.1 u h).grown_apt h2.1 hg (by decide)
    · rw [List.mem_singleton.1 h]
      show Own _ lo 4 1 A1 x.enc.length c1 (bools x.enc)
      rw [enc_len]
      exact (ho.mono hlo).grown_apt h2.1 hg (by decide)
  · refine AptB.snoc h2.2.2 (fun u hu bb hb hb2 => ?_)
    have h5 := ho.blk_ge bb hb2
    have h6 := hap u hu bb hb
    omega
/-- The bytes of the source stay where a row grows. -/
theorem SBy.grow {b n : Nat} {A : Option Addr} {xs : List Int} {w w' W : World} {lo n0 c0 : Nat} {E : Option Addr} {cs : List Value} (h : SBy w A n xs) (ho : Own W lo 43 1 E n0 c0 cs) (k : Kb b w W) (hlo : w.heap.size ≤ lo) (hA : ∀ k, blk A = some k → k ≠ b) (hg : W.grownBy w' (blk E)) : SBy w' A n xs :=
  h.kb (k.grown ho hlo hg) hA
theorem vals_one (us : List Bl) : ∀ v ∈ us.map Bl.val, v.oneCell' = true := by
  intro v hv
  obtain ⟨u, _, rfl⟩ := List.mem_map.1 hv
  rfl
theorem rep_nil {m : Nat} : ∀ t ∈ List.replicate m Tr.nil, t.nodes ≤ 1 := by
  intro t ht
  rw [(List.mem_replicate.1 ht).2]; exact Nat.le_refl _
set_option maxRecDepth 100000 in
set_option maxHeartbeats 8000000 in
theorem drawOk21_any (b : Nat) (A : Option Addr) (n c T : Nat) (xs : List Int) (w : World) (hx : SBy w A n xs) (hA : ∀ k, blk A = some k → k ≠ b) (hs : Src b A n c T w) (hb : b < w.heap.size) (hT : T ≤ 800000000) (hn : n ≤ 9223372036854775807) :
    Calls Try.prog 82 #[.pointer (some ⟨b, 0, none⟩)] w (DrewT b A n c (T + 40) 31 w) := by
  have HX := Lib.hid hx
  have HA := Lib.hid hA
  have HS := Lib.hid hs
  clear hx hA hs
  go_enter Try.func82, Try.ntmps82
  go_wp2_with fail
  refine (pick_any b A n c T xs 4 _ HX.out HA.out HS.out (by omega) hn (by omega) (by omega)).mono ?_
  rintro e1 w1 ⟨x, rfl, hx0, hx1, hs1, hk1⟩
  have HX1 := Lib.hid (HX.out.kb hk1 HA.out)
  have HS1 := Lib.hid hs1
  have HK1 := Lib.hid hk1
  have hb1 : b < w1.heap.size := Nat.lt_of_lt_of_le hb hk1.size
  have hw1 := hk1.size
  clear hs1 hk1 HS
  by_cases h0 : x = 0
  · subst h0
    go_wp2_with fail
    refine (pick_any b A n c (T + 2) xs 6 _ HX1.out HA.out HS1.out (by omega) hn (by omega) (by omega)).mono ?_
    rintro e2 w2 ⟨y, rfl, hy0, hy1, hs2, hk2⟩
    obtain ⟨m, rfl⟩ : ∃ m : Nat, y = (m : Int) := ⟨y.toNat, by omega⟩
    have HS2 := Lib.hid hs2
    have HK2 := Lib.hid (HK1.out.trans hk2)
    have hm5 : m ≤ 5 := by omega
    clear hs2 hk2 hy0 hy1
    go_wp2_with (go_at_call 165; refine (number_any m _ (by omega)).mono ?_; rintro e3 w3 ⟨D, d, rfl, o3, z3⟩)
    go_ret
    exact ⟨D, d, _, rfl, o3.mono HK2.out.size, by have := lstT_nodes (rep_nil (m := m)); rw [List.length_replicate] at this; omega, (HS2.out.below z3).le (by omega), HK2.out.trans (Kb.of_below z3)⟩
  by_cases h1 : x = 1
  rotate_left
  · go_wp2_with fail
    refine (pick_any b A n c (T + 2) xs 4 _ HX1.out HA.out HS1.out (by omega) hn (by omega) (by omega)).mono ?_
    rintro e2 w2 ⟨y, rfl, hy0, hy1, hs2, hk2⟩
    obtain ⟨m, rfl⟩ : ∃ m : Nat, y = (m : Int) := ⟨y.toNat, by omega⟩
    obtain ⟨m1, hm1⟩ : ∃ m1 : Nat, m1 = 1 + m := ⟨_, rfl⟩
    have i1 : IntKind.i64.wrap (1 + (m : Int)) = (m1 : Int) := by rw [IntWalk.i64_in _ (by omega)]; omega
    have HS2 := Lib.hid hs2
    have HK2 := Lib.hid (HK1.out.trans hk2)
    have HX2 := Lib.hid (HX1.out.kb hk2 HA.out)
    have hb2 : b < w2.heap.size := Nat.lt_of_lt_of_le hb1 hk2.size
    have hm5 : m1 ≤ 4 := by omega
    have hc4 : chD m1 ≤ 30 := chD_mono hm5
    have hd4 : ndD m1 ≤ 31 := ndD_mono hm5
    clear hs2 hk2 hy0 hy1 hm1
    go_wp2_with (go_at_call 166; refine (drawDeep_any b A n c xs hn HA.out m1 (T + 2 + 2) _ (by omega) HX2.out HS2.out hb2 (by omega) (by omega)).mono ?_; rintro e3 w3 ⟨D, d, t, rfl, o3, ht3, hs3, hk3⟩)
    go_ret
    exact ⟨D, d, t, rfl, o3.mono HK2.out.size, by omega, hs3.le (by omega), HK2.out.trans hk3⟩
  subst h1
  go_upto_region 6 with fail
  obtain ⟨W1, hW_⟩ : ∃ W_, W_ = w1.alloc (.cells #[] 43) := ⟨_, rfl⟩
  have b1 : Blk W1 w1.heap.size 43 #[] := by rw [hW_]; exact Blk.new w1 _ _
  have z1 : Below w1.heap.size w1 W1 := by rw [hW_]; exact (Below.refl _ _).alloc (Nat.le_refl _) _
  have HW1 := Lib.hid hW_
  clear hW_
  rw [← HW1.out]
  have hn0 : NowS W1 w.heap.size (some ⟨w1.heap.size, 0, none⟩) 0 [] := ⟨[], rfl, b1.ownz hw1, by simp, List.Pairwise.nil⟩
  have HN0 := Lib.hid hn0
  have HK0 := Lib.hid (HK1.out.trans (Kb.of_below z1))
  have HS0 := Lib.hid (HS1.out.below z1)
  have HX0 := Lib.hid (HX1.out.below z1)
  have hbW : b < W1.heap.size := Nat.lt_of_lt_of_le hb1 z1.size
  clear z1 b1 hn0 HK1 HS1 HX1
  go_wp2_with fail
  refine (pick_any b A n c (T + 2) xs 4 _ HX0.out HA.out HS0.out (by omega) hn (by omega) (by omega)).mono ?_
  rintro e2 w2 ⟨y, rfl, hy0, hy1, hs2, hk2⟩
  obtain ⟨m, rfl⟩ : ∃ m : Nat, y = (m : Int) := ⟨y.toNat, by omega⟩
  have hm3 : m ≤ 3 := by omega
  have HS2 := Lib.hid hs2
  have HK2 := Lib.hid (HK0.out.trans hk2)
  have HX2 := Lib.hid (HX0.out.kb hk2 HA.out)
  have HN2 := Lib.hid (HN0.out.kb hk2 hb)
  have hb2 : b < w2.heap.size := Nat.lt_of_lt_of_le hbW hk2.size
  clear hs2 hk2 hy0 hy1 HS0 HK0 HX0 HN0
  go_wp2_with fail
  go_loopw [3, 4] (fun s3 s4 wr => ∃ (q : Nat) (D : Option Addr) (d : Nat) (ts : List Tr), q ≤ m ∧ s4 = .int .i64 (q : Int) ∧ s3 = .slice D ts.length d ∧ Hid (ts.length + q = m) ∧ Hid (∀ t ∈ ts, t.nodes ≤ 7) ∧ Hid (NowS wr w.heap.size D d ts) ∧ Hid (SBy wr A n xs) ∧ Hid (Src b A n c (T + 4 + 6 * ts.length) wr) ∧ Hid (Kb b w wr)) (fun _ s4 _ => (intOf s4).toNat)
  case atStart => exact ⟨m, _, 0, [], Nat.le_refl _, rfl, rfl, Lib.hid (by simp), Lib.hid (by simp), HN2, HX2, HS2, HK2⟩
  case round =>
    obtain ⟨q, D, d, ts, hq, rfl, rfl, HL, HM, HN, HX3, HS3, HK3⟩ := hrel
    clear HN2 HX2 HS2 HK2
    have hl3 : ts.length ≤ 3 := by have := HL.out; omega
    have hbr : b < wr.heap.size := Nat.lt_of_lt_of_le hb HK3.out.size
    by_cases hq0 : 0 < q
    · have i1 : (0 : Int) < (q : Int) := by omega
      go_wp2_with fail
      refine (drawDeep_any b A n c xs hn HA.out 2 (T + 4 + 6 * ts.length) _ (by omega) HX3.out HS3.out hbr (by have : chD 2 = 6 := rfl; omega) (by decide)).mono ?_
      rintro e4 w4 ⟨E, e, t, rfl, o4, ht4, hs4, hk4⟩
      obtain ⟨us, hu1, hu0⟩ := HN.out.row
      have hu2 := hu0.kb hk4 hb
      have HU1 := Lib.hid hu1
      have hu3 : OBB (w4.alloc (.cells #[.slice E t.nodes e] 43)) w.heap.size 43 4 D ts.length d us := hu2.below ((Below.refl _ _).alloc (Nat.le_refl _) _)
      have HU3 := Lib.hid hu3
      have HO4 := Lib.hid (o4.alloc (.cells #[.slice E t.nodes e] 43))
      have hap : ∀ u ∈ us, ∀ bb, blk u.A = some bb → bb < wr.heap.size := fun u hu bb hbb => (hu0.2.1 u hu).blk_lt bb hbb
      have HAP := Lib.hid hap
      have HS4 := Lib.hid (hs4.le (T' := T + 4 + 6 * (ts.length + 1)) (by have : chD 2 = 6 := rfl; omega))
      have HK4 := Lib.hid (HK3.out.trans hk4)
      have HX4 := Lib.hid (HX3.out.kb hk4 HA.out)
      have hsz : w.heap.size ≤ wr.heap.size := HK3.out.size
      have hsz4 : w.heap.size ≤ w4.heap.size := HK4.out.size
      clear hu1 hu0 hu2 hu3 o4 hap hs4 hk4
      go_wp2_with (at_builtin; refine wpList_append_Own rfl (.tmp 21) (.tmp 24) rfl elBBs (lo := w.heap.size) rfl HU3.out.1 rfl (Rd.new1 w4 _ _) (by intro u hu; rw [List.mem_singleton.1 hu]; rfl) (by omega) (by simp only [maxLen]; omega) (by simp; omega) ?_; intro A5 c5 w5 o5 hg5 _; have HO5 := Lib.hid o5; have HG5 := Lib.hid hg5)
      go_roundw
      case rel =>
        have hk5 : Kb b w w5 := (HK4.out.alloc _).grown HU3.out.1 (Nat.le_refl _) HG5.out
        refine ⟨q - 1, A5, c5, ts ++ [t], by omega, by go_num, by rw [List.length_append]; rfl, Lib.hid (by rw [List.length_append]; have := HL.out; simp; omega), Lib.hid (fun x hx => ?_), Lib.hid ?_, Lib.hid ?_, Lib.hid ?_, Lib.hid hk5⟩
        · rcases List.mem_append.1 hx with h | h
          · exact HM.out x h
          · rw [List.mem_singleton.1 h]; exact ht4
        · exact NowS.pushK HU1.out HU3.out hsz HAP.out HO4.out HO5.out HG5.out
        · exact HX.out.grow HU3.out.1 (HK4.out.alloc _) (Nat.le_refl _) HA.out HG5.out
        · rw [List.length_append]; exact (HS4.out.alloc _).more HU3.out.1 hb HG5.out
      case measure => (simp [intOf] <;> omega)
    · obtain rfl : q = 0 := by omega
      have i1 : ¬ ((0 : Int) < ((0 : Nat) : Int)) := by omega
      have HTR := Lib.hid HN.out.trd
      go_wp2_with (go_at_call 167; refine (list21_any _ _ ts _ HTR.out (by omega) (fun t ht => by have := HM.out t ht; omega)).mono ?_; rintro e5 w5 ⟨E, e, rfl, o5, z5⟩)
      go_ret
      have hn7 := lstT_nodes HM.out
      exact ⟨E, e, lstT ts, rfl, o5.mono HK3.out.size, by omega, (HS3.out.below z5).le (by omega), HK3.out.trans (Kb.of_below z5)⟩
end Go.Proofs.Ytfheepjfpgiaoaa
