/- A part of the proof of this sentence: the tables of unicode/utf8 are as the program's text lays them. -/
import Derived.Test.YtoikneogdbdplaaDoorCHeadPut1
import Derived.Deep.SlicePairs
import Derived.ProofKit
import Derived.OpenShut
set_option linter.unusedVariables false
set_option linter.unusedSimpArgs false
namespace Go.Proofs.YtoikneogdbdplaaDoor.Fn
open Go.RowKit Go.Proofs.YtoikneogdbdplaaDoorW.PrintWords Go.Proofs.YtoikneogdbdplaaDoorW.PrintLast Go.Proofs.YtoikneogdbdplaaDoorW.PrintMore

set_option maxHeartbeats 4000000 in
set_option maxRecDepth 100000 in
theorem head_Without.some (ad : Addr) (c : Nat) (l : List (S30)) (name : ByteArray) (w : World) (hC : Kd.C k30 w (some ad) l.length l) (hl : l.length ≤ 1000000000) (hn : name.size ≤ 35184372088832) (hz : ∀ x ∈ l, x.f0.size ≤ 35184372088832) :
    Calls Tryd.prog 15 #[.slice (.some ad) l.length c, .string name] w fun e w' => ∃ g cap, e = .returned (.slice (.some ⟨g, 0, none⟩) (withoutL l name).length cap) ∧ Kd.R k30 30 w' w.heap.size (fun _ => True) (.slice (.some ⟨g, 0, none⟩) (withoutL l name).length cap) (withoutL l name) ∧ Below w.heap.size w w' := by
  have HZ := hid hz
  have HCC := hid hC
  clear hz hC
  obtain ⟨w0, hw0⟩ : ∃ w0, w.alloc (.cells #[.string name] 9) = w0 := ⟨_, rfl⟩
  have HB0 := hid (show Below w.heap.size w w0 by rw [← hw0]; exact (Below.refl _ w).alloc (Nat.le_refl _) _)
  have hs0 : w0.heap.size = w.heap.size + 1 := by rw [← hw0]; simp
  have hcell : w0.cell? ⟨w.heap.size, 0, none⟩ = .some (.string name) := by rw [← hw0]; exact (blk_cell (blk_new w _) 0).trans rfl
  have hCl := hid (Clone_some ad c l w0 (Kd.C_below HCC.out HB0.out) hl)
  go_enter Tryd.func15, Tryd.ntmps15
  go_wp2_with (first
    | (go_at_call 57; refine hCl.out.mono ?_; rintro e w1 ⟨v, rfl, hR, hne, b1⟩; obtain ⟨g, cap, rfl, hg⟩ := row_form hR hne; have hb1 := (b1.cell (p := ⟨w.heap.size, 0, none⟩) (by show w.heap.size < w0.heap.size; omega)).trans hcell)
    | (go_at_call 58; refine (DeleteFunc_calls 59 asks_without enter_without w.heap.size name g cap w0.heap.size l w1 hR hl HZ.out hn hb1 (by omega) b1.size).mono ?_; rintro e w2 ⟨m, hm, rfl, hR2, b2⟩; subst hm))
  go_ret
  exact ⟨g, cap, rfl, Kd.R_lower (base' := w.heap.size) hR2 (show w.heap.size ≤ w0.heap.size by omega), HB0.out.trans ((b1.trans b2).mono (by omega))⟩
def putL (l : List (S30)) (f0 f1 : ByteArray) : List (S30) :=
  if Pl.firstI (askN f0) l < l.length then (l.take (Pl.firstI (askN f0) l) ++ [⟨f0, f1⟩]) ++ withoutL (l.drop (Pl.firstI (askN f0) l)) f0 else l ++ [⟨f0, f1⟩]
def head_Put.f (l : List (S30)) (f0 f1 : ByteArray) : Option (List (S30)) :=
  if l.length ≤ 500000000 then (if f0.size ≤ 35184372088832 then (if l.all (fun x => decide (x.f0.size ≤ 35184372088832)) = true then some (putL l f0 f1) else none) else none) else none
def head_Put.T3 : Bool × List (List Nat × List Nat) := (true, [([], []), ([0], [0]), ([], []), ([2], [2]), ([1, 3, 1], [1, 3]), ([4, 4, 0, 1, 2, 3, 4], [4])])
def head_Put.B3 : List Nat := [0, 1, 0, 4, 15, 31]
theorem head_Put.tab3 : rtab .any (opsOf Tryd.f14 3) = head_Put.T3 := by kernel_rfl
theorem head_Put.bits3 : waitsOk head_Put.T3.2 head_Put.B3 = true := by kernel_rfl
def head_Put.T4 : Bool × List (List Nat × List Nat) := (true,
  [([], []), ([], []), ([0, 1], [0, 1]), ([2], [2]), ([], []), ([4], [4]), ([3, 5, 3], [3, 5]), ([], []), ([], []),
    ([7, 8], [7, 8]), ([], []), ([10], [10]), ([9, 11, 6], [9, 11]), ([6, 12, 12], [6, 12]),
    ([13, 13, 0, 1, 2, 3, 4, 5, 6, 7, 8, 9, 10, 11, 12, 13], [13])])
def head_Put.B4 : List Nat := [0, 0, 3, 7, 0, 16, 63, 0, 0, 384, 0, 1024, 4095, 8191, 16383]
theorem head_Put.tab4 : rtab .any (opsOf Tryd.f14 4) = head_Put.T4 := by kernel_rfl
theorem head_Put.bits4 : waitsOk head_Put.T4.2 head_Put.B4 = true := by kernel_rfl
theorem lit_cells {W : World} {g : Nat} {f0 f1 : ByteArray} (h0 : W.cell? ⟨g, 0, none⟩ = some (.string f0)) (h1 : W.cell? ⟨g, 1, none⟩ = some (.string f1)) : ∀ (j : Nat) (u : Value), (flatF [⟨f0, f1⟩])[j]? = some u → W.cell? ((⟨g, 0, none⟩ : Addr).add j) = some u
  | 0, u, h => by
    obtain rfl : Value.string f0 = u := by simpa [flatF] using h
    exact h0
  | 1, u, h => by
    obtain rfl : Value.string f1 = u := by simpa [flatF] using h
    exact h1
  | j + 2, u, h => by simp [flatF] at h
theorem lit_alloc (W : World) (f0 f1 : ByteArray) : (W.alloc (.cells #[.string f0, .string f1] 30)).cell? ⟨W.heap.size, 0, none⟩ = some (.string f0) ∧ (W.alloc (.cells #[.string f0, .string f1] 30)).cell? ⟨W.heap.size, 1, none⟩ = some (.string f1) :=
  ⟨(blk_cell (blk_new W _) 0).trans rfl, (blk_cell (blk_new W _) 1).trans rfl⟩
set_option maxHeartbeats 4000000 in
set_option maxRecDepth 100000 in
theorem head_Put.calls (A : Option Addr) (c : Nat) (l : List (S30)) (f0 f1 : ByteArray) (r : List (S30)) (w : World) (hC : Kd.C k30 w A l.length l) (hc : l.length ≤ c) (h : head_Put.f l f0 f1 = some r) :
    Calls Tryd.prog 14 #[.slice A l.length c, .agg #[.string f0, .string f1]] w fun e w' => ∃ v, e = .returned v ∧ Kd.R k30 30 w' w.heap.size (fun _ => True) v r ∧ Below w.heap.size w w' := by
  unfold head_Put.f at h
  by_cases hl : l.length ≤ 500000000
  case neg => rw [if_neg hl] at h; exact absurd h (by simp)
  rw [if_pos hl] at h
  by_cases hn : f0.size ≤ 35184372088832
  case neg => rw [if_neg hn] at h; exact absurd h (by simp)
  rw [if_pos hn] at h
  by_cases hz : l.all (fun x => decide (x.f0.size ≤ 35184372088832)) = true
  case neg => rw [if_neg hz] at h; exact absurd h (by simp)
  rw [if_pos hz] at h
  have HR := hid (Option.some.inj h)
  have HZ := hid (fun x (hx : x ∈ l) => of_decide_eq_true (List.all_eq_true.1 hz x hx))
  have HCC := hid hC
  clear h hz hC
  obtain ⟨w0, hw0⟩ : ∃ w0, w.alloc (.cells #[.string f0, .string f1] 30) = w0 := ⟨_, rfl⟩
  have HB0 := hid (show Below w.heap.size w w0 by rw [← hw0]; exact (Below.refl _ w).alloc (Nat.le_refl _) _)
  have HS0 := hid (show w0.heap.size = w.heap.size + 1 by rw [← hw0]; simp)
  have HK0 := hid (show w0.heap[w.heap.size]? = some (.cells #[.string f0, .string f1] 30 (0, 0)) by rw [← hw0]; exact blk_new w _)
  have HIF := hid (IndexFunc_calls 55 asks_put enter_put w.heap.size f0 A c l w0 (Kd.C_below HCC.out HB0.out) (by omega) HZ.out hn ((blk_cell HK0.out 0).trans rfl))
  by_cases hf : Pl.firstI (askN f0) l < l.length
  case neg =>
    have hidx : Pl.idxL (askN f0) l = -1 := by unfold Pl.idxL; rw [if_neg hf]
    have hput : putL l f0 f1 = l ++ [⟨f0, f1⟩] := by unfold putL; rw [if_neg hf]
    have HR2 := hid (hput.symm.trans HR.out)
    rw [hidx] at HIF
    clear hidx hput HR hf
    go_enter Tryd.func14, Tryd.ntmps14
    go_wp2_with (go_at_call 54; refine HIF.out.mono ?_; rintro e w1 ⟨rfl, b1⟩)
    have HB2 := hid (below_drew1 (HB0.out.trans (b1.mono (by have := HS0.out; omega))))
    have HC2 := hid (Kd.C_drew (Kd.C_below (Kd.C_below HCC.out HB0.out) b1))
    have HK2 := hid (blk_drew ((b1.block w.heap.size (by rw [HS0.out]; omega)).trans HK0.out))
    have hg2 := hid (show w.heap.size + 1 ≤ w1.drew.heap.size by have := b1.size; have := HS0.out; simp; omega)
    clear b1 HIF HK0 HS0 HB0
    refine start_ (n := 6) (S := (fun w' => w'.cell? ⟨w.heap.size, 0, none⟩ = some (.string f0) ∧ w'.cell? ⟨w.heap.size, 1, none⟩ = some (.string f1))) (ds := []) #[false, false, false, false, false, false] (by kernel_rfl) rfl rfl ⟨(blk_cell HK2.out 0).trans rfl, (blk_cell HK2.out 1).trans rfl⟩ (fun hHeld => ?_); refine with_tabW head_Put.tab3 head_Put.bits3 (fun HT_ HW_ => ?_)
    generalize w1.drew = w2 at HB2 HC2 HK2 hg2 hHeld ⊢
    refine pure_ (i := 0) (N := some 11) (v := ?_) (a' := ?_) #[true, false, false, false, false, false] rfl rfl (any_of HT_.out (by kernel_rfl)) (fun _ _ _ h => h) (Or.inl ⟨by rfl, ?_⟩) ?_ ?_
    rotate_left
    · intro w'
      go_simp
      with_reducible rfl
    rotate_left
    · simp only [Act.put, List.setIfInBounds_toArray, List.set_cons_zero, List.set_cons_succ, i64_w, i32_w]
      rfl
    refine take_ (i := 2) (N := some 13) (v := ?_) (a' := ?_) #[true, false, true, false, false, false] rfl rfl (take_ofW HT_.out HW_.out (by kernel_rfl)) (fun _ _ _ h => h) (Or.inl ⟨by rfl, ?_⟩) hHeld ?_ ?_
    rotate_left
    · rintro w' ⟨s0, s1⟩
      go_simp
      with_reducible rfl
    rotate_left
    · simp only [Act.put, List.setIfInBounds_toArray, List.set_cons_zero, List.set_cons_succ, i64_w, i32_w]
      rfl
    have HX2 := HC2
    refine join_ (σ := Value × Nat) 2 #[true, true, true, true, false, false] (fun s_ => [(12, s_.1), (14, .slice (some ⟨s_.2, 0, none⟩) 1 1)]) (fun s_ w' => Kd.R k30 30 w' (w.heap.size + 1) (fun _ => True) s_.1 l ∧ w'.cell? ⟨s_.2, 0, none⟩ = some (.string f0) ∧ w'.cell? ⟨s_.2, 1, none⟩ = some (.string f1) ∧ Below (w.heap.size + 1) w2 w') ?_ ?_
    rotate_left
    · intro hCont
      refine two_ (i := 1) (j := 3) (Ni := some 12) (Nj := some 14) #[true, true, true, false, false, false] #[true, false, true, true, false, false] rfl rfl rfl rfl (two_of HT_.out (by kernel_rfl)) (by decide) (by decide) (fun K hK => ?_) (fun K hK => ?_)
      · skip
        refine goes_ Tryd.func57 (by kernel_rfl) rfl #[.slice A l.length c] (by rfl) rfl rfl (by (try simp only [List.map_toArray, List.map_cons, List.map_nil]); first | done | rfl) ?_
        refine (Clone_calls _ _ l w2 HX2.out (by first | omega | (simp; omega))).mono ?_
        rintro e w3 ⟨v, rfl, hRv, bv⟩
        refine ⟨_, rfl, ?_⟩
        have hbx := bv.mono (show w.heap.size + 1 ≤ w2.heap.size from hg2.out)
        have hk3 := (hbx.block w.heap.size (by omega)).trans HK2.out
        refine hK.out _ _ ⟨(blk_cell hk3 0).trans rfl, (blk_cell hk3 1).trans rfl⟩ (fun hHeld3 => ?_)
        clear hK K
        refine norm_ (a' := ?_) ?_ ?_
        rotate_left
        · show Act.put _ (some 12) _ = _
          simp only [Act.put, List.setIfInBounds_toArray, List.set_cons_zero, List.set_cons_succ, i64_w, i32_w]
          rfl
        refine one_ (i := 3) (N := some 14) #[true, true, true, true, false, false] rfl rfl (one_of HT_.out (by kernel_rfl)) (by decide) (fun K hK => ?_)
        refine value_ (w1 := ?_) (v := ?_) (by rfl) rfl ?_ ?_
        rotate_left 2
        · go_simp
          constructor
          · rfl
          · rfl
        have hbx2 := hbx.alloc (show w.heap.size + 1 ≤ w3.heap.size from Nat.le_trans hg2.out hbx.size) (.cells #[.string f0, .string f1] 30)
        have hk4 := blk_alloc hk3 (.cells #[.string f0, .string f1] 30)
        refine hK.out _ _ ⟨(blk_cell hk4 0).trans rfl, (blk_cell hk4 1).trans rfl⟩ (fun hHeld4 => ?_)
        clear hK K
        refine norm_ (a' := ?_) ?_ ?_
        rotate_left
        · show Act.put _ (some 14) _ = _
          simp only [Act.put, List.setIfInBounds_toArray, List.set_cons_zero, List.set_cons_succ, i64_w, i32_w]
          rfl
        exact norm_ (by simp only [putAll, Act.put, List.setIfInBounds_toArray, List.set_cons_zero, List.set_cons_succ]) (hCont (v, w3.heap.size) _ ⟨Kd.R_alloc (Kd.R_lower hRv hg2.out) _, (lit_alloc w3 f0 f1).1, (lit_alloc w3 f0 f1).2, hbx2⟩)
      · skip
        refine value_ (w1 := ?_) (v := ?_) (by rfl) rfl ?_ ?_
        rotate_left 2
        · go_simp
          constructor
          · rfl
          · rfl
        have hb3 : Below (w.heap.size + 1) w2 (w2.alloc (.cells #[.string f0, .string f1] 30)) := (Below.refl _ w2).alloc hg2.out _
        have hC3 := Kd.C_alloc HX2.out (.cells #[.string f0, .string f1] 30)
        have hk3 := blk_alloc HK2.out (.cells #[.string f0, .string f1] 30)
        have hl3 := lit_alloc w2 f0 f1
        have hs3 : (w2.alloc (.cells #[.string f0, .string f1] 30)).heap.size = w2.heap.size + 1 := by simp
        refine hK.out _ _ ⟨(blk_cell hk3 0).trans rfl, (blk_cell hk3 1).trans rfl⟩ (fun hHeld3 => ?_)
        clear hK K
        refine norm_ (a' := ?_) ?_ ?_
        rotate_left
        · show Act.put _ (some 14) _ = _
          simp only [Act.put, List.setIfInBounds_toArray, List.set_cons_zero, List.set_cons_succ, i64_w, i32_w]
          rfl
        generalize w2.alloc (.cells #[.string f0, .string f1] 30) = w3 at hb3 hC3 hk3 hl3 hs3 hHeld3 ⊢
        refine one_ (i := 1) (N := some 12) #[true, true, true, true, false, false] rfl rfl (one_of HT_.out (by kernel_rfl)) (by decide) (fun K hK => ?_)
        refine goes_ Tryd.func57 (by kernel_rfl) rfl #[.slice A l.length c] (by rfl) rfl rfl (by (try simp only [List.map_toArray, List.map_cons, List.map_nil]); first | done | rfl) ?_
        refine (Clone_calls _ _ l w3 hC3 (by first | omega | (simp; omega))).mono ?_
        rintro e w4 ⟨v, rfl, hRv, bv⟩
        refine ⟨_, rfl, ?_⟩
        have hbx := bv.mono (show w.heap.size + 1 ≤ w3.heap.size by have := hg2.out; omega)
        have hk4 := (hbx.block w.heap.size (by omega)).trans hk3
        refine hK.out _ _ ⟨(blk_cell hk4 0).trans rfl, (blk_cell hk4 1).trans rfl⟩ (fun hHeld4 => ?_)
        clear hK K
        refine norm_ (a' := ?_) ?_ ?_
        rotate_left
        · show Act.put _ (some 12) _ = _
          simp only [Act.put, List.setIfInBounds_toArray, List.set_cons_zero, List.set_cons_succ, i64_w, i32_w]
          rfl
        exact norm_ (by simp only [putAll, Act.put, List.setIfInBounds_toArray, List.set_cons_zero, List.set_cons_succ]) (hCont (v, w2.heap.size) _ ⟨Kd.R_lower hRv (show w.heap.size + 1 ≤ w3.heap.size by have := hg2.out; omega), (bv.cell (by show w2.heap.size < w3.heap.size; omega)).trans hl3.1, (bv.cell (by show w2.heap.size < w3.heap.size; omega)).trans hl3.2, hb3.trans hbx⟩)
    rintro ⟨v12, g14⟩ w5 ⟨h5_0, h5_1, h5_2, h5_3⟩
    have HR5 := hid h5_0
    have HL5 := hid (lit_cells h5_1 h5_2)
    have HB5 := hid h5_3
    have HK5 := hid ((h5_3.block w.heap.size (by omega)).trans HK2.out)
    have hg5 := hid (show w.heap.size + 1 ≤ w5.heap.size by have := hg2.out; have := h5_3.size; omega)
    have hHeld5 : w5.cell? ⟨w.heap.size, 0, none⟩ = some (.string f0) ∧ w5.cell? ⟨w.heap.size, 1, none⟩ = some (.string f1) := ⟨(blk_cell HK5.out 0).trans rfl, (blk_cell HK5.out 1).trans rfl⟩
    clear h5_0 h5_1 h5_2 h5_3 hHeld
    have hHeld := hHeld5
    clear hHeld5
    refine norm_ (a' := ?_) ?_ ?_
    rotate_left
    · simp only [putAll, Act.put, List.setIfInBounds_toArray, List.set_cons_zero, List.set_cons_succ]
      rfl
    refine one_ (i := 4) (N := some 15) #[true, true, true, true, true, false] rfl rfl (one_of HT_.out (by kernel_rfl)) (by decide) (fun K hK => ?_)
    refine wp_append_fields (W := w5) (w.heap.size + 1) _ _ rfl v12 l [⟨f0, f1⟩] ⟨g14, 0, none⟩ _ rfl rfl HR5.out HL5.out hg5.out (by show l.length + 1 ≤ 2000000000; omega) ?_
    intro vb w6 hRb hgb hob
    have hbb : Below (w.heap.size + 1) w5 w6 := (Below.refl _ w5).grown hgb hg5.out (fun k hk => Kd.R_base HR5.out k hk)
    have HR6 := hid hRb
    have HB6 := hid ((HB5.out).trans hbb)
    have HK6 := hid ((hbb.block w.heap.size (by omega)).trans HK5.out)
    have hg6 := hid (show w.heap.size + 1 ≤ w6.heap.size from Nat.le_trans hg5.out hbb.size)
    refine hK.out _ _ ⟨(blk_cell HK6.out 0).trans rfl, (blk_cell HK6.out 1).trans rfl⟩ (fun hHeld => ?_)
    clear hK K
    refine norm_ (a' := ?_) ?_ ?_
    rotate_left
    · show Act.put _ (some 15) _ = _
      simp only [Act.put, List.setIfInBounds_toArray, List.set_cons_zero, List.set_cons_succ, i64_w, i32_w]
      rfl
    refine pure_ (i := 5) (N := some 4) (v := ?_) (a' := ?_) #[true, true, true, true, true, true] rfl rfl (any_of HT_.out (by kernel_rfl)) (fun _ _ _ h => h) (Or.inl ⟨by rfl, ?_⟩) ?_ ?_
    rotate_left
    · intro w'
      go_simp
      with_reducible rfl
    rotate_left
    · simp only [Act.put, List.setIfInBounds_toArray, List.set_cons_zero, List.set_cons_succ, i64_w, i32_w]
      rfl
    refine done_ (done_of HT_.out (by kernel_rfl)) ?_
    try go_wp2
    go_ret
    refine ⟨_, rfl, ?_, HB2.out.trans (HB6.out.mono (by omega))⟩
    rw [← HR2.out]
    exact Kd.R_lower HR6.out (by omega)
  case pos =>
    obtain ⟨i, hi⟩ : ∃ i, Pl.firstI (askN f0) l = i := ⟨_, rfl⟩
    have hidx : Pl.idxL (askN f0) l = (i : Int) := by unfold Pl.idxL; rw [if_pos hf, hi]
    have hput : putL l f0 f1 = (l.take i ++ [⟨f0, f1⟩]) ++ withoutL (l.drop i) f0 := by unfold putL; rw [if_pos hf, hi]
    have HR2 := hid (hput.symm.trans HR.out)
    rw [hidx] at HIF
    rw [hi] at hf
    clear hidx hput HR hi
    obtain ⟨ad, e0, _⟩ := HCC.out.2.2 (by omega)
    subst e0
    have c1 : decide ((i : Int) < 0) = false := decide_eq_false (by omega)
    have c2 : ((0 : Int) ≤ (i : Int)) = True := eq_true (by omega)
    have c3 : ((i : Int) ≤ (l.length : Int)) = True := eq_true (by omega)
    have c4 : ((i : Int) ≤ (c : Int)) = True := eq_true (by omega)
    have c5 : ((l.length : Int) ≤ (c : Int)) = True := eq_true (by omega)
    have c6 : (c = i) = False := eq_false (by omega)
    have c7 : (l.length ≤ c) = True := eq_true hc
    have c8 : (i ≤ c) = True := eq_true (by omega)
    have c9 : (i ≤ l.length) = True := eq_true (by omega)
    go_enter Tryd.func14, Tryd.ntmps14
    go_wp2_with (go_at_call 54; refine HIF.out.mono ?_; rintro e w1 ⟨rfl, b1⟩)
    have HB2 := hid (below_drew1 (HB0.out.trans (b1.mono (by have := HS0.out; omega))))
    have HC2 := hid (Kd.C_drew (Kd.C_below (Kd.C_below HCC.out HB0.out) b1))
    have HK2 := hid (blk_drew ((b1.block w.heap.size (by rw [HS0.out]; omega)).trans HK0.out))
    have hg2 := hid (show w.heap.size + 1 ≤ w1.drew.heap.size by have := b1.size; have := HS0.out; simp; omega)
    clear b1 HIF HK0 HS0 HB0
    refine start_ (n := 15) (S := (fun w' => w'.cell? ⟨w.heap.size, 0, none⟩ = some (.string f0) ∧ w'.cell? ⟨w.heap.size, 1, none⟩ = some (.string f1))) (ds := []) #[false, false, false, false, false, false, false, false, false, false, false, false, false, false, false] (by kernel_rfl) rfl rfl ⟨(blk_cell HK2.out 0).trans rfl, (blk_cell HK2.out 1).trans rfl⟩ (fun hHeld => ?_); refine with_tabW head_Put.tab4 head_Put.bits4 (fun HT_ HW_ => ?_)
    generalize w1.drew = w2 at HB2 HC2 HK2 hg2 hHeld ⊢
    refine pure_ (i := 0) (N := some 16) (v := ?_) (a' := ?_) #[true, false, false, false, false, false, false, false, false, false, false, false, false, false, false] rfl rfl (any_of HT_.out (by kernel_rfl)) (fun _ _ _ h => h) (Or.inl ⟨by rfl, ?_⟩) ?_ ?_
    rotate_left
    · intro w'
      go_simp
      with_reducible rfl
    rotate_left
    · simp only [Act.put, List.setIfInBounds_toArray, List.set_cons_zero, List.set_cons_succ, i64_w, i32_w]
      rfl
    refine pure_ (i := 1) (N := some 17) (v := ?_) (a' := ?_) #[true, true, false, false, false, false, false, false, false, false, false, false, false, false, false] rfl rfl (any_of HT_.out (by kernel_rfl)) (fun _ _ _ h => h) (Or.inl ⟨by rfl, ?_⟩) ?_ ?_
    rotate_left
    · intro w'
      go_simp
      with_reducible rfl
    rotate_left
    · simp only [Act.put, List.setIfInBounds_toArray, List.set_cons_zero, List.set_cons_succ, i64_w, i32_w]
      rfl
    refine pure_ (i := 2) (N := some 18) (v := ?_) (a' := ?_) #[true, true, true, false, false, false, false, false, false, false, false, false, false, false, false] rfl rfl (any_of HT_.out (by kernel_rfl)) (fun _ _ _ h => h) (Or.inl ⟨by rfl, ?_⟩) ?_ ?_
    rotate_left
    · intro w'
      go_simp
      with_reducible rfl
    rotate_left
    · simp only [Act.put, List.setIfInBounds_toArray, List.set_cons_zero, List.set_cons_succ, i64_w, i32_w]
      rfl
    refine take_ (i := 4) (N := some 20) (v := ?_) (a' := ?_) #[true, true, true, false, true, false, false, false, false, false, false, false, false, false, false] rfl rfl (take_ofW HT_.out HW_.out (by kernel_rfl)) (fun _ _ _ h => h) (Or.inl ⟨by rfl, ?_⟩) hHeld ?_ ?_
    rotate_left
    · rintro w' ⟨s0, s1⟩
      go_simp
      with_reducible rfl
    rotate_left
    · simp only [Act.put, List.setIfInBounds_toArray, List.set_cons_zero, List.set_cons_succ, i64_w, i32_w]
      rfl
    refine pure_ (i := 7) (N := some 23) (v := ?_) (a' := ?_) #[true, true, true, false, true, false, false, true, false, false, false, false, false, false, false] rfl rfl (any_of HT_.out (by kernel_rfl)) (fun _ _ _ h => h) (Or.inl ⟨by rfl, ?_⟩) ?_ ?_
    rotate_left
    · intro w'
      go_simp
      with_reducible rfl
    rotate_left
    · simp only [Act.put, List.setIfInBounds_toArray, List.set_cons_zero, List.set_cons_succ, i64_w, i32_w]
      rfl
    refine pure_ (i := 8) (N := some 24) (v := ?_) (a' := ?_) #[true, true, true, false, true, false, false, true, true, false, false, false, false, false, false] rfl rfl (any_of HT_.out (by kernel_rfl)) (fun _ _ _ h => h) (Or.inl ⟨by rfl, ?_⟩) ?_ ?_
    rotate_left
    · intro w'
      go_simp
      with_reducible rfl
    rotate_left
    · simp only [Act.put, List.setIfInBounds_toArray, List.set_cons_zero, List.set_cons_succ, i64_w, i32_w]
      rfl
    refine pure_ (i := 9) (N := some 25) (v := ?_) (a' := ?_) #[true, true, true, false, true, false, false, true, true, true, false, false, false, false, false] rfl rfl (any_of HT_.out (by kernel_rfl)) (fun _ _ _ h => h) (Or.inl ⟨by rfl, ?_⟩) ?_ ?_
    rotate_left
    · intro w'
      go_simp
      with_reducible rfl
    rotate_left
    · simp only [Act.put, List.setIfInBounds_toArray, List.set_cons_zero, List.set_cons_succ, i64_w, i32_w]
      rfl
    refine pure_ (i := 10) (N := some 26) (v := ?_) (a' := ?_) #[true, true, true, false, true, false, false, true, true, true, true, false, false, false, false] rfl rfl (any_of HT_.out (by kernel_rfl)) (fun _ _ _ h => h) (Or.inl ⟨by rfl, ?_⟩) ?_ ?_
    rotate_left
    · intro w'
      go_simp
      with_reducible rfl
    rotate_left
    · simp only [Act.put, List.setIfInBounds_toArray, List.set_cons_zero, List.set_cons_succ, i64_w, i32_w]
      rfl
    refine take_ (i := 11) (N := some 27) (v := ?_) (a' := ?_) #[true, true, true, false, true, false, false, true, true, true, true, true, false, false, false] rfl rfl (take_ofW HT_.out HW_.out (by kernel_rfl)) (fun _ _ _ h => h) (Or.inl ⟨by rfl, ?_⟩) hHeld ?_ ?_
    rotate_left
    · rintro w' ⟨s0, s1⟩
      go_simp
      with_reducible rfl
    rotate_left
    · simp only [Act.put, List.setIfInBounds_toArray, List.set_cons_zero, List.set_cons_succ, i64_w, i32_w]
      rfl
    have HX2 := hid (Kd.C_take HC2.out (show i ≤ l.length by omega))
    have hlen : (l.take i).length = i := by rw [List.length_take]; omega
    have hlen2 : (l.drop i).length = l.length - i := List.length_drop
    refine join_ (σ := Value × Nat) 4 #[true, true, true, true, true, true, false, true, true, true, true, true, false, false, false] (fun s_ => [(19, s_.1), (21, .slice (some ⟨s_.2, 0, none⟩) 1 1)]) (fun s_ w' => Kd.R k30 30 w' (w.heap.size + 1) (fun _ => True) s_.1 (l.take i) ∧ w'.cell? ⟨s_.2, 0, none⟩ = some (.string f0) ∧ w'.cell? ⟨s_.2, 1, none⟩ = some (.string f1) ∧ Below (w.heap.size + 1) w2 w') ?_ ?_
    rotate_left
    · intro hCont
      refine two_ (i := 3) (j := 5) (Ni := some 19) (Nj := some 21) #[true, true, true, true, true, false, false, true, true, true, true, true, false, false, false] #[true, true, true, false, true, true, false, true, true, true, true, true, false, false, false] rfl rfl rfl rfl (two_of HT_.out (by kernel_rfl)) (by decide) (by decide) (fun K hK => ?_) (fun K hK => ?_)
      · skip
        refine goes_ Tryd.func57 (by kernel_rfl) rfl #[.slice (some ad) i c] (by rfl) rfl rfl (by (try simp only [List.map_toArray, List.map_cons, List.map_nil]); first | done | rfl) ?_
        refine (show Calls Tryd.prog _ #[.slice (some ad) i c] w2 _ from hlen ▸ Clone_calls (some ad) c (l.take i) w2 HX2.out (by omega)).mono ?_
        rintro e w3 ⟨v, rfl, hRv, bv⟩
        refine ⟨_, rfl, ?_⟩
        have hbx := bv.mono (show w.heap.size + 1 ≤ w2.heap.size from hg2.out)
        have hk3 := (hbx.block w.heap.size (by omega)).trans HK2.out
        refine hK.out _ _ ⟨(blk_cell hk3 0).trans rfl, (blk_cell hk3 1).trans rfl⟩ (fun hHeld3 => ?_)
        clear hK K
        refine norm_ (a' := ?_) ?_ ?_
        rotate_left
        · show Act.put _ (some 19) _ = _
          simp only [Act.put, List.setIfInBounds_toArray, List.set_cons_zero, List.set_cons_succ, i64_w, i32_w]
          rfl
        refine one_ (i := 5) (N := some 21) #[true, true, true, true, true, true, false, true, true, true, true, true, false, false, false] rfl rfl (one_of HT_.out (by kernel_rfl)) (by decide) (fun K hK => ?_)
        refine value_ (w1 := ?_) (v := ?_) (by rfl) rfl ?_ ?_
        rotate_left 2
        · go_simp
          constructor
          · rfl
          · rfl
        have hbx2 := hbx.alloc (show w.heap.size + 1 ≤ w3.heap.size from Nat.le_trans hg2.out hbx.size) (.cells #[.string f0, .string f1] 30)
        have hk4 := blk_alloc hk3 (.cells #[.string f0, .string f1] 30)
        refine hK.out _ _ ⟨(blk_cell hk4 0).trans rfl, (blk_cell hk4 1).trans rfl⟩ (fun hHeld4 => ?_)
        clear hK K
        refine norm_ (a' := ?_) ?_ ?_
        rotate_left
        · show Act.put _ (some 21) _ = _
          simp only [Act.put, List.setIfInBounds_toArray, List.set_cons_zero, List.set_cons_succ, i64_w, i32_w]
          rfl
        exact norm_ (by simp only [putAll, Act.put, List.setIfInBounds_toArray, List.set_cons_zero, List.set_cons_succ]) (hCont (v, w3.heap.size) _ ⟨Kd.R_alloc (Kd.R_lower hRv hg2.out) _, (lit_alloc w3 f0 f1).1, (lit_alloc w3 f0 f1).2, hbx2⟩)
      · skip
        refine value_ (w1 := ?_) (v := ?_) (by rfl) rfl ?_ ?_
        rotate_left 2
        · go_simp
          constructor
          · rfl
          · rfl
        have hb3 : Below (w.heap.size + 1) w2 (w2.alloc (.cells #[.string f0, .string f1] 30)) := (Below.refl _ w2).alloc hg2.out _
        have hC3 := Kd.C_alloc HX2.out (.cells #[.string f0, .string f1] 30)
        have hk3 := blk_alloc HK2.out (.cells #[.string f0, .string f1] 30)
        have hl3 := lit_alloc w2 f0 f1
        have hs3 : (w2.alloc (.cells #[.string f0, .string f1] 30)).heap.size = w2.heap.size + 1 := by simp
        refine hK.out _ _ ⟨(blk_cell hk3 0).trans rfl, (blk_cell hk3 1).trans rfl⟩ (fun hHeld3 => ?_)
        clear hK K
        refine norm_ (a' := ?_) ?_ ?_
        rotate_left
        · show Act.put _ (some 21) _ = _
          simp only [Act.put, List.setIfInBounds_toArray, List.set_cons_zero, List.set_cons_succ, i64_w, i32_w]
          rfl
        generalize w2.alloc (.cells #[.string f0, .string f1] 30) = w3 at hb3 hC3 hk3 hl3 hs3 hHeld3 ⊢
        refine one_ (i := 3) (N := some 19) #[true, true, true, true, true, true, false, true, true, true, true, true, false, false, false] rfl rfl (one_of HT_.out (by kernel_rfl)) (by decide) (fun K hK => ?_)
        refine goes_ Tryd.func57 (by kernel_rfl) rfl #[.slice (some ad) i c] (by rfl) rfl rfl (by (try simp only [List.map_toArray, List.map_cons, List.map_nil]); first | done | rfl) ?_
        refine (show Calls Tryd.prog _ #[.slice (some ad) i c] w3 _ from hlen ▸ Clone_calls (some ad) c (l.take i) w3 hC3 (by omega)).mono ?_
        rintro e w4 ⟨v, rfl, hRv, bv⟩
        refine ⟨_, rfl, ?_⟩
        have hbx := bv.mono (show w.heap.size + 1 ≤ w3.heap.size by have := hg2.out; omega)
        have hk4 := (hbx.block w.heap.size (by omega)).trans hk3
        refine hK.out _ _ ⟨(blk_cell hk4 0).trans rfl, (blk_cell hk4 1).trans rfl⟩ (fun hHeld4 => ?_)
        clear hK K
        refine norm_ (a' := ?_) ?_ ?_
        rotate_left
        · show Act.put _ (some 19) _ = _
          simp only [Act.put, List.setIfInBounds_toArray, List.set_cons_zero, List.set_cons_succ, i64_w, i32_w]
          rfl
        exact norm_ (by simp only [putAll, Act.put, List.setIfInBounds_toArray, List.set_cons_zero, List.set_cons_succ]) (hCont (v, w2.heap.size) _ ⟨Kd.R_lower hRv (show w.heap.size + 1 ≤ w3.heap.size by have := hg2.out; omega), (bv.cell (by show w2.heap.size < w3.heap.size; omega)).trans hl3.1, (bv.cell (by show w2.heap.size < w3.heap.size; omega)).trans hl3.2, hb3.trans hbx⟩)
    rintro ⟨v12, g14⟩ w5 ⟨h5_0, h5_1, h5_2, h5_3⟩
    have HR5 := hid h5_0
    have HL5 := hid (lit_cells h5_1 h5_2)
    have HB5 := hid h5_3
    have HK5 := hid ((h5_3.block w.heap.size (by omega)).trans HK2.out)
    have hg5 := hid (show w.heap.size + 1 ≤ w5.heap.size by have := hg2.out; have := h5_3.size; omega)
    clear h5_0 h5_1 h5_2 h5_3 hHeld
    refine norm_ (a' := ?_) ?_ ?_
    rotate_left
    · simp only [putAll, Act.put, List.setIfInBounds_toArray, List.set_cons_zero, List.set_cons_succ]
      rfl
    refine one_ (i := 6) (N := some 22) #[true, true, true, true, true, true, true, true, true, true, true, true, false, false, false] rfl rfl (one_of HT_.out (by kernel_rfl)) (by decide) (fun K hK => ?_)
    refine wp_append_fields (W := w5) (w.heap.size + 1) _ _ rfl v12 (l.take i) [⟨f0, f1⟩] ⟨g14, 0, none⟩ _ rfl rfl HR5.out HL5.out hg5.out (by show (l.take i).length + 1 ≤ 2000000000; omega) ?_
    intro vb w6 hRb hgb hob
    have hbb : Below (w.heap.size + 1) w5 w6 := (Below.refl _ w5).grown hgb hg5.out (fun k hk => Kd.R_base HR5.out k hk)
    have HR6 := hid hRb
    have HB6 := hid ((HB5.out).trans hbb)
    have HK6 := hid ((hbb.block w.heap.size (by omega)).trans HK5.out)
    have hg6 := hid (show w.heap.size + 1 ≤ w6.heap.size from Nat.le_trans hg5.out hbb.size)
    refine hK.out _ _ ⟨(blk_cell HK6.out 0).trans rfl, (blk_cell HK6.out 1).trans rfl⟩ (fun hHeld => ?_)
    clear hK K hRb hgb hob hbb HR5 HL5 HK5 hg5
    refine norm_ (a' := ?_) ?_ ?_
    rotate_left
    · show Act.put _ (some 22) _ = _
      simp only [Act.put, List.setIfInBounds_toArray, List.set_cons_zero, List.set_cons_succ, i64_w, i32_w]
      rfl
    have HD6 : Hid (Kd.C k30 w6 (some (ad.add (i * 2))) (l.drop i).length (l.drop i)) := by
      have h := Kd.C_below (Kd.C_drop HCC.out (show i ≤ l.length by omega) hc) (HB2.out.trans (HB6.out.mono (Nat.le_succ _)))
      rw [if_neg (by omega)] at h
      exact h
    refine one_ (i := 12) (N := some 28) #[true, true, true, true, true, true, true, true, true, true, true, true, true, false, false] rfl rfl (one_of HT_.out (by kernel_rfl)) (by decide) (fun K hK => ?_)
    refine goes_ Tryd.func15 (by kernel_rfl) rfl #[.slice (some (ad.add (i * 2))) (l.length - i) (c - i), .string f0] (by rfl) rfl rfl (by (try simp only [List.map_toArray, List.map_cons, List.map_nil]); first | done | rfl) ?_
    refine (show Calls Tryd.prog _ #[.slice (some (ad.add (i * 2))) (l.length - i) (c - i), .string f0] w6 _ from hlen2 ▸ head_Without.some (ad.add (i * 2)) (c - i) (l.drop i) f0 w6 HD6.out (by omega) hn (fun x hx => HZ.out x (List.mem_of_mem_drop hx))).mono ?_
    rintro e w7 ⟨g28, c28, rfl, hR28, bv⟩
    refine ⟨_, rfl, ?_⟩
    have HN7 := hid (flat_cells (Kd.R_reads' hR28).2.2)
    have HR7 := hid (Kd.R_below HR6.out bv)
    have HB7 := hid (HB6.out.trans (bv.mono hg6.out))
    have HK7 := hid ((bv.block w.heap.size (by have := hg6.out; omega)).trans HK6.out)
    have hg7 := hid (show w.heap.size + 1 ≤ w7.heap.size from Nat.le_trans hg6.out bv.size)
    refine hK.out _ _ ⟨(blk_cell HK7.out 0).trans rfl, (blk_cell HK7.out 1).trans rfl⟩ (fun hHeld => ?_)
    clear hK K hR28 bv HR6 HD6 HK6
    refine norm_ (a' := ?_) ?_ ?_
    rotate_left
    · show Act.put _ (some 28) _ = _
      simp only [Act.put, List.setIfInBounds_toArray, List.set_cons_zero, List.set_cons_succ, i64_w, i32_w]
      rfl
    have hw28 : (withoutL (l.drop i) f0).length ≤ l.length := Nat.le_trans (List.length_filter_le _ _) (by omega)
    refine one_ (i := 13) (N := some 29) #[true, true, true, true, true, true, true, true, true, true, true, true, true, true, false] rfl rfl (one_of HT_.out (by kernel_rfl)) (by decide) (fun K hK => ?_)
    refine wp_append_fields (W := w7) (w.heap.size + 1) _ _ rfl vb (l.take i ++ [⟨f0, f1⟩]) (withoutL (l.drop i) f0) ⟨g28, 0, none⟩ _ rfl rfl HR7.out HN7.out hg7.out (by rw [List.length_append]; show (l.take i).length + 1 + _ ≤ 2000000000; omega) ?_
    intro vc w8 hRc hgc hoc
    have hbc : Below (w.heap.size + 1) w7 w8 := (Below.refl _ w7).grown hgc hg7.out (fun k hk => Kd.R_base HR7.out k hk)
    have HR8 := hid hRc
    have HB8 := hid ((HB7.out).trans hbc)
    have HK8 := hid ((hbc.block w.heap.size (by omega)).trans HK7.out)
    refine hK.out _ _ ⟨(blk_cell HK8.out 0).trans rfl, (blk_cell HK8.out 1).trans rfl⟩ (fun hHeld => ?_)
    clear hK K hRc hgc hoc hbc HR7 HN7
    refine norm_ (a' := ?_) ?_ ?_
    rotate_left
    · show Act.put _ (some 29) _ = _
      simp only [Act.put, List.setIfInBounds_toArray, List.set_cons_zero, List.set_cons_succ, i64_w, i32_w]
      rfl
    refine pure_ (i := 14) (N := some 4) (v := ?_) (a' := ?_) #[true, true, true, true, true, true, true, true, true, true, true, true, true, true, true] rfl rfl (any_of HT_.out (by kernel_rfl)) (fun _ _ _ h => h) (Or.inl ⟨by rfl, ?_⟩) ?_ ?_
    rotate_left
    · intro w'
      go_simp
      with_reducible rfl
    rotate_left
    · simp only [Act.put, List.setIfInBounds_toArray, List.set_cons_zero, List.set_cons_succ, i64_w, i32_w]
      rfl
    refine done_ (done_of HT_.out (by kernel_rfl)) ?_
    try go_wp2
    go_ret
    refine ⟨_, rfl, ?_, HB2.out.trans (HB8.out.mono (by omega))⟩
    rw [← HR2.out]
    exact Kd.R_lower HR8.out (by omega)
end Go.Proofs.YtoikneogdbdplaaDoor.Fn
namespace Go.Proofs.YtoikneogdbdplaaDoor.Fn
open Go.RowKit Go.Proofs.YtoikneogdbdplaaDoorW.PrintWords Go.Proofs.YtoikneogdbdplaaDoorW.PrintLast Go.Proofs.YtoikneogdbdplaaDoorW.PrintMore
attribute [local go_sem] max2_int min2_int max_two min_two max_three min_three max_four min_four
set_option linter.unusedVariables false
set_option linter.unusedSimpArgs false

/-! ### bulletinlaw15_HeadPut: function 3 -/
mutual
def bulletinlaw15_HeadPut.j0 : Nat → List (S24) → ByteArray → Bool → ByteArray → ByteArray → Option (Bool)
 | 0, _, _, _, _, _ => none
 | k + 1, x0, x2, x36, x198000, x198001 => if x36 = true then (some true) else ((bulletinlaw15_To.f k x0).bind fun t200 => ((head_Put.f t200 x198000 x198001).bind fun t203 => ((head_Without.f t200 x198000).bind fun t206 => ((head_All.f k t203 x198000).bind fun t209 => (if (t209.length : Int) = 1 then (if 0 < (t209.length : Int) then (if (rdOf ByteArray.empty t209 0).toList = x198001.toList then ((head_All.f k t206 x198000).bind fun t213 => (bulletinlaw15_HeadPut.j1 k x2 t200 t203 t206 ((t213.length : Int) != 0) x198000 x198001)) else (bulletinlaw15_HeadPut.j1 k x2 t200 t203 t206 true x198000 x198001)) else (none)) else (bulletinlaw15_HeadPut.j1 k x2 t200 t203 t206 true x198000 x198001))))))
def bulletinlaw15_HeadPut.j1 : Nat → ByteArray → List (S30) → List (S30) → List (S30) → Bool → ByteArray → ByteArray → Option (Bool)
 | 0, _, _, _, _, _, _, _ => none
 | k + 1, x2, x7, x8, x9, x72, x198000, x198001 => if x72 = true then (some false) else ((bulletinref15_Same.f k x2 x198000).bind fun t216 => (if t216 = true then (some true) else ((head_All.f k x7 x2).bind fun t217 => ((head_All.f k x8 x2).bind fun t220 => ((head_All.f k x9 x2).bind fun t223 => (if (t217.length : Int) = (t220.length : Int) then (bulletinlaw15_HeadPut.j2 k t217 t220 t223 ((t217.length : Int) != (t223.length : Int))) else (bulletinlaw15_HeadPut.j2 k t217 t220 t223 true)))))))
def bulletinlaw15_HeadPut.j2 : Nat → List ByteArray → List ByteArray → List ByteArray → Bool → Option (Bool)
 | 0, _, _, _, _ => none
 | k + 1, x11, x12, x13, x97 => if x97 = true then (some false) else (bulletinlaw15_HeadPut.l0 k x11 x12 x13 (x11.length : Int) 0)
def bulletinlaw15_HeadPut.l0 : Nat → List ByteArray → List ByteArray → List ByteArray → Int → Int → Option (Bool)
 | 0, _, _, _, _, _ => none
 | k + 1, x11, x12, x13, x99, x100 => if x100 < x99 then (if 0 ≤ x100 then (if x100 < (x11.length : Int) then (if x100 < (x12.length : Int) then (if (rdOf ByteArray.empty x11 x100).toList = (rdOf ByteArray.empty x12 x100).toList then (if x100 < (x13.length : Int) then (if (rdOf ByteArray.empty x11 x100).toList = (rdOf ByteArray.empty x13 x100).toList then (bulletinlaw15_HeadPut.l0 k x11 x12 x13 x99 (wrap64 (x100 + 1))) else (some false)) else (none)) else (some false)) else (none)) else (none)) else (none)) else (some true)
end
def bulletinlaw15_HeadPut.f (k : Nat) (l0 : List (S24)) (a1_0 : ByteArray) (a1_1 : ByteArray) (a2 : ByteArray) : Option (Bool) := (bulletinlaw15_works.f k).bind fun t198 => (if t198 = true then ((bulletinlaw15_Light.f k l0).bind fun t199 => (if t199 = true then (if (a1_0.size : Int) > 200 then (bulletinlaw15_HeadPut.j0 k l0 a2 true a1_0 a1_1) else (if (a1_1.size : Int) > 3000 then (bulletinlaw15_HeadPut.j0 k l0 a2 true a1_0 a1_1) else (bulletinlaw15_HeadPut.j0 k l0 a2 (decide ((a2.size : Int) > 200)) a1_0 a1_1))) else (bulletinlaw15_HeadPut.j0 k l0 a2 true a1_0 a1_1))) else (some false))
def bulletinlaw15_HeadPut.T6 : Bool × List (List Nat × List Nat) := (true, [([], []), ([], []), ([1], [1]), ([], []), ([3], [3]), ([2, 4], [2, 4]), ([0, 5], [0, 5]), ([], []), ([], []), ([8], [8]), ([7, 9, 6], [7, 9]), ([6, 10, 0, 1, 2, 3, 4, 5, 6], [6]), ([10, 11, 0, 1, 2, 3, 4, 5, 6, 7, 8, 9, 10, 11], [10])])
def bulletinlaw15_HeadPut.B6 : List Nat := [0, 0, 2, 0, 8, 30, 63, 0, 0, 256, 1023, 2047, 4095]
theorem bulletinlaw15_HeadPut.tab6 : rtab .any (opsOf Tryd.f3 6) = bulletinlaw15_HeadPut.T6 := by kernel_rfl
theorem bulletinlaw15_HeadPut.bits6 : waitsOk bulletinlaw15_HeadPut.T6.2 bulletinlaw15_HeadPut.B6 = true := by kernel_rfl
def bulletinlaw15_HeadPut.T8 : Bool × List (List Nat × List Nat) := (true, [([], []), ([0], [0]), ([1], [1]), ([2], [2]), ([3], [3]), ([4, 3], [3, 4]), ([5, 3], [3, 5]), ([3], [3]), ([7, 3], [3, 7]), ([6, 8, 3], [3, 6, 8]), ([3, 9], [3, 9]), ([10, 3], [10]), ([11], [11]), ([11], [11]), ([13, 11], [11, 13]), ([12, 14, 11, 11], [11, 12, 14]), ([15, 11], [11, 15]), ([16, 11], [11, 16]), ([11, 17], [11, 17])])
def bulletinlaw15_HeadPut.B8 : List Nat := [0, 1, 3, 7, 15, 31, 63, 15, 143, 511, 1023, 2047, 4095, 4095, 12287, 32767, 65535, 131071, 262143]
theorem bulletinlaw15_HeadPut.tab8 : rtab .any (opsOf Tryd.f3 8) = bulletinlaw15_HeadPut.T8 := by kernel_rfl
theorem bulletinlaw15_HeadPut.bits8 : waitsOk bulletinlaw15_HeadPut.T8.2 bulletinlaw15_HeadPut.B8 = true := by kernel_rfl
def bulletinlaw15_HeadPut.T18 : Bool × List (List Nat × List Nat) := (true, [([], []), ([], []), ([0, 1], [0, 1]), ([2], [2]), ([], []), ([], []), ([4, 5], [4, 5]), ([6], [6]), ([3, 7], [3, 7]), ([8], [8]), ([9], [9]), ([9], [9]), ([10, 11, 9], [9, 10, 11]), ([12, 9], [9, 12]), ([9], [9]), ([9], [9]), ([14, 15, 9], [9, 14, 15]), ([16, 9], [9, 16]), ([13, 17, 9], [9, 13, 17]), ([9, 18], [9, 18])])
def bulletinlaw15_HeadPut.B18 : List Nat := [0, 0, 3, 7, 0, 0, 48, 112, 255, 511, 1023, 1023, 4095, 8191, 1023, 1023, 50175, 115711, 262143, 524287]
theorem bulletinlaw15_HeadPut.tab18 : rtab .any (opsOf Tryd.f3 18) = bulletinlaw15_HeadPut.T18 := by kernel_rfl
theorem bulletinlaw15_HeadPut.bits18 : waitsOk bulletinlaw15_HeadPut.T18.2 bulletinlaw15_HeadPut.B18 = true := by kernel_rfl
set_option maxHeartbeats 8000000 in
set_option maxRecDepth 100000 in
theorem bulletinlaw15_HeadPut.calls (k : Nat) (A0 : Option Addr) (c0 : Nat) (l0 : List (S24)) (a1_0 : ByteArray) (a1_1 : ByteArray) (a2 : ByteArray) (r : Bool) (w : World) (hG : Glob w) (hr0 : Kd.C k24 w A0 l0.length l0) (hc0 : l0.length ≤ c0) (h : bulletinlaw15_HeadPut.f k l0 a1_0 a1_1 a2 = some r) :
  Calls Tryd.prog 3 #[.slice A0 l0.length c0, .agg #[.string a1_0, .string a1_1], .string a2] w fun e w' => e = .returned (.bool r) ∧ Below w.heap.size w w' := by
 have hu24 := Tryd.underlying24
 have hu30 := Tryd.underlying30
 have HR0 := Aside0.mk hr0
 have HC0 := Aside0.mk hc0
 clear hr0 hc0
 have HB := Aside0.mk (Below.refl w.heap.size w)
 have H : ((bulletinlaw15_works.f k).bind fun t198 => (if t198 = true then ((bulletinlaw15_Light.f k l0).bind fun t199 => (if t199 = true then (if (a1_0.size : Int) > 200 then (bulletinlaw15_HeadPut.j0 k l0 a2 true a1_0 a1_1) else (if (a1_1.size : Int) > 3000 then (bulletinlaw15_HeadPut.j0 k l0 a2 true a1_0 a1_1) else (bulletinlaw15_HeadPut.j0 k l0 a2 (decide ((a2.size : Int) > 200)) a1_0 a1_1))) else (bulletinlaw15_HeadPut.j0 k l0 a2 true a1_0 a1_1))) else (some false))) = some r := h
 clear h
 replace H := Option.bind_eq_some_iff.mp H
 obtain ⟨t198, A40, H⟩ := H
 replace H : (if t198 = true then ((bulletinlaw15_Light.f k l0).bind fun t199 => (if t199 = true then (if (a1_0.size : Int) > 200 then (bulletinlaw15_HeadPut.j0 k l0 a2 true a1_0 a1_1) else (if (a1_1.size : Int) > 3000 then (bulletinlaw15_HeadPut.j0 k l0 a2 true a1_0 a1_1) else (bulletinlaw15_HeadPut.j0 k l0 a2 (decide ((a2.size : Int) > 200)) a1_0 a1_1))) else (bulletinlaw15_HeadPut.j0 k l0 a2 true a1_0 a1_1))) else (some false)) = some r := H
 have A4 := Aside0.mk A40
 clear A40
 by_cases c5 : t198 = true
 ·subst c5
  have H1 : ((bulletinlaw15_Light.f k l0).bind fun t199 => (if t199 = true then (if (a1_0.size : Int) > 200 then (bulletinlaw15_HeadPut.j0 k l0 a2 true a1_0 a1_1) else (if (a1_1.size : Int) > 3000 then (bulletinlaw15_HeadPut.j0 k l0 a2 true a1_0 a1_1) else (bulletinlaw15_HeadPut.j0 k l0 a2 (decide ((a2.size : Int) > 200)) a1_0 a1_1))) else (bulletinlaw15_HeadPut.j0 k l0 a2 true a1_0 a1_1))) = some r := by rw [if_pos rfl] at H; exact H
  clear H
  have H := H1
  clear H1
  have HC6 := Aside0.mk H
  clear H
  go_enter Tryd.func3, Tryd.ntmps3
  go_upto_region 3 with (first | ((with_reducible refine gate_dst (N := 4) rfl ?_); (try (refine gate_guard (by rfl) ?_; dsimp only)); refine box_event ?hg (N := 4) ?hd (cs := #[.string a1_0, .string a1_1]) (t := 24) ?hr ?_; (case hd => rfl); (case hg => rfl); (case hr => first | (go_simp; done) | (go_simp; rfl)); intro gb197 hg w7 hbox hb; have n0_ := Aside0.mk (below_step bw hb); have n1_ := Aside0.mk (hbox); have n2_ := Aside0.mk ((by rw [hg]; exact (below_size bw) : w.heap.size ≤ gb197)); have n3_ := Aside0.mk ((by rw [hg]; exact (below_size bw) : w.heap.size ≤ gb197)); clear HB; have HB := n0_; have BK197 := n1_; have GW197 := n2_; have GE197 := n3_; clear n0_ n1_ n2_ n3_; clear hb hbox hg) | ((with_reducible refine gate_callee (f := 11) rfl ?_); refine goesL_ (some 15) rfl rfl Tryd.func11 (by kernel_rfl) rfl #[] rfl am ?_; (with_reducible refine (bulletinlaw15_works.calls (hG := by first | exact hG | exact Glob.below hG (by first | exact HB.out | (repeat (first | (with_reducible first | exact HB.out | apply below_alloc | apply pw_below_drewN | apply below_drew1 | refine below_set ?_ GE197.out) | exact HB.out))) | exact Glob.drawn hG (by repeat (first | exact Drawn0.refl _ | apply Drawn0.step))) k  true _ A4.out).mono ?_); rintro e w8 ⟨rfl, hb⟩; refine ⟨_, rfl, ?_⟩; have n0_ := Aside0.mk (blk_below (g := gb197) (o := .cells #[.string a1_0, .string a1_1] 24 (0, 0)) bk hb); have n1_ := Aside0.mk (below_step bwS hb); clear BK197; clear HB; have BK197 := n0_; have HB := n1_; clear n0_ n1_; (try clear hb); (try clear hb2); (try clear hk); (try clear hi)))
  (try simp only [Act.put, List.setIfInBounds_toArray, List.set_cons_zero, List.set_cons_succ])
  go_cut [36] (fun v36 wc => ∃ (kq : Nat) (x36_5 : Bool), v36 = .bool x36_5 ∧ Aside0 (bulletinlaw15_HeadPut.j0 kq l0 a2 x36_5 a1_0 a1_1 = some r) ∧ Aside0 (kq ≤ k) ∧ Aside0 (wc.heap[gb197]? = some (.cells #[.string a1_0, .string a1_1] 24 (0, 0))) ∧ Aside0 (Below w.heap.size w wc))
  case first =>
   have H := HC6.out
   clear HC6
   replace H := Option.bind_eq_some_iff.mp H
   obtain ⟨t199, A90, H⟩ := H
   replace H : (if t199 = true then (if (a1_0.size : Int) > 200 then (bulletinlaw15_HeadPut.j0 k l0 a2 true a1_0 a1_1) else (if (a1_1.size : Int) > 3000 then (bulletinlaw15_HeadPut.j0 k l0 a2 true a1_0 a1_1) else (bulletinlaw15_HeadPut.j0 k l0 a2 (decide ((a2.size : Int) > 200)) a1_0 a1_1))) else (bulletinlaw15_HeadPut.j0 k l0 a2 true a1_0 a1_1)) = some r := H
   have A9 := Aside0.mk A90
   clear A90
   by_cases c10 : t199 = true
   ·subst c10
    have H1 : (if (a1_0.size : Int) > 200 then (bulletinlaw15_HeadPut.j0 k l0 a2 true a1_0 a1_1) else (if (a1_1.size : Int) > 3000 then (bulletinlaw15_HeadPut.j0 k l0 a2 true a1_0 a1_1) else (bulletinlaw15_HeadPut.j0 k l0 a2 (decide ((a2.size : Int) > 200)) a1_0 a1_1))) = some r := by rw [if_pos rfl] at H; exact H
    clear H
    have H := H1
    clear H1
    by_cases c11 : (a1_0.size : Int) > 200
    ·rw [if_pos c11] at H
     have c11b0 : decide (200 < (a1_0.size : Int)) = true := decide_eq_true c11
     have c11b1 : decide (200 < a1_0.size) = true := decide_eq_true (by omega)
     clear c11
     (first | rw [c11b0] | (simp only [i64_w, i32_w]; rw [c11b0]) | skip)
     have H' := Aside0.mk H
     clear H
     as_aux_lemma =>
      go_wp2_with (first | ((with_reducible refine gate_callee (f := 12) rfl ?_); refine goesL_ (some 18) rfl rfl Tryd.func12 (by kernel_rfl) rfl #[.slice A0 l0.length c0] rfl am ?_; (with_reducible refine (bulletinlaw15_Light.calls k _ _ l0 true _ ?side1 ?side2 A9.out).mono ?_); (case side1 => repeat (first | exact (Kd.C_below HR0.out HB.out) | (with_reducible refine Kd.C_alloc ?_ _) | (with_reducible refine Kd.C_drewN ?_ _) | (with_reducible refine Kd.C_drew ?_))); (case side2 => exact HC0.out); rintro e w' ⟨rfl, ⟨nd, rfl⟩⟩; refine ⟨_, rfl, ?_⟩; have hcz12_0 : w8.cell? ⟨gb197, 0, none⟩ = some (.string a1_0) := (blk_cell BK197.out 0).trans rfl; have hcz12_1 : w8.cell? ⟨gb197, 1, none⟩ = some (.string a1_1) := (blk_cell BK197.out 1).trans rfl; have hfz12_0 := blk_frozen BK197.out 0; have hfz12_1 := blk_frozen BK197.out 1))
      go_meet
      case rel => exact ⟨_, (true), cl, H', ⟨by first | omega | exact Nat.le_refl _⟩, ⟨bk⟩, ⟨bwS⟩⟩
    ·rw [if_neg c11] at H
     have c11b0 : decide (200 < (a1_0.size : Int)) = false := decide_eq_false c11
     have c11b1 : decide (200 < a1_0.size) = false := decide_eq_false (by omega)
     clear c11
     (first | rw [c11b0] | (simp only [i64_w, i32_w]; rw [c11b0]) | skip)
     by_cases c13 : (a1_1.size : Int) > 3000
     ·rw [if_pos c13] at H
      have c13b0 : decide (3000 < (a1_1.size : Int)) = true := decide_eq_true c13
      have c13b1 : decide (3000 < a1_1.size) = true := decide_eq_true (by omega)
      clear c13
      have H' := Aside0.mk H
      clear H
      as_aux_lemma =>
       go_wp2_with (first | ((with_reducible refine gate_callee (f := 12) rfl ?_); refine goesL_ (some 18) rfl rfl Tryd.func12 (by kernel_rfl) rfl #[.slice A0 l0.length c0] rfl am ?_; (with_reducible refine (bulletinlaw15_Light.calls k _ _ l0 true _ ?side1 ?side2 A9.out).mono ?_); (case side1 => repeat (first | exact (Kd.C_below HR0.out HB.out) | (with_reducible refine Kd.C_alloc ?_ _) | (with_reducible refine Kd.C_drewN ?_ _) | (with_reducible refine Kd.C_drew ?_))); (case side2 => exact HC0.out); rintro e w' ⟨rfl, ⟨nd, rfl⟩⟩; refine ⟨_, rfl, ?_⟩; have hcz14_0 : w8.cell? ⟨gb197, 0, none⟩ = some (.string a1_0) := (blk_cell BK197.out 0).trans rfl; have hcz14_1 : w8.cell? ⟨gb197, 1, none⟩ = some (.string a1_1) := (blk_cell BK197.out 1).trans rfl; have hfz14_0 := blk_frozen BK197.out 0; have hfz14_1 := blk_frozen BK197.out 1))
       go_meet
       case rel => exact ⟨_, (true), cl, H', ⟨by first | omega | exact Nat.le_refl _⟩, ⟨bk⟩, ⟨bwS⟩⟩
     ·rw [if_neg c13] at H
      have c13b0 : decide (3000 < (a1_1.size : Int)) = false := decide_eq_false c13
      have c13b1 : decide (3000 < a1_1.size) = false := decide_eq_false (by omega)
      clear c13
      have H' := Aside0.mk H
      clear H
      as_aux_lemma =>
       go_wp2_with (first | ((with_reducible refine gate_callee (f := 12) rfl ?_); refine goesL_ (some 18) rfl rfl Tryd.func12 (by kernel_rfl) rfl #[.slice A0 l0.length c0] rfl am ?_; (with_reducible refine (bulletinlaw15_Light.calls k _ _ l0 true _ ?side1 ?side2 A9.out).mono ?_); (case side1 => repeat (first | exact (Kd.C_below HR0.out HB.out) | (with_reducible refine Kd.C_alloc ?_ _) | (with_reducible refine Kd.C_drewN ?_ _) | (with_reducible refine Kd.C_drew ?_))); (case side2 => exact HC0.out); rintro e w' ⟨rfl, ⟨nd, rfl⟩⟩; refine ⟨_, rfl, ?_⟩; have hcz15_0 : w8.cell? ⟨gb197, 0, none⟩ = some (.string a1_0) := (blk_cell BK197.out 0).trans rfl; have hcz15_1 : w8.cell? ⟨gb197, 1, none⟩ = some (.string a1_1) := (blk_cell BK197.out 1).trans rfl; have hfz15_0 := blk_frozen BK197.out 0; have hfz15_1 := blk_frozen BK197.out 1))
       go_meet
       case rel => exact ⟨_, (decide ((a2.size : Int) > 200)), cl, H', ⟨by first | omega | exact Nat.le_refl _⟩, ⟨bk⟩, ⟨bwS⟩⟩
   ·replace c10 := Bool.eq_false_iff.mpr c10
    subst c10
    have H1 : (bulletinlaw15_HeadPut.j0 k l0 a2 true a1_0 a1_1) = some r := by rw [if_neg (show ¬ (false = true) by decide)] at H; exact H
    clear H
    have H := H1
    clear H1
    have H' := Aside0.mk H
    clear H
    as_aux_lemma =>
     go_wp2_with (first | ((with_reducible refine gate_callee (f := 12) rfl ?_); refine goesL_ (some 18) rfl rfl Tryd.func12 (by kernel_rfl) rfl #[.slice A0 l0.length c0] rfl am ?_; (with_reducible refine (bulletinlaw15_Light.calls k _ _ l0 false _ ?side1 ?side2 A9.out).mono ?_); (case side1 => repeat (first | exact (Kd.C_below HR0.out HB.out) | (with_reducible refine Kd.C_alloc ?_ _) | (with_reducible refine Kd.C_drewN ?_ _) | (with_reducible refine Kd.C_drew ?_))); (case side2 => exact HC0.out); rintro e w' ⟨rfl, ⟨nd, rfl⟩⟩; refine ⟨_, rfl, ?_⟩))
     go_meet
     case rel => exact ⟨_, (true), cl, H', ⟨by first | omega | exact Nat.le_refl _⟩, ⟨bk⟩, ⟨bwS⟩⟩
  case rest =>
   clear HC6
   try clear c1
   try clear p2
   try clear c3
   try clear c5
   try clear c10
   try clear c11
   try clear c11b0
   try clear c11b1
   try clear c12
   try clear c13
   try clear c13b0
   try clear c13b1
   try clear hcz12_0
   try clear hcz12_1
   try clear hcz14_0
   try clear hcz14_1
   try clear hcz15_0
   try clear hcz15_1
   try clear hfz12_0
   try clear hfz12_1
   try clear hfz14_0
   try clear hfz14_1
   try clear hfz15_0
   try clear hfz15_1
   obtain ⟨kq, x36_5, rfl, HA, HJ5, BK197, HB⟩ := hcut
   cases kq with
   | zero => exact absurd HA.out (by simp [bulletinlaw15_HeadPut.j0])
   | succ kj5 =>
    have H := HA.out
    clear HA
    simp only [bulletinlaw15_HeadPut.j0] at H
    by_cases c16 : x36_5 = true
    ·subst c16
     have H1 : (some true) = some r := by rw [if_pos rfl] at H; exact H
     clear H
     have H := H1
     clear H1
     obtain rfl := Option.some.inj H
     as_aux_lemma =>
      go_wp2
      go_ret
      exact ⟨by first | rfl | (simp [errW_none, errW_some] <;> rfl) | (simp [*, errW_none, errW_some] <;> rfl), bwS⟩
    ·replace c16 := Bool.eq_false_iff.mpr c16
     subst c16
     have H1 : ((bulletinlaw15_To.f kj5 l0).bind fun t200 => ((head_Put.f t200 a1_0 a1_1).bind fun t203 => ((head_Without.f t200 a1_0).bind fun t206 => ((head_All.f kj5 t203 a1_0).bind fun t209 => (if (t209.length : Int) = 1 then (if 0 < (t209.length : Int) then (if (rdOf ByteArray.empty t209 0).toList = a1_1.toList then ((head_All.f kj5 t206 a1_0).bind fun t213 => (bulletinlaw15_HeadPut.j1 kj5 a2 t200 t203 t206 ((t213.length : Int) != 0) a1_0 a1_1)) else (bulletinlaw15_HeadPut.j1 kj5 a2 t200 t203 t206 true a1_0 a1_1)) else (none)) else (bulletinlaw15_HeadPut.j1 kj5 a2 t200 t203 t206 true a1_0 a1_1)))))) = some r := by rw [if_neg (show ¬ (false = true) by decide)] at H; exact H
     clear H
     have H := H1
     clear H1
     replace H := Option.bind_eq_some_iff.mp H
     obtain ⟨t200, A170, H⟩ := H
     replace H : ((head_Put.f t200 a1_0 a1_1).bind fun t203 => ((head_Without.f t200 a1_0).bind fun t206 => ((head_All.f kj5 t203 a1_0).bind fun t209 => (if (t209.length : Int) = 1 then (if 0 < (t209.length : Int) then (if (rdOf ByteArray.empty t209 0).toList = a1_1.toList then ((head_All.f kj5 t206 a1_0).bind fun t213 => (bulletinlaw15_HeadPut.j1 kj5 a2 t200 t203 t206 ((t213.length : Int) != 0) a1_0 a1_1)) else (bulletinlaw15_HeadPut.j1 kj5 a2 t200 t203 t206 true a1_0 a1_1)) else (none)) else (bulletinlaw15_HeadPut.j1 kj5 a2 t200 t203 t206 true a1_0 a1_1))))) = some r := H
     have A17 := Aside0.mk A170
     clear A170
     replace H := Option.bind_eq_some_iff.mp H
     obtain ⟨t203, A180, H⟩ := H
     replace H : ((head_Without.f t200 a1_0).bind fun t206 => ((head_All.f kj5 t203 a1_0).bind fun t209 => (if (t209.length : Int) = 1 then (if 0 < (t209.length : Int) then (if (rdOf ByteArray.empty t209 0).toList = a1_1.toList then ((head_All.f kj5 t206 a1_0).bind fun t213 => (bulletinlaw15_HeadPut.j1 kj5 a2 t200 t203 t206 ((t213.length : Int) != 0) a1_0 a1_1)) else (bulletinlaw15_HeadPut.j1 kj5 a2 t200 t203 t206 true a1_0 a1_1)) else (none)) else (bulletinlaw15_HeadPut.j1 kj5 a2 t200 t203 t206 true a1_0 a1_1)))) = some r := H
     have A18 := Aside0.mk A180
     clear A180
     replace H := Option.bind_eq_some_iff.mp H
     obtain ⟨t206, A190, H⟩ := H
     replace H : ((head_All.f kj5 t203 a1_0).bind fun t209 => (if (t209.length : Int) = 1 then (if 0 < (t209.length : Int) then (if (rdOf ByteArray.empty t209 0).toList = a1_1.toList then ((head_All.f kj5 t206 a1_0).bind fun t213 => (bulletinlaw15_HeadPut.j1 kj5 a2 t200 t203 t206 ((t213.length : Int) != 0) a1_0 a1_1)) else (bulletinlaw15_HeadPut.j1 kj5 a2 t200 t203 t206 true a1_0 a1_1)) else (none)) else (bulletinlaw15_HeadPut.j1 kj5 a2 t200 t203 t206 true a1_0 a1_1))) = some r := H
     have A19 := Aside0.mk A190
     clear A190
     replace H := Option.bind_eq_some_iff.mp H
     obtain ⟨t209, A200, H⟩ := H
     replace H : (if (t209.length : Int) = 1 then (if 0 < (t209.length : Int) then (if (rdOf ByteArray.empty t209 0).toList = a1_1.toList then ((head_All.f kj5 t206 a1_0).bind fun t213 => (bulletinlaw15_HeadPut.j1 kj5 a2 t200 t203 t206 ((t213.length : Int) != 0) a1_0 a1_1)) else (bulletinlaw15_HeadPut.j1 kj5 a2 t200 t203 t206 true a1_0 a1_1)) else (none)) else (bulletinlaw15_HeadPut.j1 kj5 a2 t200 t203 t206 true a1_0 a1_1)) = some r := H
     have A20 := Aside0.mk A200
     clear A200
     have HC21 := Aside0.mk H
     clear H
     as_aux_lemma =>
      try go_wp2_with (first | ((with_reducible refine gate_callee (f := 13) rfl ?_); refine goesL_ (some 38) rfl rfl Tryd.func13 (by kernel_rfl) rfl #[.slice A0 l0.length c0] rfl am ?_; (with_reducible refine (bulletinlaw15_To.calls kj5 _ _ l0 t200 _ ?side1 ?side2 A17.out).mono ?_); (case side1 => repeat (first | exact (Kd.C_below HR0.out HB.out) | (with_reducible refine Kd.C_alloc ?_ _) | (with_reducible refine Kd.C_drewN ?_ _) | (with_reducible refine Kd.C_drew ?_))); (case side2 => exact HC0.out); rintro e w22 ⟨v201, rfl, ho0, hb⟩; refine ⟨_, rfl, ?_⟩; have n0_ := Aside0.mk (Kd.R_lower ho0 (below_size bwS)); have n1_ := Aside0.mk (blk_below (g := gb197) (o := .cells #[.string a1_0, .string a1_1] 24 (0, 0)) bk hb); have n2_ := Aside0.mk (below_step bwS hb); clear BK197; clear HB; have HO202 := n0_; have BK197 := n1_; have HB := n2_; clear n0_ n1_ n2_; (try clear hb); (try clear hb2); (try clear hk); (try clear hi); (try clear ho0)))
      have n0_ := Aside0.mk (Kd.R_drew HO202.out)
      have n1_ := Aside0.mk (blk_drew BK197.out)
      have n2_ := Aside0.mk (below_drew1 HB.out)
      clear HO202
      clear BK197
      clear HB
      have HO202 := n0_
      have BK197 := n1_
      have HB := n2_
      clear n0_ n1_ n2_
      obtain ⟨Ao24, co24, eo24⟩ := Kd.R_slice HO202.out
      (first | subst eo24 | (injection eo24 with f1_ f2_ f3_; have f4_ := f1_.symm; have f5_ := f3_.symm; clear f1_ f2_ f3_; subst f4_; subst f5_))
      refine start_ (n := 13) (S := fun w' => w'.cell? ⟨gb197, 0, none⟩ = some (.string a1_0) ∧ w'.cell? ⟨gb197, 1, none⟩ = some (.string a1_1)) (ds := []) #[false, false, false, false, false, false, false, false, false, false, false, false, false] (by kernel_rfl) rfl rfl ⟨(blk_cell BK197.out 0).trans rfl, (blk_cell BK197.out 1).trans rfl⟩ (fun hHeld => ?_); refine with_tabW bulletinlaw15_HeadPut.tab6 bulletinlaw15_HeadPut.bits6 (fun HT_ HW_ => ?_)
      generalize w22.drew = w23 at HO202 BK197 HB hHeld ⊢
      refine pure_ (i := 0) (N := some 39) (v := ?_) (a' := ?_) (bitsL 13 1) rfl rfl (any_of HT_.out (by kernel_rfl)) (fun _ _ _ h => h) (Or.inl ⟨by rfl, ?_⟩) ?_ ?_
      rotate_left
      ·intro w'
       go_simp
       with_reducible rfl
      rotate_left
      ·simp only [Act.put, List.setIfInBounds_toArray, List.set_cons_zero, List.set_cons_succ, i64_w, i32_w]
       rfl
      refine pure_ (i := 1) (N := some 40) (v := ?_) (a' := ?_) (bitsL 13 3) rfl rfl (any_of HT_.out (by kernel_rfl)) (fun _ _ _ h => h) (Or.inl ⟨by rfl, ?_⟩) ?_ ?_
      rotate_left
      ·intro w'
       go_simp
       with_reducible rfl
      rotate_left
      ·simp only [Act.put, List.setIfInBounds_toArray, List.set_cons_zero, List.set_cons_succ, i64_w, i32_w]
       rfl
      refine pure_ (i := 3) (N := some 42) (v := ?_) (a' := ?_) (bitsL 13 11) rfl rfl (any_of HT_.out (by kernel_rfl)) (fun _ _ _ h => h) (Or.inl ⟨by rfl, ?_⟩) ?_ ?_
      rotate_left
      ·intro w'
       go_simp
       with_reducible rfl
      rotate_left
      ·simp only [Act.put, List.setIfInBounds_toArray, List.set_cons_zero, List.set_cons_succ, i64_w, i32_w]
       rfl
      refine pure_ (i := 7) (N := some 46) (v := ?_) (a' := ?_) (bitsL 13 139) rfl rfl (any_of HT_.out (by kernel_rfl)) (fun _ _ _ h => h) (Or.inl ⟨by rfl, ?_⟩) ?_ ?_
      rotate_left
      ·intro w'
       go_simp
       with_reducible rfl
      rotate_left
      ·simp only [Act.put, List.setIfInBounds_toArray, List.set_cons_zero, List.set_cons_succ, i64_w, i32_w]
       rfl
      refine pure_ (i := 8) (N := some 47) (v := ?_) (a' := ?_) (bitsL 13 395) rfl rfl (any_of HT_.out (by kernel_rfl)) (fun _ _ _ h => h) (Or.inl ⟨by rfl, ?_⟩) ?_ ?_
      rotate_left
      ·intro w'
       go_simp
       with_reducible rfl
      rotate_left
      ·simp only [Act.put, List.setIfInBounds_toArray, List.set_cons_zero, List.set_cons_succ, i64_w, i32_w]
       rfl
      refine take_ (i := 2) (N := some 41) (v := ?_) (a' := ?_) (bitsL 13 399) rfl rfl (take_ofW HT_.out HW_.out (by kernel_rfl)) (fun _ _ _ h => h) (Or.inl ⟨by rfl, ?_⟩) hHeld ?_ ?_
      rotate_left
      ·rintro w' ⟨s0, s1⟩
       go_simp
       with_reducible rfl
      rotate_left
      ·simp only [Act.put, List.setIfInBounds_toArray, List.set_cons_zero, List.set_cons_succ, i64_w, i32_w]
       rfl
      refine take_ (i := 4) (N := some 43) (v := ?_) (a' := ?_) (bitsL 13 415) rfl rfl (take_ofW HT_.out HW_.out (by kernel_rfl)) (fun _ _ _ h => h) (Or.inl ⟨by rfl, ?_⟩) hHeld ?_ ?_
      rotate_left
      ·rintro w' ⟨s0, s1⟩
       go_simp
       with_reducible rfl
      rotate_left
      ·simp only [Act.put, List.setIfInBounds_toArray, List.set_cons_zero, List.set_cons_succ, i64_w, i32_w]
       rfl
      refine pure_ (i := 5) (N := some 44) (v := ?_) (a' := ?_) (bitsL 13 447) rfl rfl (any_of HT_.out (by kernel_rfl)) (fun _ _ _ h => h) (Or.inl ⟨by rfl, ?_⟩) ?_ ?_
      rotate_left
      ·intro w'
       go_simp
       with_reducible rfl
      rotate_left
      ·simp only [Act.put, List.setIfInBounds_toArray, List.set_cons_zero, List.set_cons_succ, i64_w, i32_w]
       rfl
      refine take_ (i := 9) (N := some 48) (v := ?_) (a' := ?_) (bitsL 13 959) rfl rfl (take_ofW HT_.out HW_.out (by kernel_rfl)) (fun _ _ _ h => h) (Or.inl ⟨by rfl, ?_⟩) hHeld ?_ ?_
      rotate_left
      ·rintro w' ⟨s0, s1⟩
       go_simp
       with_reducible rfl
      rotate_left
      ·simp only [Act.put, List.setIfInBounds_toArray, List.set_cons_zero, List.set_cons_succ, i64_w, i32_w]
       rfl
      refine one_ (i := 6) (N := some 45) (bitsL 13 1023) rfl rfl (one_of HT_.out (by kernel_rfl)) (by decide) (fun K hK => ?_)
      refine goes_ Tryd.func14 (by kernel_rfl) rfl #[.slice Ao24 t200.length co24, .agg #[.string a1_0, .string a1_1]] (by rfl) rfl rfl am ?_
      with_reducible refine (head_Put.calls _ _ t200 a1_0 a1_1 t203 _ ?side1 ?side2 A18.out).mono ?_
      (case side1 => repeat (first | exact (Kd.R_reads' HO202.out).2.2 | (with_reducible refine Kd.C_alloc ?_ _) | (with_reducible refine Kd.C_drewN ?_ _) | (with_reducible refine Kd.C_drew ?_)))
      (case side2 => exact (Kd.R_reads' HO202.out).2.1)
      rintro e w25 ⟨v204, rfl, ho0, hb⟩
      refine ⟨_, rfl, ?_⟩
      have n0_ := Aside0.mk (Kd.R_elder' (by (with_reducible repeat (first | apply Kd.R_alloc | apply Kd.R_drewN | apply Kd.R_drew)); exact HO202.out) (Kd.R_base ho0) hb)
      have n1_ := Aside0.mk (Kd.R_lower (Kd.R_new' ho0 (Kd.R_lt (by (with_reducible repeat (first | apply Kd.R_alloc | apply Kd.R_drewN | apply Kd.R_drew)); exact HO202.out))) (below_size bwS))
      have n2_ := Aside0.mk (blk_below (g := gb197) (o := .cells #[.string a1_0, .string a1_1] 24 (0, 0)) bk hb)
      have n3_ := Aside0.mk (below_step bwS hb)
      clear HO202
      clear BK197
      clear HB
      have HO202 := n0_
      have HO205 := n1_
      have BK197 := n2_
      have HB := n3_
      clear n0_ n1_ n2_ n3_
      (try clear hb)
      (try clear hb2)
      (try clear hk)
      (try clear hi)
      (try clear ho0)
      refine hK.out _ _ ⟨(blk_cell BK197.out 0).trans rfl, (blk_cell BK197.out 1).trans rfl⟩ (fun hHeld => ?_)
      clear hK K
      refine norm_ (a' := ?_) ?_ ?_
      rotate_left
      ·show Act.put _ (some 45) _ = _
       simp only [Act.put, List.setIfInBounds_toArray, List.set_cons_zero, List.set_cons_succ, i64_w, i32_w]
       rfl
      refine one_ (i := 10) (N := some 49) (bitsL 13 2047) rfl rfl (one_of HT_.out (by kernel_rfl)) (by decide) (fun K hK => ?_)
      refine goes_ Tryd.func15 (by kernel_rfl) rfl #[.slice Ao24 t200.length co24, .string a1_0] (by rfl) rfl rfl am ?_
      with_reducible refine (head_Without.calls _ _ t200 a1_0 t206 _ ?side1 ?side2 A19.out).mono ?_
      (case side1 => repeat (first | exact (Kd.R_reads' HO202.out).2.2 | (with_reducible refine Kd.C_alloc ?_ _) | (with_reducible refine Kd.C_drewN ?_ _) | (with_reducible refine Kd.C_drew ?_)))
      (case side2 => exact (Kd.R_reads' HO202.out).2.1)
      rintro e w26 ⟨v207, rfl, ho0, hb⟩
      refine ⟨_, rfl, ?_⟩
      have n0_ := Aside0.mk (Kd.R_elder' (by (with_reducible repeat (first | apply Kd.R_alloc | apply Kd.R_drewN | apply Kd.R_drew)); exact HO202.out) (Kd.R_base ho0) hb)
      have n1_ := Aside0.mk (Kd.R_elder' (by (with_reducible repeat (first | apply Kd.R_alloc | apply Kd.R_drewN | apply Kd.R_drew)); exact HO205.out) (Kd.R_base ho0) hb)
      have n2_ := Aside0.mk (Kd.R_lower (Kd.R_new' (Kd.R_new' ho0 (Kd.R_lt (by (with_reducible repeat (first | apply Kd.R_alloc | apply Kd.R_drewN | apply Kd.R_drew)); exact HO202.out))) (Kd.R_lt (by (with_reducible repeat (first | apply Kd.R_alloc | apply Kd.R_drewN | apply Kd.R_drew)); exact HO205.out))) (below_size bwS))
      have n3_ := Aside0.mk (blk_below (g := gb197) (o := .cells #[.string a1_0, .string a1_1] 24 (0, 0)) bk hb)
      have n4_ := Aside0.mk (below_step bwS hb)
      clear HO202
      clear HO205
      clear BK197
      clear HB
      have HO202 := n0_
      have HO205 := n1_
      have HO208 := n2_
      have BK197 := n3_
      have HB := n4_
      clear n0_ n1_ n2_ n3_ n4_
      (try clear hb)
      (try clear hb2)
      (try clear hk)
      (try clear hi)
      (try clear ho0)
      refine hK.out _ _ ⟨(blk_cell BK197.out 0).trans rfl, (blk_cell BK197.out 1).trans rfl⟩ (fun hHeld => ?_)
      clear hK K
      refine norm_ (a' := ?_) ?_ ?_
      rotate_left
      ·show Act.put _ (some 49) _ = _
       simp only [Act.put, List.setIfInBounds_toArray, List.set_cons_zero, List.set_cons_succ, i64_w, i32_w]
       rfl
      refine pure_ (i := 11) (N := some 8) (v := ?_) (a' := ?_) (bitsL 13 4095) rfl rfl (any_of HT_.out (by kernel_rfl)) (fun _ _ _ h => h) (Or.inl ⟨by rfl, ?_⟩) ?_ ?_
      rotate_left
      ·intro w'
       go_simp
       with_reducible rfl
      rotate_left
      ·simp only [Act.put, List.setIfInBounds_toArray, List.set_cons_zero, List.set_cons_succ, i64_w, i32_w]
       rfl
      refine pure_ (i := 12) (N := some 9) (v := ?_) (a' := ?_) (bitsL 13 8191) rfl rfl (any_of HT_.out (by kernel_rfl)) (fun _ _ _ h => h) (Or.inl ⟨by rfl, ?_⟩) ?_ ?_
      rotate_left
      ·intro w'
       go_simp
       with_reducible rfl
      rotate_left
      ·simp only [Act.put, List.setIfInBounds_toArray, List.set_cons_zero, List.set_cons_succ, i64_w, i32_w]
       rfl
      refine done_ (done_of HT_.out (by kernel_rfl)) ?_
      have hcz27_0 : w26.cell? ⟨gb197, 0, none⟩ = some (.string a1_0) := (blk_cell BK197.out 0).trans rfl
      have hcz27_1 : w26.cell? ⟨gb197, 1, none⟩ = some (.string a1_1) := (blk_cell BK197.out 1).trans rfl
      have hfz27_0 := blk_frozen BK197.out 0
      have hfz27_1 := blk_frozen BK197.out 1
      obtain ⟨Ao28, co28, eo28⟩ := Kd.R_slice HO205.out
      subst eo28
      go_upto_region 8 with (first | ((with_reducible refine gate_callee (f := 16) rfl ?_); refine goesL_ (some 53) rfl rfl Tryd.func16 (by kernel_rfl) rfl #[.slice Ao28 t203.length co28, .string a1_0] rfl am ?_; (with_reducible refine (head_All.calls kj5 _ _ t203 a1_0 t209 _ ?side1 ?side2 A20.out).mono ?_); (case side1 => repeat (first | exact (Kd.R_reads' HO205.out).2.2 | (with_reducible refine Kd.C_alloc ?_ _) | (with_reducible refine Kd.C_drewN ?_ _) | (with_reducible refine Kd.C_drew ?_))); (case side2 => exact (Kd.R_reads' HO205.out).2.1); rintro e w29 ⟨v210, rfl, ho0, hb⟩; refine ⟨_, rfl, ?_⟩; have n0_ := Aside0.mk (Kd.R_below (by (with_reducible repeat (first | apply Kd.R_alloc | apply Kd.R_drewN | apply Kd.R_drew)); exact HO202.out) hb); have n1_ := Aside0.mk (Kd.R_below (by (with_reducible repeat (first | apply Kd.R_alloc | apply Kd.R_drewN | apply Kd.R_drew)); exact HO205.out) hb); have n2_ := Aside0.mk (Kd.R_below (by (with_reducible repeat (first | apply Kd.R_alloc | apply Kd.R_drewN | apply Kd.R_drew)); exact HO208.out) hb); have n3_ := Aside0.mk (Kd.R_lower ho0 (below_size bwS)); have n4_ := Aside0.mk (blk_below (g := gb197) (o := .cells #[.string a1_0, .string a1_1] 24 (0, 0)) bk hb); have n5_ := Aside0.mk (below_step bwS hb); clear HO202; clear HO205; clear HO208; clear BK197; clear HB; have HO202 := n0_; have HO205 := n1_; have HO208 := n2_; have HO211 := n3_; have BK197 := n4_; have HB := n5_; clear n0_ n1_ n2_ n3_ n4_ n5_; (try clear hb); (try clear hb2); (try clear hk); (try clear hi); (try clear ho0)))
      (try simp only [Act.put, List.setIfInBounds_toArray, List.set_cons_zero, List.set_cons_succ])
      go_cut [72] (fun v72 wc => ∃ (kq : Nat) (x72_20 : Bool), v72 = .bool x72_20 ∧ Aside0 (bulletinlaw15_HeadPut.j1 kq a2 t200 t203 t206 x72_20 a1_0 a1_1 = some r) ∧ Aside0 (kq ≤ kj5) ∧ Aside0 (Kd.R k30 30 wc w.heap.size (fun k_ => some k_ ≠ ((.slice Ao28 t203.length co28) : Value).ownBlock ∧ some k_ ≠ (v207 : Value).ownBlock) (.slice Ao24 t200.length co24) t200) ∧ Aside0 (Kd.R k30 30 wc w.heap.size (fun k_ => some k_ ≠ ((.slice Ao24 t200.length co24) : Value).ownBlock ∧ some k_ ≠ (v207 : Value).ownBlock) (.slice Ao28 t203.length co28) t203) ∧ Aside0 (Kd.R k30 30 wc w.heap.size (fun k_ => some k_ ≠ ((.slice Ao24 t200.length co24) : Value).ownBlock ∧ some k_ ≠ ((.slice Ao28 t203.length co28) : Value).ownBlock) v207 t206) ∧ Aside0 (wc.heap[gb197]? = some (.cells #[.string a1_0, .string a1_1] 24 (0, 0))) ∧ Aside0 (Below w.heap.size w wc))
      case first =>
       have H := HC21.out
       clear HC21
       by_cases c30 : (t209.length : Int) = 1
       ·rw [if_pos c30] at H
        have c30b0 : ((t209.length : Int) == 1) = true := beq_iff_eq.mpr c30
        have c30b1 : ((t209.length : Int) != 1) = false := bne_eq_false_iff_eq.mpr c30
        clear c30
        (first | rw [c30b0] | (simp only [i64_w, i32_w]; rw [c30b0]) | skip)
        by_cases c31 : 0 < (t209.length : Int)
        ·rw [if_pos c31] at H
         have c31b0 : decide (0 < (t209.length : Int)) = true := decide_eq_true c31
         have c31b1 : decide (0 < t209.length) = true := decide_eq_true (by omega)
         clear c31
         by_cases c32 : (rdOf ByteArray.empty t209 0).toList = a1_1.toList
         ·rw [if_pos c32] at H
          have c32b0 : ((rdOf ByteArray.empty t209 0).toList == a1_1.toList) = true := beq_iff_eq.mpr c32
          have c32b1 : ((rdOf ByteArray.empty t209 0).toList != a1_1.toList) = false := bne_eq_false_iff_eq.mpr c32
          clear c32
          replace H := Option.bind_eq_some_iff.mp H
          obtain ⟨t213, A330, H⟩ := H
          replace H : (bulletinlaw15_HeadPut.j1 kj5 a2 t200 t203 t206 ((t213.length : Int) != 0) a1_0 a1_1) = some r := H
          have A33 := Aside0.mk A330
          clear A330
          have H' := Aside0.mk H
          clear H
          as_aux_lemma =>
           try go_wp2
           have n0_ := Aside0.mk (Kd.R_drew HO202.out)
           have n1_ := Aside0.mk (Kd.R_drew HO205.out)
           have n2_ := Aside0.mk (Kd.R_drew HO208.out)
           have n3_ := Aside0.mk (Kd.R_drew HO211.out)
           have n4_ := Aside0.mk (blk_drew BK197.out)
           have n5_ := Aside0.mk (below_drew1 HB.out)
           clear HO202
           clear HO205
           clear HO208
           clear HO211
           clear BK197
           clear HB
           have HO202 := n0_
           have HO205 := n1_
           have HO208 := n2_
           have HO211 := n3_
           have BK197 := n4_
           have HB := n5_
           clear n0_ n1_ n2_ n3_ n4_ n5_
           obtain ⟨Ao35, co35, eo35⟩ := Kd.R_slice HO211.out
           (first | subst eo35 | (injection eo35 with f1_ f2_ f3_; have f4_ := f1_.symm; have f5_ := f3_.symm; clear f1_ f2_ f3_; subst f4_; subst f5_))
           have p212 : 0 ≤ (0 : Int) := (by omega)
           have q212 : 0 < (t209.length : Int) := od
           obtain ⟨ad212, e212, hx212_0⟩ := Kd.at_string (Kd.R_reads' HO211.out).2.2 0 p212 q212
           cases e212
           have qi212 : (0 < t209.length) = True := eq_true (by omega)
           (try rw [show ((0 : Int)).toNat = 0 from rfl] at hx212_0)
           (try rw [Addr.add_zero'] at hx212_0)
           replace p212 := eq_true p212
           replace q212 := eq_true q212
           obtain ⟨Ao36, co36, eo36⟩ := Kd.R_slice HO208.out
           (first | subst eo36 | (injection eo36 with f1_ f2_ f3_; have f4_ := f1_.symm; have f5_ := f3_.symm; clear f1_ f2_ f3_; subst f4_; subst f5_))
           refine start_ (n := 19) (S := fun w' => w'.cell? ⟨gb197, 0, none⟩ = some (.string a1_0) ∧ w'.cell? ⟨gb197, 1, none⟩ = some (.string a1_1) ∧ w'.cell? ad212 = some (.string (rdOf ByteArray.empty t209 0))) (ds := []) #[false, false, false, false, false, false, false, false, false, false, false, false, false, false, false, false, false, false, false] (by kernel_rfl) rfl rfl ⟨(blk_cell BK197.out 0).trans rfl, (blk_cell BK197.out 1).trans rfl, hx212_0⟩ (fun hHeld => ?_); refine with_tabW bulletinlaw15_HeadPut.tab8 bulletinlaw15_HeadPut.bits8 (fun HT_ HW_ => ?_)
           generalize w29.drew = w34 at HO202 HO205 HO208 HO211 BK197 HB hx212_0 hHeld ⊢
           refine pure_ (i := 0) (N := some 54) (v := ?_) (a' := ?_) (bitsL 19 1) rfl rfl (any_of HT_.out (by kernel_rfl)) (fun _ _ _ h => h) (Or.inl ⟨by rfl, ?_⟩) ?_ ?_
           rotate_left
           ·intro w'
            go_simp
            with_reducible rfl
           rotate_left
           ·simp only [Act.put, List.setIfInBounds_toArray, List.set_cons_zero, List.set_cons_succ, i64_w, i32_w]
            rfl
           refine pure_ (i := 1) (N := some 55) (v := ?_) (a' := ?_) (bitsL 19 3) rfl rfl (any_of HT_.out (by kernel_rfl)) (fun _ _ _ h => h) (Or.inl ⟨by rfl, ?_⟩) ?_ ?_
           rotate_left
           ·intro w'
            go_simp
            with_reducible rfl
           rotate_left
           ·simp only [Act.put, List.setIfInBounds_toArray, List.set_cons_zero, List.set_cons_succ, i64_w, i32_w]
            rfl
           refine pure_ (i := 2) (N := some 56) (v := ?_) (a' := ?_) (bitsL 19 7) rfl rfl (any_of HT_.out (by kernel_rfl)) (fun _ _ _ h => h) (Or.inl ⟨by rfl, ?_⟩) ?_ ?_
           rotate_left
           ·intro w'
            go_simp
            with_reducible rfl
           rotate_left
           ·simp only [Act.put, List.setIfInBounds_toArray, List.set_cons_zero, List.set_cons_succ, i64_w, i32_w]
            rfl
           refine pure_ (i := 3) (N := some 57) (v := ?_) (a' := ?_) (bitsL 19 15) rfl rfl (any_of HT_.out (by kernel_rfl)) (fun _ _ _ h => h) (Or.inl ⟨by rfl, ?_⟩) ?_ ?_
           rotate_left
           ·intro w'
            go_simp
            with_reducible rfl
           rotate_left
           ·simp only [Act.put, List.setIfInBounds_toArray, List.set_cons_zero, List.set_cons_succ, i64_w, i32_w]
            rfl
           refine pure_ (i := 4) (N := some 58) (v := ?_) (a' := ?_) (bitsL 19 31) rfl rfl (any_of HT_.out (by kernel_rfl)) (fun _ _ _ h => h) (Or.inl ⟨by rfl, ?_⟩) ?_ ?_
           rotate_left
           ·intro w'
            go_simp
            with_reducible rfl
           rotate_left
           ·simp only [Act.put, List.setIfInBounds_toArray, List.set_cons_zero, List.set_cons_succ, i64_w, i32_w]
            rfl
           refine pure_ (i := 5) (N := some 59) (v := ?_) (a' := ?_) (bitsL 19 63) rfl rfl (any_of HT_.out (by kernel_rfl)) (fun _ _ _ h => h) (Or.inl ⟨by rfl, ?_⟩) ?_ ?_
           rotate_left
           ·intro w'
            go_simp
            with_reducible rfl
           rotate_left
           ·simp only [Act.put, List.setIfInBounds_toArray, List.set_cons_zero, List.set_cons_succ, i64_w, i32_w]
            rfl
           refine pure_ (i := 7) (N := some 61) (v := ?_) (a' := ?_) (bitsL 19 191) rfl rfl (any_of HT_.out (by kernel_rfl)) (fun _ _ _ h => h) (Or.inl ⟨by rfl, ?_⟩) ?_ ?_
           rotate_left
           ·intro w'
            go_simp
            with_reducible rfl
           rotate_left
           ·simp only [Act.put, List.setIfInBounds_toArray, List.set_cons_zero, List.set_cons_succ, i64_w, i32_w]
            rfl
           refine take_ (i := 6) (N := some 60) (v := ?_) (a' := ?_) (bitsL 19 255) rfl rfl (take_ofW HT_.out HW_.out (by kernel_rfl)) (fun _ _ _ h => h) (Or.inl ⟨by rfl, ?_⟩) hHeld ?_ ?_
           rotate_left
           ·rintro w' ⟨s0, s1, s2⟩
            go_simp
            with_reducible rfl
           rotate_left
           ·simp only [Act.put, List.setIfInBounds_toArray, List.set_cons_zero, List.set_cons_succ, i64_w, i32_w]
            rfl
           refine take_ (i := 8) (N := some 62) (v := ?_) (a' := ?_) (bitsL 19 511) rfl rfl (take_ofW HT_.out HW_.out (by kernel_rfl)) (fun _ _ _ h => h) (Or.inl ⟨by rfl, ?_⟩) hHeld ?_ ?_
           rotate_left
           ·rintro w' ⟨s0, s1, s2⟩
            go_simp
            with_reducible rfl
           rotate_left
           ·simp only [Act.put, List.setIfInBounds_toArray, List.set_cons_zero, List.set_cons_succ, i64_w, i32_w]
            rfl
           refine pure_ (i := 9) (N := some 63) (v := ?_) (a' := ?_) (bitsL 19 1023) rfl rfl (any_of HT_.out (by kernel_rfl)) (fun _ _ _ h => h) (Or.inl ⟨by rfl, ?_⟩) ?_ ?_
           rotate_left
           ·intro w'
            go_simp
            with_reducible rfl
           rotate_left
           ·simp only [Act.put, List.setIfInBounds_toArray, List.set_cons_zero, List.set_cons_succ, i64_w, i32_w]
            rfl
           refine pure_ (i := 10) (N := some 64) (v := ?_) (a' := ?_) (bitsL 19 2047) rfl rfl (any_of HT_.out (by kernel_rfl)) (fun _ _ _ h => h) (Or.inl ⟨by rfl, ?_⟩) ?_ ?_
           rotate_left
           ·intro w'
            go_simp
            with_reducible rfl
           rotate_left
           ·simp only [Act.put, List.setIfInBounds_toArray, List.set_cons_zero, List.set_cons_succ, i64_w, i32_w]
            rfl
           refine pure_ (i := 11) (N := some 65) (v := ?_) (a' := ?_) (bitsL 19 4095) rfl rfl (any_of HT_.out (by kernel_rfl)) (fun _ _ _ h => h) (Or.inl ⟨by rfl, ?_⟩) ?_ ?_
           rotate_left
           ·intro w'
            go_simp
            with_reducible rfl
           rotate_left
           ·simp only [Act.put, List.setIfInBounds_toArray, List.set_cons_zero, List.set_cons_succ, i64_w, i32_w]
            rfl
           refine pure_ (i := 12) (N := some 66) (v := ?_) (a' := ?_) (bitsL 19 8191) rfl rfl (any_of HT_.out (by kernel_rfl)) (fun _ _ _ h => h) (Or.inl ⟨by rfl, ?_⟩) ?_ ?_
           rotate_left
           ·intro w'
            go_simp
            with_reducible rfl
           rotate_left
           ·simp only [Act.put, List.setIfInBounds_toArray, List.set_cons_zero, List.set_cons_succ, i64_w, i32_w]
            rfl
           refine pure_ (i := 13) (N := some 67) (v := ?_) (a' := ?_) (bitsL 19 16383) rfl rfl (any_of HT_.out (by kernel_rfl)) (fun _ _ _ h => h) (Or.inl ⟨by rfl, ?_⟩) ?_ ?_
           rotate_left
           ·intro w'
            go_simp
            with_reducible rfl
           rotate_left
           ·simp only [Act.put, List.setIfInBounds_toArray, List.set_cons_zero, List.set_cons_succ, i64_w, i32_w]
            rfl
           refine take_ (i := 14) (N := some 68) (v := ?_) (a' := ?_) (bitsL 19 32767) rfl rfl (take_ofW HT_.out HW_.out (by kernel_rfl)) (fun _ _ _ h => h) (Or.inl ⟨by rfl, ?_⟩) hHeld ?_ ?_
           rotate_left
           ·rintro w' ⟨s0, s1, s2⟩
            go_simp
            with_reducible rfl
           rotate_left
           ·simp only [Act.put, List.setIfInBounds_toArray, List.set_cons_zero, List.set_cons_succ, i64_w, i32_w]
            rfl
           refine one_ (i := 15) (N := some 69) (bitsL 19 65535) rfl rfl (one_of HT_.out (by kernel_rfl)) (by decide) (fun K hK => ?_)
           refine goes_ Tryd.func16 (by kernel_rfl) rfl #[.slice Ao36 t206.length co36, .string a1_0] (by rfl) rfl rfl am ?_
           with_reducible refine (head_All.calls kj5 _ _ t206 a1_0 t213 _ ?side1 ?side2 A33.out).mono ?_
           (case side1 => repeat (first | exact (Kd.R_reads' HO208.out).2.2 | (with_reducible refine Kd.C_alloc ?_ _) | (with_reducible refine Kd.C_drewN ?_ _) | (with_reducible refine Kd.C_drew ?_)))
           (case side2 => exact (Kd.R_reads' HO208.out).2.1)
           rintro e w37 ⟨v214, rfl, ho0, hb⟩
           have HS2_ := (hb.cell (World.block_lt_of_cell? _ _ (hHeld.2.2))).trans (hHeld.2.2)
           refine ⟨_, rfl, ?_⟩
           have n0_ := Aside0.mk (Kd.R_below (by (with_reducible repeat (first | apply Kd.R_alloc | apply Kd.R_drewN | apply Kd.R_drew)); exact HO202.out) hb)
           have n1_ := Aside0.mk (Kd.R_below (by (with_reducible repeat (first | apply Kd.R_alloc | apply Kd.R_drewN | apply Kd.R_drew)); exact HO205.out) hb)
           have n2_ := Aside0.mk (Kd.R_below (by (with_reducible repeat (first | apply Kd.R_alloc | apply Kd.R_drewN | apply Kd.R_drew)); exact HO208.out) hb)
           have n3_ := Aside0.mk (Kd.R_elder' (by (with_reducible repeat (first | apply Kd.R_alloc | apply Kd.R_drewN | apply Kd.R_drew)); exact HO211.out) (Kd.R_base ho0) hb)
           have n4_ := Aside0.mk (Kd.R_lower (Kd.R_new' ho0 (Kd.R_lt (by (with_reducible repeat (first | apply Kd.R_alloc | apply Kd.R_drewN | apply Kd.R_drew)); exact HO211.out))) (below_size bwS))
           have n5_ := Aside0.mk (blk_below (g := gb197) (o := .cells #[.string a1_0, .string a1_1] 24 (0, 0)) bk hb)
           have n6_ := Aside0.mk (below_step bwS hb)
           clear HO202
           clear HO205
           clear HO208
           clear HO211
           clear BK197
           clear HB
           have HO202 := n0_
           have HO205 := n1_
           have HO208 := n2_
           have HO211 := n3_
           have HO215 := n4_
           have BK197 := n5_
           have HB := n6_
           clear n0_ n1_ n2_ n3_ n4_ n5_ n6_
           (try clear hb)
           (try clear hb2)
           (try clear hk)
           (try clear hi)
           (try clear ho0)
           obtain ⟨Ao38, co38, eo38⟩ := Kd.R_slice HO215.out
           (first | subst eo38 | (injection eo38 with f1_ f2_ f3_; have f4_ := f1_.symm; have f5_ := f3_.symm; clear f1_ f2_ f3_; subst f4_; subst f5_))
           refine hK.out _ _ ⟨(blk_cell BK197.out 0).trans rfl, (blk_cell BK197.out 1).trans rfl, HS2_⟩ (fun hHeld => ?_)
           clear hK K
           refine norm_ (a' := ?_) ?_ ?_
           rotate_left
           ·show Act.put _ (some 69) _ = _
            simp only [Act.put, List.setIfInBounds_toArray, List.set_cons_zero, List.set_cons_succ, i64_w, i32_w]
            rfl
           refine pure_ (i := 16) (N := some 70) (v := ?_) (a' := ?_) (bitsL 19 131071) rfl rfl (any_of HT_.out (by kernel_rfl)) (fun _ _ _ h => h) (Or.inl ⟨by rfl, ?_⟩) ?_ ?_
           rotate_left
           ·intro w'
            go_simp
            with_reducible rfl
           rotate_left
           ·simp only [Act.put, List.setIfInBounds_toArray, List.set_cons_zero, List.set_cons_succ, i64_w, i32_w]
            rfl
           refine pure_ (i := 17) (N := some 71) (v := ?_) (a' := ?_) (bitsL 19 262143) rfl rfl (any_of HT_.out (by kernel_rfl)) (fun _ _ _ h => h) (Or.inl ⟨by rfl, ?_⟩) ?_ ?_
           rotate_left
           ·intro w'
            go_simp
            with_reducible rfl
           rotate_left
           ·simp only [Act.put, List.setIfInBounds_toArray, List.set_cons_zero, List.set_cons_succ, i64_w, i32_w]
            rfl
           refine pure_ (i := 18) (N := some 72) (v := ?_) (a' := ?_) (bitsL 19 524287) rfl rfl (any_of HT_.out (by kernel_rfl)) (fun _ _ _ h => h) (Or.inl ⟨by rfl, ?_⟩) ?_ ?_
           rotate_left
           ·intro w'
            go_simp
            with_reducible rfl
           rotate_left
           ·simp only [Act.put, List.setIfInBounds_toArray, List.set_cons_zero, List.set_cons_succ, i64_w, i32_w]
            rfl
           refine done_ (done_of HT_.out (by kernel_rfl)) ?_
           as_aux_lemma =>
            try go_wp2
            go_meet
            case rel => exact ⟨_, (((t213.length : Int) != 0)), cl, H', ⟨by have := HJ5.out; first | omega | exact Nat.le_refl _⟩, ⟨by (with_reducible repeat (first | apply Kd.R_alloc | apply Kd.R_drewN | apply Kd.R_drew)); exact Kd.R_mono HO202.out (fun _ hk => ⟨hk.1.2, hk.2⟩)⟩, ⟨by (with_reducible repeat (first | apply Kd.R_alloc | apply Kd.R_drewN | apply Kd.R_drew)); exact Kd.R_mono HO205.out (fun _ hk => ⟨hk.1.2, hk.2⟩)⟩, ⟨by (with_reducible repeat (first | apply Kd.R_alloc | apply Kd.R_drewN | apply Kd.R_drew)); exact Kd.R_mono HO208.out (fun _ hk => ⟨hk.1.2, hk.2⟩)⟩, ⟨bk⟩, ⟨bwS⟩⟩
         ·rw [if_neg c32] at H
          have c32b0 : ((rdOf ByteArray.empty t209 0).toList == a1_1.toList) = false := beq_eq_false_iff_ne.mpr c32
          have c32b1 : ((rdOf ByteArray.empty t209 0).toList != a1_1.toList) = true := bne_iff_ne.mpr c32
          have H' := Aside0.mk H
          clear H
          as_aux_lemma =>
           try go_wp2
           have n0_ := Aside0.mk (Kd.R_drew HO202.out)
           have n1_ := Aside0.mk (Kd.R_drew HO205.out)
           have n2_ := Aside0.mk (Kd.R_drew HO208.out)
           have n3_ := Aside0.mk (Kd.R_drew HO211.out)
           have n4_ := Aside0.mk (blk_drew BK197.out)
           have n5_ := Aside0.mk (below_drew1 HB.out)
           clear HO202
           clear HO205
           clear HO208
           clear HO211
           clear BK197
           clear HB
           have HO202 := n0_
           have HO205 := n1_
           have HO208 := n2_
           have HO211 := n3_
           have BK197 := n4_
           have HB := n5_
           clear n0_ n1_ n2_ n3_ n4_ n5_
           obtain ⟨Ao40, co40, eo40⟩ := Kd.R_slice HO211.out
           (first | subst eo40 | (injection eo40 with f1_ f2_ f3_; have f4_ := f1_.symm; have f5_ := f3_.symm; clear f1_ f2_ f3_; subst f4_; subst f5_))
           have p212 : 0 ≤ (0 : Int) := (by omega)
           have q212 : 0 < (t209.length : Int) := od
           obtain ⟨ad212, e212, hx212_0⟩ := Kd.at_string (Kd.R_reads' HO211.out).2.2 0 p212 q212
           cases e212
           have qi212 : (0 < t209.length) = True := eq_true (by omega)
           (try rw [show ((0 : Int)).toNat = 0 from rfl] at hx212_0)
           (try rw [Addr.add_zero'] at hx212_0)
           replace p212 := eq_true p212
           replace q212 := eq_true q212
           refine start_ (n := 19) (S := fun w' => w'.cell? ⟨gb197, 0, none⟩ = some (.string a1_0) ∧ w'.cell? ⟨gb197, 1, none⟩ = some (.string a1_1) ∧ w'.cell? ad212 = some (.string (rdOf ByteArray.empty t209 0))) (ds := []) #[false, false, false, false, false, false, false, false, false, false, false, false, false, false, false, false, false, false, false] (by kernel_rfl) rfl rfl ⟨(blk_cell BK197.out 0).trans rfl, (blk_cell BK197.out 1).trans rfl, hx212_0⟩ (fun hHeld => ?_); refine with_tabW bulletinlaw15_HeadPut.tab8 bulletinlaw15_HeadPut.bits8 (fun HT_ HW_ => ?_)
           generalize w29.drew = w39 at HO202 HO205 HO208 HO211 BK197 HB hx212_0 hHeld ⊢
           refine pure_ (i := 0) (N := some 54) (v := ?_) (a' := ?_) (bitsL 19 1) rfl rfl (any_of HT_.out (by kernel_rfl)) (fun _ _ _ h => h) (Or.inl ⟨by rfl, ?_⟩) ?_ ?_
           rotate_left
           ·intro w'
            go_simp
            with_reducible rfl
           rotate_left
           ·simp only [Act.put, List.setIfInBounds_toArray, List.set_cons_zero, List.set_cons_succ, i64_w, i32_w]
            rfl
           refine pure_ (i := 1) (N := some 55) (v := ?_) (a' := ?_) (bitsL 19 3) rfl rfl (any_of HT_.out (by kernel_rfl)) (fun _ _ _ h => h) (Or.inl ⟨by rfl, ?_⟩) ?_ ?_
           rotate_left
           ·intro w'
            go_simp
            with_reducible rfl
           rotate_left
           ·simp only [Act.put, List.setIfInBounds_toArray, List.set_cons_zero, List.set_cons_succ, i64_w, i32_w]
            rfl
           refine pure_ (i := 2) (N := some 56) (v := ?_) (a' := ?_) (bitsL 19 7) rfl rfl (any_of HT_.out (by kernel_rfl)) (fun _ _ _ h => h) (Or.inl ⟨by rfl, ?_⟩) ?_ ?_
           rotate_left
           ·intro w'
            go_simp
            with_reducible rfl
           rotate_left
           ·simp only [Act.put, List.setIfInBounds_toArray, List.set_cons_zero, List.set_cons_succ, i64_w, i32_w]
            rfl
           refine pure_ (i := 3) (N := some 57) (v := ?_) (a' := ?_) (bitsL 19 15) rfl rfl (any_of HT_.out (by kernel_rfl)) (fun _ _ _ h => h) (Or.inl ⟨by rfl, ?_⟩) ?_ ?_
           rotate_left
           ·intro w'
            go_simp
            with_reducible rfl
           rotate_left
           ·simp only [Act.put, List.setIfInBounds_toArray, List.set_cons_zero, List.set_cons_succ, i64_w, i32_w]
            rfl
           refine pure_ (i := 4) (N := some 58) (v := ?_) (a' := ?_) (bitsL 19 31) rfl rfl (any_of HT_.out (by kernel_rfl)) (fun _ _ _ h => h) (Or.inl ⟨by rfl, ?_⟩) ?_ ?_
           rotate_left
           ·intro w'
            go_simp
            with_reducible rfl
           rotate_left
           ·simp only [Act.put, List.setIfInBounds_toArray, List.set_cons_zero, List.set_cons_succ, i64_w, i32_w]
            rfl
           refine pure_ (i := 5) (N := some 59) (v := ?_) (a' := ?_) (bitsL 19 63) rfl rfl (any_of HT_.out (by kernel_rfl)) (fun _ _ _ h => h) (Or.inl ⟨by rfl, ?_⟩) ?_ ?_
           rotate_left
           ·intro w'
            go_simp
            with_reducible rfl
           rotate_left
           ·simp only [Act.put, List.setIfInBounds_toArray, List.set_cons_zero, List.set_cons_succ, i64_w, i32_w]
            rfl
           refine pure_ (i := 7) (N := some 61) (v := ?_) (a' := ?_) (bitsL 19 191) rfl rfl (any_of HT_.out (by kernel_rfl)) (fun _ _ _ h => h) (Or.inl ⟨by rfl, ?_⟩) ?_ ?_
           rotate_left
           ·intro w'
            go_simp
            with_reducible rfl
           rotate_left
           ·simp only [Act.put, List.setIfInBounds_toArray, List.set_cons_zero, List.set_cons_succ, i64_w, i32_w]
            rfl
           refine take_ (i := 6) (N := some 60) (v := ?_) (a' := ?_) (bitsL 19 255) rfl rfl (take_ofW HT_.out HW_.out (by kernel_rfl)) (fun _ _ _ h => h) (Or.inl ⟨by rfl, ?_⟩) hHeld ?_ ?_
           rotate_left
           ·rintro w' ⟨s0, s1, s2⟩
            go_simp
            with_reducible rfl
           rotate_left
           ·simp only [Act.put, List.setIfInBounds_toArray, List.set_cons_zero, List.set_cons_succ, i64_w, i32_w]
            rfl
           refine take_ (i := 8) (N := some 62) (v := ?_) (a' := ?_) (bitsL 19 511) rfl rfl (take_ofW HT_.out HW_.out (by kernel_rfl)) (fun _ _ _ h => h) (Or.inl ⟨by rfl, ?_⟩) hHeld ?_ ?_
           rotate_left
           ·rintro w' ⟨s0, s1, s2⟩
            go_simp
            with_reducible rfl
           rotate_left
           ·simp only [Act.put, List.setIfInBounds_toArray, List.set_cons_zero, List.set_cons_succ, i64_w, i32_w]
            rfl
           refine pure_ (i := 9) (N := some 63) (v := ?_) (a' := ?_) (bitsL 19 1023) rfl rfl (any_of HT_.out (by kernel_rfl)) (fun _ _ _ h => h) (Or.inl ⟨by rfl, ?_⟩) ?_ ?_
           rotate_left
           ·intro w'
            go_simp
            with_reducible rfl
           rotate_left
           ·simp only [Act.put, List.setIfInBounds_toArray, List.set_cons_zero, List.set_cons_succ, i64_w, i32_w]
            rfl
           refine pure_ (i := 10) (N := some 64) (v := ?_) (a' := ?_) (bitsL 19 2047) rfl rfl (any_of HT_.out (by kernel_rfl)) (fun _ _ _ h => h) (Or.inl ⟨by rfl, ?_⟩) ?_ ?_
           rotate_left
           ·intro w'
            go_simp
            with_reducible rfl
           rotate_left
           ·simp only [Act.put, List.setIfInBounds_toArray, List.set_cons_zero, List.set_cons_succ, i64_w, i32_w]
            rfl
           refine pure_ (i := 11) (N := some 65) (v := ?_) (a' := ?_) (bitsL 19 4095) rfl rfl (any_of HT_.out (by kernel_rfl)) (fun _ _ _ h => h) (Or.inl ⟨by rfl, ?_⟩) ?_ ?_
           rotate_left
           ·intro w'
            go_simp
            with_reducible rfl
           rotate_left
           ·simp only [Act.put, List.setIfInBounds_toArray, List.set_cons_zero, List.set_cons_succ, i64_w, i32_w]
            rfl
           refine pure_ (i := 12) (N := some 66) (v := undef) (a' := ?_) (bitsL 19 8191) rfl rfl (any_of HT_.out (by kernel_rfl)) (fun _ _ _ h => h) (Or.inr ⟨by rfl, rfl⟩) ?_ ?_
           rotate_left
           ·simp only [Act.put, List.setIfInBounds_toArray, List.set_cons_zero, List.set_cons_succ, i64_w, i32_w]
            rfl
           refine pure_ (i := 13) (N := some 67) (v := undef) (a' := ?_) (bitsL 19 16383) rfl rfl (any_of HT_.out (by kernel_rfl)) (fun _ _ _ h => h) (Or.inr ⟨by rfl, rfl⟩) ?_ ?_
           rotate_left
           ·simp only [Act.put, List.setIfInBounds_toArray, List.set_cons_zero, List.set_cons_succ, i64_w, i32_w]
            rfl
           refine pure_ (i := 14) (N := some 68) (v := undef) (a' := ?_) (bitsL 19 32767) rfl rfl (any_of HT_.out (by kernel_rfl)) (fun _ _ _ h => h) (Or.inr ⟨by rfl, rfl⟩) ?_ ?_
           rotate_left
           ·simp only [Act.put, List.setIfInBounds_toArray, List.set_cons_zero, List.set_cons_succ, i64_w, i32_w]
            rfl
           refine pure_ (i := 15) (N := some 69) (v := undef) (a' := ?_) (bitsL 19 65535) rfl rfl (any_of HT_.out (by kernel_rfl)) (fun _ _ _ h => h) (Or.inr ⟨by rfl, rfl⟩) ?_ ?_
           rotate_left
           ·simp only [Act.put, List.setIfInBounds_toArray, List.set_cons_zero, List.set_cons_succ, i64_w, i32_w]
            rfl
           refine pure_ (i := 16) (N := some 70) (v := undef) (a' := ?_) (bitsL 19 131071) rfl rfl (any_of HT_.out (by kernel_rfl)) (fun _ _ _ h => h) (Or.inr ⟨by rfl, rfl⟩) ?_ ?_
           rotate_left
           ·simp only [Act.put, List.setIfInBounds_toArray, List.set_cons_zero, List.set_cons_succ, i64_w, i32_w]
            rfl
           refine pure_ (i := 17) (N := some 71) (v := undef) (a' := ?_) (bitsL 19 262143) rfl rfl (any_of HT_.out (by kernel_rfl)) (fun _ _ _ h => h) (Or.inr ⟨by rfl, rfl⟩) ?_ ?_
           rotate_left
           ·simp only [Act.put, List.setIfInBounds_toArray, List.set_cons_zero, List.set_cons_succ, i64_w, i32_w]
            rfl
           refine pure_ (i := 18) (N := some 72) (v := ?_) (a' := ?_) (bitsL 19 524287) rfl rfl (any_of HT_.out (by kernel_rfl)) (fun _ _ _ h => h) (Or.inl ⟨by rfl, ?_⟩) ?_ ?_
           rotate_left
           ·intro w'
            go_simp
            with_reducible rfl
           rotate_left
           ·simp only [Act.put, List.setIfInBounds_toArray, List.set_cons_zero, List.set_cons_succ, i64_w, i32_w]
            rfl
           refine done_ (done_of HT_.out (by kernel_rfl)) ?_
           as_aux_lemma =>
            try go_wp2
            go_meet
            case rel => exact ⟨_, (true), cl, H', ⟨by have := HJ5.out; first | omega | exact Nat.le_refl _⟩, ⟨by (with_reducible repeat (first | apply Kd.R_alloc | apply Kd.R_drewN | apply Kd.R_drew)); exact Kd.R_mono HO202.out (fun _ hk => ⟨hk.1.2, hk.2⟩)⟩, ⟨by (with_reducible repeat (first | apply Kd.R_alloc | apply Kd.R_drewN | apply Kd.R_drew)); exact Kd.R_mono HO205.out (fun _ hk => ⟨hk.1.2, hk.2⟩)⟩, ⟨by (with_reducible repeat (first | apply Kd.R_alloc | apply Kd.R_drewN | apply Kd.R_drew)); exact Kd.R_mono HO208.out (fun _ hk => ⟨hk.1.2, hk.2⟩)⟩, ⟨bk⟩, ⟨bwS⟩⟩
        ·rw [if_neg c31] at H
         exact absurd H (by simp)
       ·rw [if_neg c30] at H
        have c30b0 : ((t209.length : Int) == 1) = false := beq_eq_false_iff_ne.mpr c30
        have c30b1 : ((t209.length : Int) != 1) = true := bne_iff_ne.mpr c30
        (first | rw [c30b0] | (simp only [i64_w, i32_w]; rw [c30b0]) | skip)
        have H' := Aside0.mk H
        clear H
        as_aux_lemma =>
         try go_wp2
         have n0_ := Aside0.mk (Kd.R_drew HO202.out)
         have n1_ := Aside0.mk (Kd.R_drew HO205.out)
         have n2_ := Aside0.mk (Kd.R_drew HO208.out)
         have n3_ := Aside0.mk (Kd.R_drew HO211.out)
         have n4_ := Aside0.mk (blk_drew BK197.out)
         have n5_ := Aside0.mk (below_drew1 HB.out)
         clear HO202
         clear HO205
         clear HO208
         clear HO211
         clear BK197
         clear HB
         have HO202 := n0_
         have HO205 := n1_
         have HO208 := n2_
         have HO211 := n3_
         have BK197 := n4_
         have HB := n5_
         clear n0_ n1_ n2_ n3_ n4_ n5_
         obtain ⟨Ao42, co42, eo42⟩ := Kd.R_slice HO211.out
         (first | subst eo42 | (injection eo42 with f1_ f2_ f3_; have f4_ := f1_.symm; have f5_ := f3_.symm; clear f1_ f2_ f3_; subst f4_; subst f5_))
         refine start_ (n := 19) (S := fun w' => True) (ds := []) #[false, false, false, false, false, false, false, false, false, false, false, false, false, false, false, false, false, false, false] (by kernel_rfl) rfl rfl trivial (fun hHeld => ?_); refine with_tabW bulletinlaw15_HeadPut.tab8 bulletinlaw15_HeadPut.bits8 (fun HT_ HW_ => ?_)
         generalize w29.drew = w41 at HO202 HO205 HO208 HO211 BK197 HB hHeld ⊢
         refine pure_ (i := 0) (N := some 54) (v := ?_) (a' := ?_) (bitsL 19 1) rfl rfl (any_of HT_.out (by kernel_rfl)) (fun _ _ _ h => h) (Or.inl ⟨by rfl, ?_⟩) ?_ ?_
         rotate_left
         ·intro w'
          go_simp
          with_reducible rfl
         rotate_left
         ·simp only [Act.put, List.setIfInBounds_toArray, List.set_cons_zero, List.set_cons_succ, i64_w, i32_w]
          rfl
         refine pure_ (i := 1) (N := some 55) (v := ?_) (a' := ?_) (bitsL 19 3) rfl rfl (any_of HT_.out (by kernel_rfl)) (fun _ _ _ h => h) (Or.inl ⟨by rfl, ?_⟩) ?_ ?_
         rotate_left
         ·intro w'
          go_simp
          with_reducible rfl
         rotate_left
         ·simp only [Act.put, List.setIfInBounds_toArray, List.set_cons_zero, List.set_cons_succ, i64_w, i32_w]
          rfl
         refine pure_ (i := 2) (N := some 56) (v := ?_) (a' := ?_) (bitsL 19 7) rfl rfl (any_of HT_.out (by kernel_rfl)) (fun _ _ _ h => h) (Or.inl ⟨by rfl, ?_⟩) ?_ ?_
         rotate_left
         ·intro w'
          go_simp
          with_reducible rfl
         rotate_left
         ·simp only [Act.put, List.setIfInBounds_toArray, List.set_cons_zero, List.set_cons_succ, i64_w, i32_w]
          rfl
         refine pure_ (i := 3) (N := some 57) (v := ?_) (a' := ?_) (bitsL 19 15) rfl rfl (any_of HT_.out (by kernel_rfl)) (fun _ _ _ h => h) (Or.inl ⟨by rfl, ?_⟩) ?_ ?_
         rotate_left
         ·intro w'
          go_simp
          with_reducible rfl
         rotate_left
         ·simp only [Act.put, List.setIfInBounds_toArray, List.set_cons_zero, List.set_cons_succ, i64_w, i32_w]
          rfl
         refine pure_ (i := 4) (N := some 58) (v := undef) (a' := ?_) (bitsL 19 31) rfl rfl (any_of HT_.out (by kernel_rfl)) (fun _ _ _ h => h) (Or.inr ⟨by rfl, rfl⟩) ?_ ?_
         rotate_left
         ·simp only [Act.put, List.setIfInBounds_toArray, List.set_cons_zero, List.set_cons_succ, i64_w, i32_w]
          rfl
         refine pure_ (i := 5) (N := some 59) (v := undef) (a' := ?_) (bitsL 19 63) rfl rfl (any_of HT_.out (by kernel_rfl)) (fun _ _ _ h => h) (Or.inr ⟨by rfl, rfl⟩) ?_ ?_
         rotate_left
         ·simp only [Act.put, List.setIfInBounds_toArray, List.set_cons_zero, List.set_cons_succ, i64_w, i32_w]
          rfl
         refine pure_ (i := 6) (N := some 60) (v := undef) (a' := ?_) (bitsL 19 127) rfl rfl (any_of HT_.out (by kernel_rfl)) (fun _ _ _ h => h) (Or.inr ⟨by rfl, rfl⟩) ?_ ?_
         rotate_left
         ·simp only [Act.put, List.setIfInBounds_toArray, List.set_cons_zero, List.set_cons_succ, i64_w, i32_w]
          rfl
         refine pure_ (i := 7) (N := some 61) (v := undef) (a' := ?_) (bitsL 19 255) rfl rfl (any_of HT_.out (by kernel_rfl)) (fun _ _ _ h => h) (Or.inr ⟨by rfl, rfl⟩) ?_ ?_
         rotate_left
         ·simp only [Act.put, List.setIfInBounds_toArray, List.set_cons_zero, List.set_cons_succ, i64_w, i32_w]
          rfl
         refine pure_ (i := 8) (N := some 62) (v := undef) (a' := ?_) (bitsL 19 511) rfl rfl (any_of HT_.out (by kernel_rfl)) (fun _ _ _ h => h) (Or.inr ⟨by rfl, rfl⟩) ?_ ?_
         rotate_left
         ·simp only [Act.put, List.setIfInBounds_toArray, List.set_cons_zero, List.set_cons_succ, i64_w, i32_w]
          rfl
         refine pure_ (i := 9) (N := some 63) (v := undef) (a' := ?_) (bitsL 19 1023) rfl rfl (any_of HT_.out (by kernel_rfl)) (fun _ _ _ h => h) (Or.inr ⟨by rfl, rfl⟩) ?_ ?_
         rotate_left
         ·simp only [Act.put, List.setIfInBounds_toArray, List.set_cons_zero, List.set_cons_succ, i64_w, i32_w]
          rfl
         refine pure_ (i := 10) (N := some 64) (v := ?_) (a' := ?_) (bitsL 19 2047) rfl rfl (any_of HT_.out (by kernel_rfl)) (fun _ _ _ h => h) (Or.inl ⟨by rfl, ?_⟩) ?_ ?_
         rotate_left
         ·intro w'
          go_simp
          with_reducible rfl
         rotate_left
         ·simp only [Act.put, List.setIfInBounds_toArray, List.set_cons_zero, List.set_cons_succ, i64_w, i32_w]
          rfl
         refine pure_ (i := 11) (N := some 65) (v := ?_) (a' := ?_) (bitsL 19 4095) rfl rfl (any_of HT_.out (by kernel_rfl)) (fun _ _ _ h => h) (Or.inl ⟨by rfl, ?_⟩) ?_ ?_
         rotate_left
         ·intro w'
          go_simp
          with_reducible rfl
         rotate_left
         ·simp only [Act.put, List.setIfInBounds_toArray, List.set_cons_zero, List.set_cons_succ, i64_w, i32_w]
          rfl
         refine pure_ (i := 12) (N := some 66) (v := undef) (a' := ?_) (bitsL 19 8191) rfl rfl (any_of HT_.out (by kernel_rfl)) (fun _ _ _ h => h) (Or.inr ⟨by rfl, rfl⟩) ?_ ?_
         rotate_left
         ·simp only [Act.put, List.setIfInBounds_toArray, List.set_cons_zero, List.set_cons_succ, i64_w, i32_w]
          rfl
         refine pure_ (i := 13) (N := some 67) (v := undef) (a' := ?_) (bitsL 19 16383) rfl rfl (any_of HT_.out (by kernel_rfl)) (fun _ _ _ h => h) (Or.inr ⟨by rfl, rfl⟩) ?_ ?_
         rotate_left
         ·simp only [Act.put, List.setIfInBounds_toArray, List.set_cons_zero, List.set_cons_succ, i64_w, i32_w]
          rfl
         refine pure_ (i := 14) (N := some 68) (v := undef) (a' := ?_) (bitsL 19 32767) rfl rfl (any_of HT_.out (by kernel_rfl)) (fun _ _ _ h => h) (Or.inr ⟨by rfl, rfl⟩) ?_ ?_
         rotate_left
         ·simp only [Act.put, List.setIfInBounds_toArray, List.set_cons_zero, List.set_cons_succ, i64_w, i32_w]
          rfl
         refine pure_ (i := 15) (N := some 69) (v := undef) (a' := ?_) (bitsL 19 65535) rfl rfl (any_of HT_.out (by kernel_rfl)) (fun _ _ _ h => h) (Or.inr ⟨by rfl, rfl⟩) ?_ ?_
         rotate_left
         ·simp only [Act.put, List.setIfInBounds_toArray, List.set_cons_zero, List.set_cons_succ, i64_w, i32_w]
          rfl
         refine pure_ (i := 16) (N := some 70) (v := undef) (a' := ?_) (bitsL 19 131071) rfl rfl (any_of HT_.out (by kernel_rfl)) (fun _ _ _ h => h) (Or.inr ⟨by rfl, rfl⟩) ?_ ?_
         rotate_left
         ·simp only [Act.put, List.setIfInBounds_toArray, List.set_cons_zero, List.set_cons_succ, i64_w, i32_w]
          rfl
         refine pure_ (i := 17) (N := some 71) (v := undef) (a' := ?_) (bitsL 19 262143) rfl rfl (any_of HT_.out (by kernel_rfl)) (fun _ _ _ h => h) (Or.inr ⟨by rfl, rfl⟩) ?_ ?_
         rotate_left
         ·simp only [Act.put, List.setIfInBounds_toArray, List.set_cons_zero, List.set_cons_succ, i64_w, i32_w]
          rfl
         refine pure_ (i := 18) (N := some 72) (v := ?_) (a' := ?_) (bitsL 19 524287) rfl rfl (any_of HT_.out (by kernel_rfl)) (fun _ _ _ h => h) (Or.inl ⟨by rfl, ?_⟩) ?_ ?_
         rotate_left
         ·intro w'
          go_simp
          with_reducible rfl
         rotate_left
         ·simp only [Act.put, List.setIfInBounds_toArray, List.set_cons_zero, List.set_cons_succ, i64_w, i32_w]
          rfl
         refine done_ (done_of HT_.out (by kernel_rfl)) ?_
         as_aux_lemma =>
          try go_wp2
          go_meet
          case rel => exact ⟨_, (true), cl, H', ⟨by have := HJ5.out; first | omega | exact Nat.le_refl _⟩, ⟨by (with_reducible repeat (first | apply Kd.R_alloc | apply Kd.R_drewN | apply Kd.R_drew)); exact Kd.R_mono HO202.out (fun _ hk => ⟨hk.1.2, hk.2⟩)⟩, ⟨by (with_reducible repeat (first | apply Kd.R_alloc | apply Kd.R_drewN | apply Kd.R_drew)); exact Kd.R_mono HO205.out (fun _ hk => ⟨hk.1.2, hk.2⟩)⟩, ⟨by (with_reducible repeat (first | apply Kd.R_alloc | apply Kd.R_drewN | apply Kd.R_drew)); exact Kd.R_mono HO208.out (fun _ hk => ⟨hk.1.2, hk.2⟩)⟩, ⟨bk⟩, ⟨bwS⟩⟩
      case rest =>
       clear HC21
       try clear c1
       try clear p2
       try clear q2
       try clear hx2
       try clear qi2
       try clear c3
       try clear c16
       try clear p21
       try clear q21
       try clear hx21
       try clear qi21
       try clear c30
       try clear c30b0
       try clear c30b1
       try clear c31
       try clear c31b0
       try clear c31b1
       try clear c32
       try clear c32b0
       try clear c32b1
       try clear hcz27_0
       try clear hcz27_1
       try clear hfz27_0
       try clear hfz27_1
       try clear hx212_0
       try clear p212
       try clear q212
       obtain ⟨kq, x72_20, rfl, HA, HJ20, HO_7, HO_8, HO_9, BK197, HB⟩ := hcut
       cases kq with
       | zero => exact absurd HA.out (by simp [bulletinlaw15_HeadPut.j1])
       | succ kj20 =>
        have H := HA.out
        clear HA
        simp only [bulletinlaw15_HeadPut.j1] at H
        by_cases c43 : x72_20 = true
        ·subst c43
         have H1 : (some false) = some r := by rw [if_pos rfl] at H; exact H
         clear H
         have H := H1
         clear H1
         obtain rfl := Option.some.inj H
         as_aux_lemma =>
          go_wp2
          go_ret
          exact ⟨by first | rfl | (simp [errW_none, errW_some] <;> rfl) | (simp [*, errW_none, errW_some] <;> rfl), bwS⟩
        ·replace c43 := Bool.eq_false_iff.mpr c43
         subst c43
         have H1 : ((bulletinref15_Same.f kj20 a2 a1_0).bind fun t216 => (if t216 = true then (some true) else ((head_All.f kj20 t200 a2).bind fun t217 => ((head_All.f kj20 t203 a2).bind fun t220 => ((head_All.f kj20 t206 a2).bind fun t223 => (if (t217.length : Int) = (t220.length : Int) then (bulletinlaw15_HeadPut.j2 kj20 t217 t220 t223 ((t217.length : Int) != (t223.length : Int))) else (bulletinlaw15_HeadPut.j2 kj20 t217 t220 t223 true))))))) = some r := by rw [if_neg (show ¬ (false = true) by decide)] at H; exact H
         clear H
         have H := H1
         clear H1
         replace H := Option.bind_eq_some_iff.mp H
         obtain ⟨t216, A440, H⟩ := H
         replace H : (if t216 = true then (some true) else ((head_All.f kj20 t200 a2).bind fun t217 => ((head_All.f kj20 t203 a2).bind fun t220 => ((head_All.f kj20 t206 a2).bind fun t223 => (if (t217.length : Int) = (t220.length : Int) then (bulletinlaw15_HeadPut.j2 kj20 t217 t220 t223 ((t217.length : Int) != (t223.length : Int))) else (bulletinlaw15_HeadPut.j2 kj20 t217 t220 t223 true)))))) = some r := H
         have A44 := Aside0.mk A440
         clear A440
         by_cases c45 : t216 = true
         ·subst c45
          have H1 : (some true) = some r := by rw [if_pos rfl] at H; exact H
          clear H
          have H := H1
          clear H1
          obtain rfl := Option.some.inj H
          have hcz46_0 : wc.cell? ⟨gb197, 0, none⟩ = some (.string a1_0) := (blk_cell BK197.out 0).trans rfl
          have hcz46_1 : wc.cell? ⟨gb197, 1, none⟩ = some (.string a1_1) := (blk_cell BK197.out 1).trans rfl
          have hfz46_0 := blk_frozen BK197.out 0
          have hfz46_1 := blk_frozen BK197.out 1
          as_aux_lemma =>
           go_wp2_with (first | ((with_reducible refine gate_callee (f := 17) rfl ?_); refine goesL_ (some 76) rfl rfl Tryd.func17 (by kernel_rfl) rfl #[.string a2, .string a1_0] rfl am ?_; (with_reducible refine (bulletinref15_Same.calls kj20 a2 a1_0 true _ A44.out).mono ?_); rintro e w47 ⟨rfl, hb⟩; refine ⟨_, rfl, ?_⟩; have n0_ := Aside0.mk (Kd.R_below (by (with_reducible repeat (first | apply Kd.R_alloc | apply Kd.R_drewN | apply Kd.R_drew)); exact HO_7.out) hb); have n1_ := Aside0.mk (Kd.R_below (by (with_reducible repeat (first | apply Kd.R_alloc | apply Kd.R_drewN | apply Kd.R_drew)); exact HO_8.out) hb); have n2_ := Aside0.mk (Kd.R_below (by (with_reducible repeat (first | apply Kd.R_alloc | apply Kd.R_drewN | apply Kd.R_drew)); exact HO_9.out) hb); have n3_ := Aside0.mk (blk_below (g := gb197) (o := .cells #[.string a1_0, .string a1_1] 24 (0, 0)) bk hb); have n4_ := Aside0.mk (below_step bwS hb); clear HO_7; clear HO_8; clear HO_9; clear BK197; clear HB; have HO_7 := n0_; have HO_8 := n1_; have HO_9 := n2_; have BK197 := n3_; have HB := n4_; clear n0_ n1_ n2_ n3_ n4_; (try clear hb); (try clear hb2); (try clear hk); (try clear hi)))
           go_ret
           exact ⟨by first | rfl | (simp [errW_none, errW_some] <;> rfl) | (simp [*, errW_none, errW_some] <;> rfl), bwS⟩
         ·replace c45 := Bool.eq_false_iff.mpr c45
          subst c45
          have H1 : ((head_All.f kj20 t200 a2).bind fun t217 => ((head_All.f kj20 t203 a2).bind fun t220 => ((head_All.f kj20 t206 a2).bind fun t223 => (if (t217.length : Int) = (t220.length : Int) then (bulletinlaw15_HeadPut.j2 kj20 t217 t220 t223 ((t217.length : Int) != (t223.length : Int))) else (bulletinlaw15_HeadPut.j2 kj20 t217 t220 t223 true))))) = some r := by rw [if_neg (show ¬ (false = true) by decide)] at H; exact H
          clear H
          have H := H1
          clear H1
          replace H := Option.bind_eq_some_iff.mp H
          obtain ⟨t217, A480, H⟩ := H
          replace H : ((head_All.f kj20 t203 a2).bind fun t220 => ((head_All.f kj20 t206 a2).bind fun t223 => (if (t217.length : Int) = (t220.length : Int) then (bulletinlaw15_HeadPut.j2 kj20 t217 t220 t223 ((t217.length : Int) != (t223.length : Int))) else (bulletinlaw15_HeadPut.j2 kj20 t217 t220 t223 true)))) = some r := H
          have A48 := Aside0.mk A480
          clear A480
          replace H := Option.bind_eq_some_iff.mp H
          obtain ⟨t220, A490, H⟩ := H
          replace H : ((head_All.f kj20 t206 a2).bind fun t223 => (if (t217.length : Int) = (t220.length : Int) then (bulletinlaw15_HeadPut.j2 kj20 t217 t220 t223 ((t217.length : Int) != (t223.length : Int))) else (bulletinlaw15_HeadPut.j2 kj20 t217 t220 t223 true))) = some r := H
          have A49 := Aside0.mk A490
          clear A490
          replace H := Option.bind_eq_some_iff.mp H
          obtain ⟨t223, A500, H⟩ := H
          replace H : (if (t217.length : Int) = (t220.length : Int) then (bulletinlaw15_HeadPut.j2 kj20 t217 t220 t223 ((t217.length : Int) != (t223.length : Int))) else (bulletinlaw15_HeadPut.j2 kj20 t217 t220 t223 true)) = some r := H
          have A50 := Aside0.mk A500
          clear A500
          have HC51 := Aside0.mk H
          clear H
          have hcz52_0 : wc.cell? ⟨gb197, 0, none⟩ = some (.string a1_0) := (blk_cell BK197.out 0).trans rfl
          have hcz52_1 : wc.cell? ⟨gb197, 1, none⟩ = some (.string a1_1) := (blk_cell BK197.out 1).trans rfl
          have hfz52_0 := blk_frozen BK197.out 0
          have hfz52_1 := blk_frozen BK197.out 1
          go_upto_region 13 with (first | ((with_reducible refine gate_callee (f := 17) rfl ?_); refine goesL_ (some 76) rfl rfl Tryd.func17 (by kernel_rfl) rfl #[.string a2, .string a1_0] rfl am ?_; (with_reducible refine (bulletinref15_Same.calls kj20 a2 a1_0 false _ A44.out).mono ?_); rintro e w53 ⟨rfl, hb⟩; refine ⟨_, rfl, ?_⟩; have n0_ := Aside0.mk (Kd.R_below (by (with_reducible repeat (first | apply Kd.R_alloc | apply Kd.R_drewN | apply Kd.R_drew)); exact HO_7.out) hb); have n1_ := Aside0.mk (Kd.R_below (by (with_reducible repeat (first | apply Kd.R_alloc | apply Kd.R_drewN | apply Kd.R_drew)); exact HO_8.out) hb); have n2_ := Aside0.mk (Kd.R_below (by (with_reducible repeat (first | apply Kd.R_alloc | apply Kd.R_drewN | apply Kd.R_drew)); exact HO_9.out) hb); have n3_ := Aside0.mk (blk_below (g := gb197) (o := .cells #[.string a1_0, .string a1_1] 24 (0, 0)) bk hb); have n4_ := Aside0.mk (below_step bwS hb); clear HO_7; clear HO_8; clear HO_9; clear BK197; clear HB; have HO_7 := n0_; have HO_8 := n1_; have HO_9 := n2_; have BK197 := n3_; have HB := n4_; clear n0_ n1_ n2_ n3_ n4_; (try clear hb); (try clear hb2); (try clear hk); (try clear hi)) | ((with_reducible refine gate_callee (f := 16) rfl ?_); refine goesL_ (some 79) rfl rfl Tryd.func16 (by kernel_rfl) rfl #[.slice Ao24 t200.length co24, .string a2] rfl am ?_; (with_reducible refine (head_All.calls kj20 _ _ t200 a2 t217 _ ?side1 ?side2 A48.out).mono ?_); (case side1 => repeat (first | exact (Kd.R_reads' HO_7.out).2.2 | (with_reducible refine Kd.C_alloc ?_ _) | (with_reducible refine Kd.C_drewN ?_ _) | (with_reducible refine Kd.C_drew ?_))); (case side2 => exact (Kd.R_reads' HO_7.out).2.1); rintro e w54 ⟨v218, rfl, ho0, hb⟩; refine ⟨_, rfl, ?_⟩; have n0_ := Aside0.mk (Kd.R_below (by (with_reducible repeat (first | apply Kd.R_alloc | apply Kd.R_drewN | apply Kd.R_drew)); exact HO_7.out) hb); have n1_ := Aside0.mk (Kd.R_below (by (with_reducible repeat (first | apply Kd.R_alloc | apply Kd.R_drewN | apply Kd.R_drew)); exact HO_8.out) hb); have n2_ := Aside0.mk (Kd.R_below (by (with_reducible repeat (first | apply Kd.R_alloc | apply Kd.R_drewN | apply Kd.R_drew)); exact HO_9.out) hb); have n3_ := Aside0.mk (Kd.R_lower ho0 (below_size bwS)); have n4_ := Aside0.mk (blk_below (g := gb197) (o := .cells #[.string a1_0, .string a1_1] 24 (0, 0)) bk hb); have n5_ := Aside0.mk (below_step bwS hb); clear HO_7; clear HO_8; clear HO_9; clear BK197; clear HB; have HO_7 := n0_; have HO_8 := n1_; have HO_9 := n2_; have HO219 := n3_; have BK197 := n4_; have HB := n5_; clear n0_ n1_ n2_ n3_ n4_ n5_; (try clear hb); (try clear hb2); (try clear hk); (try clear hi); (try clear ho0)) | ((with_reducible refine gate_callee (f := 16) rfl ?_); refine goesL_ (some 82) rfl rfl Tryd.func16 (by kernel_rfl) rfl #[.slice Ao28 t203.length co28, .string a2] rfl am ?_; (with_reducible refine (head_All.calls kj20 _ _ t203 a2 t220 _ ?side1 ?side2 A49.out).mono ?_); (case side1 => repeat (first | exact (Kd.R_reads' HO_8.out).2.2 | (with_reducible refine Kd.C_alloc ?_ _) | (with_reducible refine Kd.C_drewN ?_ _) | (with_reducible refine Kd.C_drew ?_))); (case side2 => exact (Kd.R_reads' HO_8.out).2.1); rintro e w55 ⟨v221, rfl, ho0, hb⟩; refine ⟨_, rfl, ?_⟩; have n0_ := Aside0.mk (Kd.R_below (by (with_reducible repeat (first | apply Kd.R_alloc | apply Kd.R_drewN | apply Kd.R_drew)); exact HO_7.out) hb); have n1_ := Aside0.mk (Kd.R_below (by (with_reducible repeat (first | apply Kd.R_alloc | apply Kd.R_drewN | apply Kd.R_drew)); exact HO_8.out) hb); have n2_ := Aside0.mk (Kd.R_below (by (with_reducible repeat (first | apply Kd.R_alloc | apply Kd.R_drewN | apply Kd.R_drew)); exact HO_9.out) hb); have n3_ := Aside0.mk (Kd.R_elder' (by (with_reducible repeat (first | apply Kd.R_alloc | apply Kd.R_drewN | apply Kd.R_drew)); exact HO219.out) (Kd.R_base ho0) hb); have n4_ := Aside0.mk (Kd.R_lower (Kd.R_new' ho0 (Kd.R_lt (by (with_reducible repeat (first | apply Kd.R_alloc | apply Kd.R_drewN | apply Kd.R_drew)); exact HO219.out))) (below_size bwS)); have n5_ := Aside0.mk (blk_below (g := gb197) (o := .cells #[.string a1_0, .string a1_1] 24 (0, 0)) bk hb); have n6_ := Aside0.mk (below_step bwS hb); clear HO_7; clear HO_8; clear HO_9; clear HO219; clear BK197; clear HB; have HO_7 := n0_; have HO_8 := n1_; have HO_9 := n2_; have HO219 := n3_; have HO222 := n4_; have BK197 := n5_; have HB := n6_; clear n0_ n1_ n2_ n3_ n4_ n5_ n6_; (try clear hb); (try clear hb2); (try clear hk); (try clear hi); (try clear ho0); obtain ⟨Ao56, co56, eo56⟩ := Kd.R_slice HO_9.out; subst eo56) | ((with_reducible refine gate_callee (f := 16) rfl ?_); refine goesL_ (some 85) rfl rfl Tryd.func16 (by kernel_rfl) rfl #[.slice Ao56 t206.length co56, .string a2] rfl am ?_; (with_reducible refine (head_All.calls kj20 _ _ t206 a2 t223 _ ?side1 ?side2 A50.out).mono ?_); (case side1 => repeat (first | exact (Kd.R_reads' HO_9.out).2.2 | (with_reducible refine Kd.C_alloc ?_ _) | (with_reducible refine Kd.C_drewN ?_ _) | (with_reducible refine Kd.C_drew ?_))); (case side2 => exact (Kd.R_reads' HO_9.out).2.1); rintro e w57 ⟨v224, rfl, ho0, hb⟩; refine ⟨_, rfl, ?_⟩; have n0_ := Aside0.mk (Kd.R_below (by (with_reducible repeat (first | apply Kd.R_alloc | apply Kd.R_drewN | apply Kd.R_drew)); exact HO_7.out) hb); have n1_ := Aside0.mk (Kd.R_below (by (with_reducible repeat (first | apply Kd.R_alloc | apply Kd.R_drewN | apply Kd.R_drew)); exact HO_8.out) hb); have n2_ := Aside0.mk (Kd.R_below (by (with_reducible repeat (first | apply Kd.R_alloc | apply Kd.R_drewN | apply Kd.R_drew)); exact HO_9.out) hb); have n3_ := Aside0.mk (Kd.R_elder' (by (with_reducible repeat (first | apply Kd.R_alloc | apply Kd.R_drewN | apply Kd.R_drew)); exact HO219.out) (Kd.R_base ho0) hb); have n4_ := Aside0.mk (Kd.R_elder' (by (with_reducible repeat (first | apply Kd.R_alloc | apply Kd.R_drewN | apply Kd.R_drew)); exact HO222.out) (Kd.R_base ho0) hb); have n5_ := Aside0.mk (Kd.R_lower (Kd.R_new' (Kd.R_new' ho0 (Kd.R_lt (by (with_reducible repeat (first | apply Kd.R_alloc | apply Kd.R_drewN | apply Kd.R_drew)); exact HO219.out))) (Kd.R_lt (by (with_reducible repeat (first | apply Kd.R_alloc | apply Kd.R_drewN | apply Kd.R_drew)); exact HO222.out))) (below_size bwS)); have n6_ := Aside0.mk (blk_below (g := gb197) (o := .cells #[.string a1_0, .string a1_1] 24 (0, 0)) bk hb); have n7_ := Aside0.mk (below_step bwS hb); clear HO_7; clear HO_8; clear HO_9; clear HO219; clear HO222; clear BK197; clear HB; have HO_7 := n0_; have HO_8 := n1_; have HO_9 := n2_; have HO219 := n3_; have HO222 := n4_; have HO225 := n5_; have BK197 := n6_; have HB := n7_; clear n0_ n1_ n2_ n3_ n4_ n5_ n6_ n7_; (try clear hb); (try clear hb2); (try clear hk); (try clear hi); (try clear ho0)))
          (try simp only [Act.put, List.setIfInBounds_toArray, List.set_cons_zero, List.set_cons_succ])
          go_cut [97] (fun v97 wc => ∃ (kq : Nat) (x97_50 : Bool), v97 = .bool x97_50 ∧ Aside0 (bulletinlaw15_HeadPut.j2 kq t217 t220 t223 x97_50 = some r) ∧ Aside0 (kq ≤ kj20) ∧ Aside0 (Kd.R Kd.string 9 wc w.heap.size (fun k_ => some k_ ≠ (v221 : Value).ownBlock ∧ some k_ ≠ (v224 : Value).ownBlock) v218 t217) ∧ Aside0 (Kd.R Kd.string 9 wc w.heap.size (fun k_ => some k_ ≠ (v218 : Value).ownBlock ∧ some k_ ≠ (v224 : Value).ownBlock) v221 t220) ∧ Aside0 (Kd.R Kd.string 9 wc w.heap.size (fun k_ => some k_ ≠ (v218 : Value).ownBlock ∧ some k_ ≠ (v221 : Value).ownBlock) v224 t223) ∧ Aside0 (wc.heap[gb197]? = some (.cells #[.string a1_0, .string a1_1] 24 (0, 0))) ∧ Aside0 (Below w.heap.size w wc))
          case first =>
           have H := HC51.out
           clear HC51
           by_cases c58 : (t217.length : Int) = (t220.length : Int)
           ·rw [if_pos c58] at H
            have c58b0 : ((t217.length : Int) == (t220.length : Int)) = true := beq_iff_eq.mpr c58
            have c58b1 : ((t217.length : Int) != (t220.length : Int)) = false := bne_eq_false_iff_eq.mpr c58
            have c58b2 : (t217.length == t220.length) = true := by first | simpa using c58 | (simp at c58 ⊢; omega)
            clear c58
            (first | rw [c58b0] | (simp only [i64_w, i32_w]; rw [c58b0]) | skip)
            have H' := Aside0.mk H
            clear H
            obtain ⟨Ao59, co59, eo59⟩ := Kd.R_slice HO219.out
            subst eo59
            obtain ⟨Ao60, co60, eo60⟩ := Kd.R_slice HO222.out
            subst eo60
            obtain ⟨Ao61, co61, eo61⟩ := Kd.R_slice HO225.out
            subst eo61
            as_aux_lemma =>
             go_wp2
             go_meet
             case rel => exact ⟨_, (((t217.length : Int) != (t223.length : Int))), cl, H', ⟨by have := HJ5.out; have := HJ20.out; first | omega | exact Nat.le_refl _⟩, ⟨by (with_reducible repeat (first | apply Kd.R_alloc | apply Kd.R_drewN | apply Kd.R_drew)); exact Kd.R_mono HO219.out (fun _ hk => ⟨hk.1.2, hk.2⟩)⟩, ⟨by (with_reducible repeat (first | apply Kd.R_alloc | apply Kd.R_drewN | apply Kd.R_drew)); exact Kd.R_mono HO222.out (fun _ hk => ⟨hk.1.2, hk.2⟩)⟩, ⟨by (with_reducible repeat (first | apply Kd.R_alloc | apply Kd.R_drewN | apply Kd.R_drew)); exact Kd.R_mono HO225.out (fun _ hk => ⟨hk.1.2, hk.2⟩)⟩, ⟨bk⟩, ⟨bwS⟩⟩
           ·rw [if_neg c58] at H
            have c58b0 : ((t217.length : Int) == (t220.length : Int)) = false := beq_eq_false_iff_ne.mpr c58
            have c58b1 : ((t217.length : Int) != (t220.length : Int)) = true := bne_iff_ne.mpr c58
            have c58b2 : (t217.length == t220.length) = false := by first | simpa using c58 | (simp at c58 ⊢; omega)
            (first | rw [c58b0] | (simp only [i64_w, i32_w]; rw [c58b0]) | skip)
            have H' := Aside0.mk H
            clear H
            obtain ⟨Ao62, co62, eo62⟩ := Kd.R_slice HO219.out
            subst eo62
            obtain ⟨Ao63, co63, eo63⟩ := Kd.R_slice HO222.out
            subst eo63
            as_aux_lemma =>
             go_wp2
             go_meet
             case rel => exact ⟨_, (true), cl, H', ⟨by have := HJ5.out; have := HJ20.out; first | omega | exact Nat.le_refl _⟩, ⟨by (with_reducible repeat (first | apply Kd.R_alloc | apply Kd.R_drewN | apply Kd.R_drew)); exact Kd.R_mono HO219.out (fun _ hk => ⟨hk.1.2, hk.2⟩)⟩, ⟨by (with_reducible repeat (first | apply Kd.R_alloc | apply Kd.R_drewN | apply Kd.R_drew)); exact Kd.R_mono HO222.out (fun _ hk => ⟨hk.1.2, hk.2⟩)⟩, ⟨by (with_reducible repeat (first | apply Kd.R_alloc | apply Kd.R_drewN | apply Kd.R_drew)); exact Kd.R_mono HO225.out (fun _ hk => ⟨hk.1.2, hk.2⟩)⟩, ⟨bk⟩, ⟨bwS⟩⟩
          case rest =>
           clear HC51
           try clear c1
           try clear p2
           try clear q2
           try clear hx2
           try clear qi2
           try clear c3
           try clear c4
           try clear c5
           try clear c16
           try clear c17
           try clear p21
           try clear q21
           try clear hx21
           try clear qi21
           try clear c30
           try clear c30b0
           try clear c30b1
           try clear c31
           try clear c31b0
           try clear c31b1
           try clear c32
           try clear c32b0
           try clear c32b1
           try clear c43
           try clear c45
           try clear c58
           try clear c58b0
           try clear c58b1
           try clear c58b2
           try clear hcz27_0
           try clear hcz27_1
           try clear hcz46_0
           try clear hcz46_1
           try clear hcz52_0
           try clear hcz52_1
           try clear hfz27_0
           try clear hfz27_1
           try clear hfz46_0
           try clear hfz46_1
           try clear hfz52_0
           try clear hfz52_1
           try clear hx212_0
           try clear p2
           try clear p21
           try clear p212
           try clear q2
           try clear q21
           try clear q212
           obtain ⟨kq, x97_50, rfl, HA, HJ50, HO_11, HO_12, HO_13, BK197, HB⟩ := hcut
           cases kq with
           | zero => exact absurd HA.out (by simp [bulletinlaw15_HeadPut.j2])
           | succ kj50 =>
            have H := HA.out
            clear HA
            simp only [bulletinlaw15_HeadPut.j2] at H
            by_cases c64 : x97_50 = true
            ·subst c64
             have H1 : (some false) = some r := by rw [if_pos rfl] at H; exact H
             clear H
             have H := H1
             clear H1
             obtain rfl := Option.some.inj H
             as_aux_lemma =>
              go_wp2
              go_ret
              exact ⟨by first | rfl | (simp [errW_none, errW_some] <;> rfl) | (simp [*, errW_none, errW_some] <;> rfl), bwS⟩
            ·replace c64 := Bool.eq_false_iff.mpr c64
             subst c64
             have H1 : (bulletinlaw15_HeadPut.l0 kj50 t217 t220 t223 (t217.length : Int) 0) = some r := by rw [if_neg (show ¬ (false = true) by decide)] at H; exact H
             clear H
             have H := H1
             clear H1
             have H' := Aside0.mk H
             clear H
             obtain ⟨Ao65, co65, eo65⟩ := Kd.R_slice HO_11.out
             subst eo65
             as_aux_lemma =>
              go_wp2
              go_loopg [100] kj50 (fun kq v100 w' => ∃ (x100_4 : Int), v100 = .int .i64 x100_4 ∧ Aside0 (bulletinlaw15_HeadPut.l0 kq t217 t220 t223 (t217.length : Int) x100_4 = some r) ∧ Aside0 (kq ≤ kj50) ∧ Aside0 (Kd.R Kd.string 9 w' w.heap.size (fun k_ => some k_ ≠ (v221 : Value).ownBlock ∧ some k_ ≠ (v224 : Value).ownBlock) (.slice Ao65 t217.length co65) t217) ∧ Aside0 (Kd.R Kd.string 9 w' w.heap.size (fun k_ => some k_ ≠ ((.slice Ao65 t217.length co65) : Value).ownBlock ∧ some k_ ≠ (v224 : Value).ownBlock) v221 t220) ∧ Aside0 (Kd.R Kd.string 9 w' w.heap.size (fun k_ => some k_ ≠ ((.slice Ao65 t217.length co65) : Value).ownBlock ∧ some k_ ≠ (v221 : Value).ownBlock) v224 t223) ∧ Aside0 (w'.heap[gb197]? = some (.cells #[.string a1_0, .string a1_1] 24 (0, 0))) ∧ Aside0 (Below w.heap.size w w'))
              case atStart => exact ⟨(0), cl, H', ⟨Nat.le_refl _⟩, ⟨by (with_reducible repeat (first | apply Kd.R_alloc | apply Kd.R_drewN | apply Kd.R_drew)); exact HO_11.out⟩, ⟨by (with_reducible repeat (first | apply Kd.R_alloc | apply Kd.R_drewN | apply Kd.R_drew)); exact HO_12.out⟩, ⟨by (with_reducible repeat (first | apply Kd.R_alloc | apply Kd.R_drewN | apply Kd.R_drew)); exact HO_13.out⟩, ⟨bk⟩, ⟨bwS⟩⟩
              case round =>
               clear H'
               try clear c1
               try clear p2
               try clear q2
               try clear hx2
               try clear qi2
               try clear c3
               try clear c4
               try clear c5
               try clear c6
               try clear c16
               try clear c17
               try clear p21
               try clear q21
               try clear hx21
               try clear qi21
               try clear c30
               try clear c30b0
               try clear c30b1
               try clear c31
               try clear c31b0
               try clear c31b1
               try clear c32
               try clear c32b0
               try clear c32b1
               try clear c43
               try clear c45
               try clear c58
               try clear c58b0
               try clear c58b1
               try clear c58b2
               try clear c64
               try clear hcz27_0
               try clear hcz27_1
               try clear hcz46_0
               try clear hcz46_1
               try clear hcz52_0
               try clear hcz52_1
               try clear hfz27_0
               try clear hfz27_1
               try clear hfz46_0
               try clear hfz46_1
               try clear hfz52_0
               try clear hfz52_1
               try clear hx212_0
               try clear p2
               try clear p21
               try clear p212
               try clear q2
               try clear q21
               try clear q212
               obtain ⟨x100_4, rfl, HA, HK4, HO_11, HO_12, HO_13, BK197, HB⟩ := hrel
               cases gk with
               | zero => exact absurd HA.out (by simp [bulletinlaw15_HeadPut.l0])
               | succ k4 =>
                have H := HA.out
                clear HA
                simp only [bulletinlaw15_HeadPut.l0] at H
                by_cases c66 : x100_4 < (t217.length : Int)
                ·rw [if_pos c66] at H
                 have c66b0 : decide (x100_4 < (t217.length : Int)) = true := decide_eq_true c66
                 clear c66
                 by_cases c67 : 0 ≤ x100_4
                 ·rw [if_pos c67] at H
                  have c67b0 : decide (0 ≤ x100_4) = true := decide_eq_true c67
                  clear c67
                  by_cases c68 : x100_4 < (t217.length : Int)
                  ·rw [if_pos c68] at H
                   have c68b0 : decide (x100_4 < (t217.length : Int)) = true := decide_eq_true c68
                   clear c68
                   by_cases c69 : x100_4 < (t220.length : Int)
                   ·rw [if_pos c69] at H
                    have c69b0 : decide (x100_4 < (t220.length : Int)) = true := decide_eq_true c69
                    clear c69
                    by_cases c70 : (rdOf ByteArray.empty t217 x100_4).toList = (rdOf ByteArray.empty t220 x100_4).toList
                    ·rw [if_pos c70] at H
                     have c70b0 : ((rdOf ByteArray.empty t217 x100_4).toList == (rdOf ByteArray.empty t220 x100_4).toList) = true := beq_iff_eq.mpr c70
                     have c70b1 : ((rdOf ByteArray.empty t217 x100_4).toList != (rdOf ByteArray.empty t220 x100_4).toList) = false := bne_eq_false_iff_eq.mpr c70
                     clear c70
                     by_cases c71 : x100_4 < (t223.length : Int)
                     ·rw [if_pos c71] at H
                      have c71b0 : decide (x100_4 < (t223.length : Int)) = true := decide_eq_true c71
                      clear c71
                      by_cases c72 : (rdOf ByteArray.empty t217 x100_4).toList = (rdOf ByteArray.empty t223 x100_4).toList
                      ·rw [if_pos c72] at H
                       have c72b0 : ((rdOf ByteArray.empty t217 x100_4).toList == (rdOf ByteArray.empty t223 x100_4).toList) = true := beq_iff_eq.mpr c72
                       have c72b1 : ((rdOf ByteArray.empty t217 x100_4).toList != (rdOf ByteArray.empty t223 x100_4).toList) = false := bne_eq_false_iff_eq.mpr c72
                       clear c72
                       have H' := Aside0.mk H
                       clear H
                       as_aux_lemma =>
                        try go_wp2
                        have n0_ := Aside0.mk (Kd.R_drew HO_11.out)
                        have n1_ := Aside0.mk (Kd.R_drew HO_12.out)
                        have n2_ := Aside0.mk (Kd.R_drew HO_13.out)
                        have n3_ := Aside0.mk (blk_drew BK197.out)
                        have n4_ := Aside0.mk (below_drew1 HB.out)
                        clear HO_11
                        clear HO_12
                        clear HO_13
                        clear BK197
                        clear HB
                        have HO_11 := n0_
                        have HO_12 := n1_
                        have HO_13 := n2_
                        have BK197 := n3_
                        have HB := n4_
                        clear n0_ n1_ n2_ n3_ n4_
                        have p226 : 0 ≤ (x100_4 : Int) := od
                        have q226 : x100_4 < (t217.length : Int) := od
                        obtain ⟨ad226, e226, hx226_0⟩ := Kd.at_string (Kd.R_reads' HO_11.out).2.2 x100_4 p226 q226
                        cases e226
                        replace p226 := eq_true p226
                        replace q226 := eq_true q226
                        obtain ⟨Ao74, co74, eo74⟩ := Kd.R_slice HO_12.out
                        (first | subst eo74 | (injection eo74 with f1_ f2_ f3_; have f4_ := f1_.symm; have f5_ := f3_.symm; clear f1_ f2_ f3_; subst f4_; subst f5_))
                        have p227 : 0 ≤ (x100_4 : Int) := od
                        have q227 : x100_4 < (t220.length : Int) := od
                        obtain ⟨ad227, e227, hx227_0⟩ := Kd.at_string (Kd.R_reads' HO_12.out).2.2 x100_4 p227 q227
                        cases e227
                        replace p227 := eq_true p227
                        replace q227 := eq_true q227
                        have p228 : 0 ≤ (x100_4 : Int) := od
                        have q228 : x100_4 < (t217.length : Int) := od
                        obtain ⟨ad228, e228, hx228_0⟩ := Kd.at_string (Kd.R_reads' HO_11.out).2.2 x100_4 p228 q228
                        obtain rfl : ad226 = ad228 := (by injection e228)
                        replace p228 := eq_true p228
                        replace q228 := eq_true q228
                        obtain ⟨Ao75, co75, eo75⟩ := Kd.R_slice HO_13.out
                        (first | subst eo75 | (injection eo75 with f1_ f2_ f3_; have f4_ := f1_.symm; have f5_ := f3_.symm; clear f1_ f2_ f3_; subst f4_; subst f5_))
                        have p229 : 0 ≤ (x100_4 : Int) := od
                        have q229 : x100_4 < (t223.length : Int) := od
                        obtain ⟨ad229, e229, hx229_0⟩ := Kd.at_string (Kd.R_reads' HO_13.out).2.2 x100_4 p229 q229
                        cases e229
                        replace p229 := eq_true p229
                        replace q229 := eq_true q229
                        refine start_ (n := 20) (S := fun w' => w'.cell? (ad226.add (x100_4).toNat) = some (.string (rdOf ByteArray.empty t217 x100_4)) ∧ w'.cell? (ad227.add (x100_4).toNat) = some (.string (rdOf ByteArray.empty t220 x100_4)) ∧ w'.cell? (ad226.add (x100_4).toNat) = some (.string (rdOf ByteArray.empty t217 x100_4)) ∧ w'.cell? (ad229.add (x100_4).toNat) = some (.string (rdOf ByteArray.empty t223 x100_4))) (ds := []) #[false, false, false, false, false, false, false, false, false, false, false, false, false, false, false, false, false, false, false, false] (by kernel_rfl) rfl rfl ⟨hx226_0, hx227_0, hx228_0, hx229_0⟩ (fun hHeld => ?_); refine with_tabW bulletinlaw15_HeadPut.tab18 bulletinlaw15_HeadPut.bits18 (fun HT_ HW_ => ?_)
                        generalize wr.drew = w73 at HO_11 HO_12 HO_13 BK197 HB hx226_0 hx227_0 hx228_0 hx229_0 hHeld ⊢
                        refine pure_ (i := 0) (N := some 103) (v := ?_) (a' := ?_) (bitsL 20 1) rfl rfl (any_of HT_.out (by kernel_rfl)) (fun _ _ _ h => h) (Or.inl ⟨by rfl, ?_⟩) ?_ ?_
                        rotate_left
                        ·intro w'
                         go_simp
                         with_reducible rfl
                        rotate_left
                        ·simp only [Act.put, List.setIfInBounds_toArray, List.set_cons_zero, List.set_cons_succ, i64_w, i32_w]
                         rfl
                        refine pure_ (i := 1) (N := some 104) (v := ?_) (a' := ?_) (bitsL 20 3) rfl rfl (any_of HT_.out (by kernel_rfl)) (fun _ _ _ h => h) (Or.inl ⟨by rfl, ?_⟩) ?_ ?_
                        rotate_left
                        ·intro w'
                         go_simp
                         with_reducible rfl
                        rotate_left
                        ·simp only [Act.put, List.setIfInBounds_toArray, List.set_cons_zero, List.set_cons_succ, i64_w, i32_w]
                         rfl
                        refine pure_ (i := 2) (N := some 105) (v := ?_) (a' := ?_) (bitsL 20 7) rfl rfl (any_of HT_.out (by kernel_rfl)) (fun _ _ _ h => h) (Or.inl ⟨by rfl, ?_⟩) ?_ ?_
                        rotate_left
                        ·intro w'
                         go_simp
                         with_reducible rfl
                        rotate_left
                        ·simp only [Act.put, List.setIfInBounds_toArray, List.set_cons_zero, List.set_cons_succ, i64_w, i32_w]
                         rfl
                        refine pure_ (i := 4) (N := some 107) (v := ?_) (a' := ?_) (bitsL 20 23) rfl rfl (any_of HT_.out (by kernel_rfl)) (fun _ _ _ h => h) (Or.inl ⟨by rfl, ?_⟩) ?_ ?_
                        rotate_left
                        ·intro w'
                         go_simp
                         with_reducible rfl
                        rotate_left
                        ·simp only [Act.put, List.setIfInBounds_toArray, List.set_cons_zero, List.set_cons_succ, i64_w, i32_w]
                         rfl
                        refine pure_ (i := 5) (N := some 108) (v := ?_) (a' := ?_) (bitsL 20 55) rfl rfl (any_of HT_.out (by kernel_rfl)) (fun _ _ _ h => h) (Or.inl ⟨by rfl, ?_⟩) ?_ ?_
                        rotate_left
                        ·intro w'
                         go_simp
                         with_reducible rfl
                        rotate_left
                        ·simp only [Act.put, List.setIfInBounds_toArray, List.set_cons_zero, List.set_cons_succ, i64_w, i32_w]
                         rfl
                        refine pure_ (i := 6) (N := some 109) (v := ?_) (a' := ?_) (bitsL 20 119) rfl rfl (any_of HT_.out (by kernel_rfl)) (fun _ _ _ h => h) (Or.inl ⟨by rfl, ?_⟩) ?_ ?_
                        rotate_left
                        ·intro w'
                         go_simp
                         with_reducible rfl
                        rotate_left
                        ·simp only [Act.put, List.setIfInBounds_toArray, List.set_cons_zero, List.set_cons_succ, i64_w, i32_w]
                         rfl
                        refine take_ (i := 3) (N := some 106) (v := ?_) (a' := ?_) (bitsL 20 127) rfl rfl (take_ofW HT_.out HW_.out (by kernel_rfl)) (fun _ _ _ h => h) (Or.inl ⟨by rfl, ?_⟩) hHeld ?_ ?_
                        rotate_left
                        ·rintro w' ⟨s0, s1, s2, s3⟩
                         go_simp
                         with_reducible rfl
                        rotate_left
                        ·simp only [Act.put, List.setIfInBounds_toArray, List.set_cons_zero, List.set_cons_succ, i64_w, i32_w]
                         rfl
                        refine take_ (i := 7) (N := some 110) (v := ?_) (a' := ?_) (bitsL 20 255) rfl rfl (take_ofW HT_.out HW_.out (by kernel_rfl)) (fun _ _ _ h => h) (Or.inl ⟨by rfl, ?_⟩) hHeld ?_ ?_
                        rotate_left
                        ·rintro w' ⟨s0, s1, s2, s3⟩
                         go_simp
                         with_reducible rfl
                        rotate_left
                        ·simp only [Act.put, List.setIfInBounds_toArray, List.set_cons_zero, List.set_cons_succ, i64_w, i32_w]
                         rfl
                        refine pure_ (i := 8) (N := some 111) (v := ?_) (a' := ?_) (bitsL 20 511) rfl rfl (any_of HT_.out (by kernel_rfl)) (fun _ _ _ h => h) (Or.inl ⟨by rfl, ?_⟩) ?_ ?_
                        rotate_left
                        ·intro w'
                         go_simp
                         with_reducible rfl
                        rotate_left
                        ·simp only [Act.put, List.setIfInBounds_toArray, List.set_cons_zero, List.set_cons_succ, i64_w, i32_w]
                         rfl
                        refine pure_ (i := 9) (N := some 112) (v := ?_) (a' := ?_) (bitsL 20 1023) rfl rfl (any_of HT_.out (by kernel_rfl)) (fun _ _ _ h => h) (Or.inl ⟨by rfl, ?_⟩) ?_ ?_
                        rotate_left
                        ·intro w'
                         go_simp
                         with_reducible rfl
                        rotate_left
                        ·simp only [Act.put, List.setIfInBounds_toArray, List.set_cons_zero, List.set_cons_succ, i64_w, i32_w]
                         rfl
                        refine pure_ (i := 10) (N := some 113) (v := ?_) (a' := ?_) (bitsL 20 2047) rfl rfl (any_of HT_.out (by kernel_rfl)) (fun _ _ _ h => h) (Or.inl ⟨by rfl, ?_⟩) ?_ ?_
                        rotate_left
                        ·intro w'
                         go_simp
                         with_reducible rfl
                        rotate_left
                        ·simp only [Act.put, List.setIfInBounds_toArray, List.set_cons_zero, List.set_cons_succ, i64_w, i32_w]
                         rfl
                        refine pure_ (i := 11) (N := some 114) (v := ?_) (a' := ?_) (bitsL 20 4095) rfl rfl (any_of HT_.out (by kernel_rfl)) (fun _ _ _ h => h) (Or.inl ⟨by rfl, ?_⟩) ?_ ?_
                        rotate_left
                        ·intro w'
                         go_simp
                         with_reducible rfl
                        rotate_left
                        ·simp only [Act.put, List.setIfInBounds_toArray, List.set_cons_zero, List.set_cons_succ, i64_w, i32_w]
                         rfl
                        refine pure_ (i := 12) (N := some 115) (v := ?_) (a' := ?_) (bitsL 20 8191) rfl rfl (any_of HT_.out (by kernel_rfl)) (fun _ _ _ h => h) (Or.inl ⟨by rfl, ?_⟩) ?_ ?_
                        rotate_left
                        ·intro w'
                         go_simp
                         with_reducible rfl
                        rotate_left
                        ·simp only [Act.put, List.setIfInBounds_toArray, List.set_cons_zero, List.set_cons_succ, i64_w, i32_w]
                         rfl
                        refine pure_ (i := 14) (N := some 117) (v := ?_) (a' := ?_) (bitsL 20 24575) rfl rfl (any_of HT_.out (by kernel_rfl)) (fun _ _ _ h => h) (Or.inl ⟨by rfl, ?_⟩) ?_ ?_
                        rotate_left
                        ·intro w'
                         go_simp
                         with_reducible rfl
                        rotate_left
                        ·simp only [Act.put, List.setIfInBounds_toArray, List.set_cons_zero, List.set_cons_succ, i64_w, i32_w]
                         rfl
                        refine pure_ (i := 15) (N := some 118) (v := ?_) (a' := ?_) (bitsL 20 57343) rfl rfl (any_of HT_.out (by kernel_rfl)) (fun _ _ _ h => h) (Or.inl ⟨by rfl, ?_⟩) ?_ ?_
                        rotate_left
                        ·intro w'
                         go_simp
                         with_reducible rfl
                        rotate_left
                        ·simp only [Act.put, List.setIfInBounds_toArray, List.set_cons_zero, List.set_cons_succ, i64_w, i32_w]
                         rfl
                        refine pure_ (i := 16) (N := some 119) (v := ?_) (a' := ?_) (bitsL 20 122879) rfl rfl (any_of HT_.out (by kernel_rfl)) (fun _ _ _ h => h) (Or.inl ⟨by rfl, ?_⟩) ?_ ?_
                        rotate_left
                        ·intro w'
                         go_simp
                         with_reducible rfl
                        rotate_left
                        ·simp only [Act.put, List.setIfInBounds_toArray, List.set_cons_zero, List.set_cons_succ, i64_w, i32_w]
                         rfl
                        refine take_ (i := 13) (N := some 116) (v := ?_) (a' := ?_) (bitsL 20 131071) rfl rfl (take_ofW HT_.out HW_.out (by kernel_rfl)) (fun _ _ _ h => h) (Or.inl ⟨by rfl, ?_⟩) hHeld ?_ ?_
                        rotate_left
                        ·rintro w' ⟨s0, s1, s2, s3⟩
                         go_simp
                         with_reducible rfl
                        rotate_left
                        ·simp only [Act.put, List.setIfInBounds_toArray, List.set_cons_zero, List.set_cons_succ, i64_w, i32_w]
                         rfl
                        refine take_ (i := 17) (N := some 120) (v := ?_) (a' := ?_) (bitsL 20 262143) rfl rfl (take_ofW HT_.out HW_.out (by kernel_rfl)) (fun _ _ _ h => h) (Or.inl ⟨by rfl, ?_⟩) hHeld ?_ ?_
                        rotate_left
                        ·rintro w' ⟨s0, s1, s2, s3⟩
                         go_simp
                         with_reducible rfl
                        rotate_left
                        ·simp only [Act.put, List.setIfInBounds_toArray, List.set_cons_zero, List.set_cons_succ, i64_w, i32_w]
                         rfl
                        refine pure_ (i := 18) (N := some 121) (v := ?_) (a' := ?_) (bitsL 20 524287) rfl rfl (any_of HT_.out (by kernel_rfl)) (fun _ _ _ h => h) (Or.inl ⟨by rfl, ?_⟩) ?_ ?_
                        rotate_left
                        ·intro w'
                         go_simp
                         with_reducible rfl
                        rotate_left
                        ·simp only [Act.put, List.setIfInBounds_toArray, List.set_cons_zero, List.set_cons_succ, i64_w, i32_w]
                         rfl
                        refine pure_ (i := 19) (N := some 122) (v := ?_) (a' := ?_) (bitsL 20 1048575) rfl rfl (any_of HT_.out (by kernel_rfl)) (fun _ _ _ h => h) (Or.inl ⟨by rfl, ?_⟩) ?_ ?_
                        rotate_left
                        ·intro w'
                         go_simp
                         with_reducible rfl
                        rotate_left
                        ·simp only [Act.put, List.setIfInBounds_toArray, List.set_cons_zero, List.set_cons_succ, i64_w, i32_w]
                         rfl
                        refine done_ (done_of HT_.out (by kernel_rfl)) ?_
                        as_aux_lemma =>
                         try go_wp2
                         go_roundg k4
                         case measure => have := HJ5.out; have := HJ20.out; have := HJ50.out; have := HK4.out; omega
                         case rel => exact ⟨(wrap64 (x100_4 + 1)), cl, H', ⟨by have := HJ5.out; have := HJ20.out; have := HJ50.out; have := HK4.out; omega⟩, ⟨by (with_reducible repeat (first | apply Kd.R_alloc | apply Kd.R_drewN | apply Kd.R_drew)); exact HO_11.out⟩, ⟨by (with_reducible repeat (first | apply Kd.R_alloc | apply Kd.R_drewN | apply Kd.R_drew)); exact HO_12.out⟩, ⟨by (with_reducible repeat (first | apply Kd.R_alloc | apply Kd.R_drewN | apply Kd.R_drew)); exact HO_13.out⟩, ⟨bk⟩, ⟨bwS⟩⟩
                      ·rw [if_neg c72] at H
                       have c72b0 : ((rdOf ByteArray.empty t217 x100_4).toList == (rdOf ByteArray.empty t223 x100_4).toList) = false := beq_eq_false_iff_ne.mpr c72
                       have c72b1 : ((rdOf ByteArray.empty t217 x100_4).toList != (rdOf ByteArray.empty t223 x100_4).toList) = true := bne_iff_ne.mpr c72
                       obtain rfl := Option.some.inj H
                       as_aux_lemma =>
                        try go_wp2
                        have n0_ := Aside0.mk (Kd.R_drew HO_11.out)
                        have n1_ := Aside0.mk (Kd.R_drew HO_12.out)
                        have n2_ := Aside0.mk (Kd.R_drew HO_13.out)
                        have n3_ := Aside0.mk (blk_drew BK197.out)
                        have n4_ := Aside0.mk (below_drew1 HB.out)
                        clear HO_11
                        clear HO_12
                        clear HO_13
                        clear BK197
                        clear HB
                        have HO_11 := n0_
                        have HO_12 := n1_
                        have HO_13 := n2_
                        have BK197 := n3_
                        have HB := n4_
                        clear n0_ n1_ n2_ n3_ n4_
                        have p226 : 0 ≤ (x100_4 : Int) := od
                        have q226 : x100_4 < (t217.length : Int) := od
                        obtain ⟨ad226, e226, hx226_0⟩ := Kd.at_string (Kd.R_reads' HO_11.out).2.2 x100_4 p226 q226
                        cases e226
                        replace p226 := eq_true p226
                        replace q226 := eq_true q226
                        obtain ⟨Ao77, co77, eo77⟩ := Kd.R_slice HO_12.out
                        (first | subst eo77 | (injection eo77 with f1_ f2_ f3_; have f4_ := f1_.symm; have f5_ := f3_.symm; clear f1_ f2_ f3_; subst f4_; subst f5_))
                        have p227 : 0 ≤ (x100_4 : Int) := od
                        have q227 : x100_4 < (t220.length : Int) := od
                        obtain ⟨ad227, e227, hx227_0⟩ := Kd.at_string (Kd.R_reads' HO_12.out).2.2 x100_4 p227 q227
                        cases e227
                        replace p227 := eq_true p227
                        replace q227 := eq_true q227
                        have p228 : 0 ≤ (x100_4 : Int) := od
                        have q228 : x100_4 < (t217.length : Int) := od
                        obtain ⟨ad228, e228, hx228_0⟩ := Kd.at_string (Kd.R_reads' HO_11.out).2.2 x100_4 p228 q228
                        obtain rfl : ad226 = ad228 := (by injection e228)
                        replace p228 := eq_true p228
                        replace q228 := eq_true q228
                        obtain ⟨Ao78, co78, eo78⟩ := Kd.R_slice HO_13.out
                        (first | subst eo78 | (injection eo78 with f1_ f2_ f3_; have f4_ := f1_.symm; have f5_ := f3_.symm; clear f1_ f2_ f3_; subst f4_; subst f5_))
                        have p229 : 0 ≤ (x100_4 : Int) := od
                        have q229 : x100_4 < (t223.length : Int) := od
                        obtain ⟨ad229, e229, hx229_0⟩ := Kd.at_string (Kd.R_reads' HO_13.out).2.2 x100_4 p229 q229
                        cases e229
                        replace p229 := eq_true p229
                        replace q229 := eq_true q229
                        refine start_ (n := 20) (S := fun w' => w'.cell? (ad226.add (x100_4).toNat) = some (.string (rdOf ByteArray.empty t217 x100_4)) ∧ w'.cell? (ad227.add (x100_4).toNat) = some (.string (rdOf ByteArray.empty t220 x100_4)) ∧ w'.cell? (ad226.add (x100_4).toNat) = some (.string (rdOf ByteArray.empty t217 x100_4)) ∧ w'.cell? (ad229.add (x100_4).toNat) = some (.string (rdOf ByteArray.empty t223 x100_4))) (ds := []) #[false, false, false, false, false, false, false, false, false, false, false, false, false, false, false, false, false, false, false, false] (by kernel_rfl) rfl rfl ⟨hx226_0, hx227_0, hx228_0, hx229_0⟩ (fun hHeld => ?_); refine with_tabW bulletinlaw15_HeadPut.tab18 bulletinlaw15_HeadPut.bits18 (fun HT_ HW_ => ?_)
                        generalize wr.drew = w76 at HO_11 HO_12 HO_13 BK197 HB hx226_0 hx227_0 hx228_0 hx229_0 hHeld ⊢
                        refine pure_ (i := 0) (N := some 103) (v := ?_) (a' := ?_) (bitsL 20 1) rfl rfl (any_of HT_.out (by kernel_rfl)) (fun _ _ _ h => h) (Or.inl ⟨by rfl, ?_⟩) ?_ ?_
                        rotate_left
                        ·intro w'
                         go_simp
                         with_reducible rfl
                        rotate_left
                        ·simp only [Act.put, List.setIfInBounds_toArray, List.set_cons_zero, List.set_cons_succ, i64_w, i32_w]
                         rfl
                        refine pure_ (i := 1) (N := some 104) (v := ?_) (a' := ?_) (bitsL 20 3) rfl rfl (any_of HT_.out (by kernel_rfl)) (fun _ _ _ h => h) (Or.inl ⟨by rfl, ?_⟩) ?_ ?_
                        rotate_left
                        ·intro w'
                         go_simp
                         with_reducible rfl
                        rotate_left
                        ·simp only [Act.put, List.setIfInBounds_toArray, List.set_cons_zero, List.set_cons_succ, i64_w, i32_w]
                         rfl
                        refine pure_ (i := 2) (N := some 105) (v := ?_) (a' := ?_) (bitsL 20 7) rfl rfl (any_of HT_.out (by kernel_rfl)) (fun _ _ _ h => h) (Or.inl ⟨by rfl, ?_⟩) ?_ ?_
                        rotate_left
                        ·intro w'
                         go_simp
                         with_reducible rfl
                        rotate_left
                        ·simp only [Act.put, List.setIfInBounds_toArray, List.set_cons_zero, List.set_cons_succ, i64_w, i32_w]
                         rfl
                        refine pure_ (i := 4) (N := some 107) (v := ?_) (a' := ?_) (bitsL 20 23) rfl rfl (any_of HT_.out (by kernel_rfl)) (fun _ _ _ h => h) (Or.inl ⟨by rfl, ?_⟩) ?_ ?_
                        rotate_left
                        ·intro w'
                         go_simp
                         with_reducible rfl
                        rotate_left
                        ·simp only [Act.put, List.setIfInBounds_toArray, List.set_cons_zero, List.set_cons_succ, i64_w, i32_w]
                         rfl
                        refine pure_ (i := 5) (N := some 108) (v := ?_) (a' := ?_) (bitsL 20 55) rfl rfl (any_of HT_.out (by kernel_rfl)) (fun _ _ _ h => h) (Or.inl ⟨by rfl, ?_⟩) ?_ ?_
                        rotate_left
                        ·intro w'
                         go_simp
                         with_reducible rfl
                        rotate_left
                        ·simp only [Act.put, List.setIfInBounds_toArray, List.set_cons_zero, List.set_cons_succ, i64_w, i32_w]
                         rfl
                        refine pure_ (i := 6) (N := some 109) (v := ?_) (a' := ?_) (bitsL 20 119) rfl rfl (any_of HT_.out (by kernel_rfl)) (fun _ _ _ h => h) (Or.inl ⟨by rfl, ?_⟩) ?_ ?_
                        rotate_left
                        ·intro w'
                         go_simp
                         with_reducible rfl
                        rotate_left
                        ·simp only [Act.put, List.setIfInBounds_toArray, List.set_cons_zero, List.set_cons_succ, i64_w, i32_w]
                         rfl
                        refine take_ (i := 3) (N := some 106) (v := ?_) (a' := ?_) (bitsL 20 127) rfl rfl (take_ofW HT_.out HW_.out (by kernel_rfl)) (fun _ _ _ h => h) (Or.inl ⟨by rfl, ?_⟩) hHeld ?_ ?_
                        rotate_left
                        ·rintro w' ⟨s0, s1, s2, s3⟩
                         go_simp
                         with_reducible rfl
                        rotate_left
                        ·simp only [Act.put, List.setIfInBounds_toArray, List.set_cons_zero, List.set_cons_succ, i64_w, i32_w]
                         rfl
                        refine take_ (i := 7) (N := some 110) (v := ?_) (a' := ?_) (bitsL 20 255) rfl rfl (take_ofW HT_.out HW_.out (by kernel_rfl)) (fun _ _ _ h => h) (Or.inl ⟨by rfl, ?_⟩) hHeld ?_ ?_
                        rotate_left
                        ·rintro w' ⟨s0, s1, s2, s3⟩
                         go_simp
                         with_reducible rfl
                        rotate_left
                        ·simp only [Act.put, List.setIfInBounds_toArray, List.set_cons_zero, List.set_cons_succ, i64_w, i32_w]
                         rfl
                        refine pure_ (i := 8) (N := some 111) (v := ?_) (a' := ?_) (bitsL 20 511) rfl rfl (any_of HT_.out (by kernel_rfl)) (fun _ _ _ h => h) (Or.inl ⟨by rfl, ?_⟩) ?_ ?_
                        rotate_left
                        ·intro w'
                         go_simp
                         with_reducible rfl
                        rotate_left
                        ·simp only [Act.put, List.setIfInBounds_toArray, List.set_cons_zero, List.set_cons_succ, i64_w, i32_w]
                         rfl
                        refine pure_ (i := 9) (N := some 112) (v := ?_) (a' := ?_) (bitsL 20 1023) rfl rfl (any_of HT_.out (by kernel_rfl)) (fun _ _ _ h => h) (Or.inl ⟨by rfl, ?_⟩) ?_ ?_
                        rotate_left
                        ·intro w'
                         go_simp
                         with_reducible rfl
                        rotate_left
                        ·simp only [Act.put, List.setIfInBounds_toArray, List.set_cons_zero, List.set_cons_succ, i64_w, i32_w]
                         rfl
                        refine pure_ (i := 10) (N := some 113) (v := ?_) (a' := ?_) (bitsL 20 2047) rfl rfl (any_of HT_.out (by kernel_rfl)) (fun _ _ _ h => h) (Or.inl ⟨by rfl, ?_⟩) ?_ ?_
                        rotate_left
                        ·intro w'
                         go_simp
                         with_reducible rfl
                        rotate_left
                        ·simp only [Act.put, List.setIfInBounds_toArray, List.set_cons_zero, List.set_cons_succ, i64_w, i32_w]
                         rfl
                        refine pure_ (i := 11) (N := some 114) (v := ?_) (a' := ?_) (bitsL 20 4095) rfl rfl (any_of HT_.out (by kernel_rfl)) (fun _ _ _ h => h) (Or.inl ⟨by rfl, ?_⟩) ?_ ?_
                        rotate_left
                        ·intro w'
                         go_simp
                         with_reducible rfl
                        rotate_left
                        ·simp only [Act.put, List.setIfInBounds_toArray, List.set_cons_zero, List.set_cons_succ, i64_w, i32_w]
                         rfl
                        refine pure_ (i := 12) (N := some 115) (v := ?_) (a' := ?_) (bitsL 20 8191) rfl rfl (any_of HT_.out (by kernel_rfl)) (fun _ _ _ h => h) (Or.inl ⟨by rfl, ?_⟩) ?_ ?_
                        rotate_left
                        ·intro w'
                         go_simp
                         with_reducible rfl
                        rotate_left
                        ·simp only [Act.put, List.setIfInBounds_toArray, List.set_cons_zero, List.set_cons_succ, i64_w, i32_w]
                         rfl
                        refine pure_ (i := 14) (N := some 117) (v := ?_) (a' := ?_) (bitsL 20 24575) rfl rfl (any_of HT_.out (by kernel_rfl)) (fun _ _ _ h => h) (Or.inl ⟨by rfl, ?_⟩) ?_ ?_
                        rotate_left
                        ·intro w'
                         go_simp
                         with_reducible rfl
                        rotate_left
                        ·simp only [Act.put, List.setIfInBounds_toArray, List.set_cons_zero, List.set_cons_succ, i64_w, i32_w]
                         rfl
                        refine pure_ (i := 15) (N := some 118) (v := ?_) (a' := ?_) (bitsL 20 57343) rfl rfl (any_of HT_.out (by kernel_rfl)) (fun _ _ _ h => h) (Or.inl ⟨by rfl, ?_⟩) ?_ ?_
                        rotate_left
                        ·intro w'
                         go_simp
                         with_reducible rfl
                        rotate_left
                        ·simp only [Act.put, List.setIfInBounds_toArray, List.set_cons_zero, List.set_cons_succ, i64_w, i32_w]
                         rfl
                        refine pure_ (i := 16) (N := some 119) (v := ?_) (a' := ?_) (bitsL 20 122879) rfl rfl (any_of HT_.out (by kernel_rfl)) (fun _ _ _ h => h) (Or.inl ⟨by rfl, ?_⟩) ?_ ?_
                        rotate_left
                        ·intro w'
                         go_simp
                         with_reducible rfl
                        rotate_left
                        ·simp only [Act.put, List.setIfInBounds_toArray, List.set_cons_zero, List.set_cons_succ, i64_w, i32_w]
                         rfl
                        refine take_ (i := 13) (N := some 116) (v := ?_) (a' := ?_) (bitsL 20 131071) rfl rfl (take_ofW HT_.out HW_.out (by kernel_rfl)) (fun _ _ _ h => h) (Or.inl ⟨by rfl, ?_⟩) hHeld ?_ ?_
                        rotate_left
                        ·rintro w' ⟨s0, s1, s2, s3⟩
                         go_simp
                         with_reducible rfl
                        rotate_left
                        ·simp only [Act.put, List.setIfInBounds_toArray, List.set_cons_zero, List.set_cons_succ, i64_w, i32_w]
                         rfl
                        refine take_ (i := 17) (N := some 120) (v := ?_) (a' := ?_) (bitsL 20 262143) rfl rfl (take_ofW HT_.out HW_.out (by kernel_rfl)) (fun _ _ _ h => h) (Or.inl ⟨by rfl, ?_⟩) hHeld ?_ ?_
                        rotate_left
                        ·rintro w' ⟨s0, s1, s2, s3⟩
                         go_simp
                         with_reducible rfl
                        rotate_left
                        ·simp only [Act.put, List.setIfInBounds_toArray, List.set_cons_zero, List.set_cons_succ, i64_w, i32_w]
                         rfl
                        refine pure_ (i := 18) (N := some 121) (v := ?_) (a' := ?_) (bitsL 20 524287) rfl rfl (any_of HT_.out (by kernel_rfl)) (fun _ _ _ h => h) (Or.inl ⟨by rfl, ?_⟩) ?_ ?_
                        rotate_left
                        ·intro w'
                         go_simp
                         with_reducible rfl
                        rotate_left
                        ·simp only [Act.put, List.setIfInBounds_toArray, List.set_cons_zero, List.set_cons_succ, i64_w, i32_w]
                         rfl
                        refine pure_ (i := 19) (N := some 122) (v := ?_) (a' := ?_) (bitsL 20 1048575) rfl rfl (any_of HT_.out (by kernel_rfl)) (fun _ _ _ h => h) (Or.inl ⟨by rfl, ?_⟩) ?_ ?_
                        rotate_left
                        ·intro w'
                         go_simp
                         with_reducible rfl
                        rotate_left
                        ·simp only [Act.put, List.setIfInBounds_toArray, List.set_cons_zero, List.set_cons_succ, i64_w, i32_w]
                         rfl
                        refine done_ (done_of HT_.out (by kernel_rfl)) ?_
                        as_aux_lemma =>
                         try go_wp2
                         go_ret
                         exact ⟨by first | rfl | (simp [errW_none, errW_some] <;> rfl) | (simp [*, errW_none, errW_some] <;> rfl), bwS⟩
                     ·rw [if_neg c71] at H
                      exact absurd H (by simp)
                    ·rw [if_neg c70] at H
                     have c70b0 : ((rdOf ByteArray.empty t217 x100_4).toList == (rdOf ByteArray.empty t220 x100_4).toList) = false := beq_eq_false_iff_ne.mpr c70
                     have c70b1 : ((rdOf ByteArray.empty t217 x100_4).toList != (rdOf ByteArray.empty t220 x100_4).toList) = true := bne_iff_ne.mpr c70
                     obtain rfl := Option.some.inj H
                     as_aux_lemma =>
                      try go_wp2
                      have n0_ := Aside0.mk (Kd.R_drew HO_11.out)
                      have n1_ := Aside0.mk (Kd.R_drew HO_12.out)
                      have n2_ := Aside0.mk (Kd.R_drew HO_13.out)
                      have n3_ := Aside0.mk (blk_drew BK197.out)
                      have n4_ := Aside0.mk (below_drew1 HB.out)
                      clear HO_11
                      clear HO_12
                      clear HO_13
                      clear BK197
                      clear HB
                      have HO_11 := n0_
                      have HO_12 := n1_
                      have HO_13 := n2_
                      have BK197 := n3_
                      have HB := n4_
                      clear n0_ n1_ n2_ n3_ n4_
                      have p226 : 0 ≤ (x100_4 : Int) := od
                      have q226 : x100_4 < (t217.length : Int) := od
                      obtain ⟨ad226, e226, hx226_0⟩ := Kd.at_string (Kd.R_reads' HO_11.out).2.2 x100_4 p226 q226
                      cases e226
                      replace p226 := eq_true p226
                      replace q226 := eq_true q226
                      obtain ⟨Ao80, co80, eo80⟩ := Kd.R_slice HO_12.out
                      (first | subst eo80 | (injection eo80 with f1_ f2_ f3_; have f4_ := f1_.symm; have f5_ := f3_.symm; clear f1_ f2_ f3_; subst f4_; subst f5_))
                      have p227 : 0 ≤ (x100_4 : Int) := od
                      have q227 : x100_4 < (t220.length : Int) := od
                      obtain ⟨ad227, e227, hx227_0⟩ := Kd.at_string (Kd.R_reads' HO_12.out).2.2 x100_4 p227 q227
                      cases e227
                      replace p227 := eq_true p227
                      replace q227 := eq_true q227
                      refine start_ (n := 20) (S := fun w' => w'.cell? (ad226.add (x100_4).toNat) = some (.string (rdOf ByteArray.empty t217 x100_4)) ∧ w'.cell? (ad227.add (x100_4).toNat) = some (.string (rdOf ByteArray.empty t220 x100_4))) (ds := []) #[false, false, false, false, false, false, false, false, false, false, false, false, false, false, false, false, false, false, false, false] (by kernel_rfl) rfl rfl ⟨hx226_0, hx227_0⟩ (fun hHeld => ?_); refine with_tabW bulletinlaw15_HeadPut.tab18 bulletinlaw15_HeadPut.bits18 (fun HT_ HW_ => ?_)
                      generalize wr.drew = w79 at HO_11 HO_12 HO_13 BK197 HB hx226_0 hx227_0 hHeld ⊢
                      refine pure_ (i := 0) (N := some 103) (v := ?_) (a' := ?_) (bitsL 20 1) rfl rfl (any_of HT_.out (by kernel_rfl)) (fun _ _ _ h => h) (Or.inl ⟨by rfl, ?_⟩) ?_ ?_
                      rotate_left
                      ·intro w'
                       go_simp
                       with_reducible rfl
                      rotate_left
                      ·simp only [Act.put, List.setIfInBounds_toArray, List.set_cons_zero, List.set_cons_succ, i64_w, i32_w]
                       rfl
                      refine pure_ (i := 1) (N := some 104) (v := ?_) (a' := ?_) (bitsL 20 3) rfl rfl (any_of HT_.out (by kernel_rfl)) (fun _ _ _ h => h) (Or.inl ⟨by rfl, ?_⟩) ?_ ?_
                      rotate_left
                      ·intro w'
                       go_simp
                       with_reducible rfl
                      rotate_left
                      ·simp only [Act.put, List.setIfInBounds_toArray, List.set_cons_zero, List.set_cons_succ, i64_w, i32_w]
                       rfl
                      refine pure_ (i := 2) (N := some 105) (v := ?_) (a' := ?_) (bitsL 20 7) rfl rfl (any_of HT_.out (by kernel_rfl)) (fun _ _ _ h => h) (Or.inl ⟨by rfl, ?_⟩) ?_ ?_
                      rotate_left
                      ·intro w'
                       go_simp
                       with_reducible rfl
                      rotate_left
                      ·simp only [Act.put, List.setIfInBounds_toArray, List.set_cons_zero, List.set_cons_succ, i64_w, i32_w]
                       rfl
                      refine pure_ (i := 4) (N := some 107) (v := ?_) (a' := ?_) (bitsL 20 23) rfl rfl (any_of HT_.out (by kernel_rfl)) (fun _ _ _ h => h) (Or.inl ⟨by rfl, ?_⟩) ?_ ?_
                      rotate_left
                      ·intro w'
                       go_simp
                       with_reducible rfl
                      rotate_left
                      ·simp only [Act.put, List.setIfInBounds_toArray, List.set_cons_zero, List.set_cons_succ, i64_w, i32_w]
                       rfl
                      refine pure_ (i := 5) (N := some 108) (v := ?_) (a' := ?_) (bitsL 20 55) rfl rfl (any_of HT_.out (by kernel_rfl)) (fun _ _ _ h => h) (Or.inl ⟨by rfl, ?_⟩) ?_ ?_
                      rotate_left
                      ·intro w'
                       go_simp
                       with_reducible rfl
                      rotate_left
                      ·simp only [Act.put, List.setIfInBounds_toArray, List.set_cons_zero, List.set_cons_succ, i64_w, i32_w]
                       rfl
                      refine pure_ (i := 6) (N := some 109) (v := ?_) (a' := ?_) (bitsL 20 119) rfl rfl (any_of HT_.out (by kernel_rfl)) (fun _ _ _ h => h) (Or.inl ⟨by rfl, ?_⟩) ?_ ?_
                      rotate_left
                      ·intro w'
                       go_simp
                       with_reducible rfl
                      rotate_left
                      ·simp only [Act.put, List.setIfInBounds_toArray, List.set_cons_zero, List.set_cons_succ, i64_w, i32_w]
                       rfl
                      refine take_ (i := 3) (N := some 106) (v := ?_) (a' := ?_) (bitsL 20 127) rfl rfl (take_ofW HT_.out HW_.out (by kernel_rfl)) (fun _ _ _ h => h) (Or.inl ⟨by rfl, ?_⟩) hHeld ?_ ?_
                      rotate_left
                      ·rintro w' ⟨s0, s1⟩
                       go_simp
                       with_reducible rfl
                      rotate_left
                      ·simp only [Act.put, List.setIfInBounds_toArray, List.set_cons_zero, List.set_cons_succ, i64_w, i32_w]
                       rfl
                      refine take_ (i := 7) (N := some 110) (v := ?_) (a' := ?_) (bitsL 20 255) rfl rfl (take_ofW HT_.out HW_.out (by kernel_rfl)) (fun _ _ _ h => h) (Or.inl ⟨by rfl, ?_⟩) hHeld ?_ ?_
                      rotate_left
                      ·rintro w' ⟨s0, s1⟩
                       go_simp
                       with_reducible rfl
                      rotate_left
                      ·simp only [Act.put, List.setIfInBounds_toArray, List.set_cons_zero, List.set_cons_succ, i64_w, i32_w]
                       rfl
                      refine pure_ (i := 8) (N := some 111) (v := ?_) (a' := ?_) (bitsL 20 511) rfl rfl (any_of HT_.out (by kernel_rfl)) (fun _ _ _ h => h) (Or.inl ⟨by rfl, ?_⟩) ?_ ?_
                      rotate_left
                      ·intro w'
                       go_simp
                       with_reducible rfl
                      rotate_left
                      ·simp only [Act.put, List.setIfInBounds_toArray, List.set_cons_zero, List.set_cons_succ, i64_w, i32_w]
                       rfl
                      refine pure_ (i := 9) (N := some 112) (v := ?_) (a' := ?_) (bitsL 20 1023) rfl rfl (any_of HT_.out (by kernel_rfl)) (fun _ _ _ h => h) (Or.inl ⟨by rfl, ?_⟩) ?_ ?_
                      rotate_left
                      ·intro w'
                       go_simp
                       with_reducible rfl
                      rotate_left
                      ·simp only [Act.put, List.setIfInBounds_toArray, List.set_cons_zero, List.set_cons_succ, i64_w, i32_w]
                       rfl
                      refine pure_ (i := 10) (N := some 113) (v := undef) (a' := ?_) (bitsL 20 2047) rfl rfl (any_of HT_.out (by kernel_rfl)) (fun _ _ _ h => h) (Or.inr ⟨by rfl, rfl⟩) ?_ ?_
                      rotate_left
                      ·simp only [Act.put, List.setIfInBounds_toArray, List.set_cons_zero, List.set_cons_succ, i64_w, i32_w]
                       rfl
                      refine pure_ (i := 11) (N := some 114) (v := undef) (a' := ?_) (bitsL 20 4095) rfl rfl (any_of HT_.out (by kernel_rfl)) (fun _ _ _ h => h) (Or.inr ⟨by rfl, rfl⟩) ?_ ?_
                      rotate_left
                      ·simp only [Act.put, List.setIfInBounds_toArray, List.set_cons_zero, List.set_cons_succ, i64_w, i32_w]
                       rfl
                      refine pure_ (i := 12) (N := some 115) (v := undef) (a' := ?_) (bitsL 20 8191) rfl rfl (any_of HT_.out (by kernel_rfl)) (fun _ _ _ h => h) (Or.inr ⟨by rfl, rfl⟩) ?_ ?_
                      rotate_left
                      ·simp only [Act.put, List.setIfInBounds_toArray, List.set_cons_zero, List.set_cons_succ, i64_w, i32_w]
                       rfl
                      refine pure_ (i := 13) (N := some 116) (v := undef) (a' := ?_) (bitsL 20 16383) rfl rfl (any_of HT_.out (by kernel_rfl)) (fun _ _ _ h => h) (Or.inr ⟨by rfl, rfl⟩) ?_ ?_
                      rotate_left
                      ·simp only [Act.put, List.setIfInBounds_toArray, List.set_cons_zero, List.set_cons_succ, i64_w, i32_w]
                       rfl
                      refine pure_ (i := 14) (N := some 117) (v := undef) (a' := ?_) (bitsL 20 32767) rfl rfl (any_of HT_.out (by kernel_rfl)) (fun _ _ _ h => h) (Or.inr ⟨by rfl, rfl⟩) ?_ ?_
                      rotate_left
                      ·simp only [Act.put, List.setIfInBounds_toArray, List.set_cons_zero, List.set_cons_succ, i64_w, i32_w]
                       rfl
                      refine pure_ (i := 15) (N := some 118) (v := undef) (a' := ?_) (bitsL 20 65535) rfl rfl (any_of HT_.out (by kernel_rfl)) (fun _ _ _ h => h) (Or.inr ⟨by rfl, rfl⟩) ?_ ?_
                      rotate_left
                      ·simp only [Act.put, List.setIfInBounds_toArray, List.set_cons_zero, List.set_cons_succ, i64_w, i32_w]
                       rfl
                      refine pure_ (i := 16) (N := some 119) (v := undef) (a' := ?_) (bitsL 20 131071) rfl rfl (any_of HT_.out (by kernel_rfl)) (fun _ _ _ h => h) (Or.inr ⟨by rfl, rfl⟩) ?_ ?_
                      rotate_left
                      ·simp only [Act.put, List.setIfInBounds_toArray, List.set_cons_zero, List.set_cons_succ, i64_w, i32_w]
                       rfl
                      refine pure_ (i := 17) (N := some 120) (v := undef) (a' := ?_) (bitsL 20 262143) rfl rfl (any_of HT_.out (by kernel_rfl)) (fun _ _ _ h => h) (Or.inr ⟨by rfl, rfl⟩) ?_ ?_
                      rotate_left
                      ·simp only [Act.put, List.setIfInBounds_toArray, List.set_cons_zero, List.set_cons_succ, i64_w, i32_w]
                       rfl
                      refine pure_ (i := 18) (N := some 121) (v := undef) (a' := ?_) (bitsL 20 524287) rfl rfl (any_of HT_.out (by kernel_rfl)) (fun _ _ _ h => h) (Or.inr ⟨by rfl, rfl⟩) ?_ ?_
                      rotate_left
                      ·simp only [Act.put, List.setIfInBounds_toArray, List.set_cons_zero, List.set_cons_succ, i64_w, i32_w]
                       rfl
                      refine pure_ (i := 19) (N := some 122) (v := ?_) (a' := ?_) (bitsL 20 1048575) rfl rfl (any_of HT_.out (by kernel_rfl)) (fun _ _ _ h => h) (Or.inl ⟨by rfl, ?_⟩) ?_ ?_
                      rotate_left
                      ·intro w'
                       go_simp
                       with_reducible rfl
                      rotate_left
                      ·simp only [Act.put, List.setIfInBounds_toArray, List.set_cons_zero, List.set_cons_succ, i64_w, i32_w]
                       rfl
                      refine done_ (done_of HT_.out (by kernel_rfl)) ?_
                      as_aux_lemma =>
                       try go_wp2
                       go_ret
                       exact ⟨by first | rfl | (simp [errW_none, errW_some] <;> rfl) | (simp [*, errW_none, errW_some] <;> rfl), bwS⟩
                   ·rw [if_neg c69] at H
                    exact absurd H (by simp)
                  ·rw [if_neg c68] at H
                   exact absurd H (by simp)
                 ·rw [if_neg c67] at H
                  exact absurd H (by simp)
                ·rw [if_neg c66] at H
                 have c66b0 : decide (x100_4 < (t217.length : Int)) = false := decide_eq_false c66
                 clear c66
                 obtain rfl := Option.some.inj H
                 as_aux_lemma =>
                  go_wp2
                  go_ret
                  exact ⟨by first | rfl | (simp [errW_none, errW_some] <;> rfl) | (simp [*, errW_none, errW_some] <;> rfl), bwS⟩
 ·replace c5 := Bool.eq_false_iff.mpr c5
  subst c5
  have H1 : (some false) = some r := by rw [if_neg (show ¬ (false = true) by decide)] at H; exact H
  clear H
  have H := H1
  clear H1
  obtain rfl := Option.some.inj H
  go_enter Tryd.func3, Tryd.ntmps3
  go_wp2_with (first | ((with_reducible refine gate_dst (N := 4) rfl ?_); (try (refine gate_guard (by rfl) ?_; dsimp only)); refine box_event ?hg (N := 4) ?hd (cs := #[.string a1_0, .string a1_1]) (t := 24) ?hr ?_; (case hd => rfl); (case hg => rfl); (case hr => first | (go_simp; done) | (go_simp; rfl)); intro gb197 hg w81 hbox hb; have n0_ := Aside0.mk (below_step bw hb); have n1_ := Aside0.mk (hbox); have n2_ := Aside0.mk ((by rw [hg]; exact (below_size bw) : w.heap.size ≤ gb197)); have n3_ := Aside0.mk ((by rw [hg]; exact (below_size bw) : w.heap.size ≤ gb197)); clear HB; have HB := n0_; have BK197 := n1_; have GW197 := n2_; have GE197 := n3_; clear n0_ n1_ n2_ n3_; clear hb hbox hg) | ((with_reducible refine gate_callee (f := 11) rfl ?_); refine goesL_ (some 15) rfl rfl Tryd.func11 (by kernel_rfl) rfl #[] rfl am ?_; (with_reducible refine (bulletinlaw15_works.calls (hG := by first | exact hG | exact Glob.below hG (by first | exact HB.out | (repeat (first | (with_reducible first | exact HB.out | apply below_alloc | apply pw_below_drewN | apply below_drew1 | refine below_set ?_ GE197.out) | exact HB.out))) | exact Glob.drawn hG (by repeat (first | exact Drawn0.refl _ | apply Drawn0.step))) k  false _ A4.out).mono ?_); rintro e w82 ⟨rfl, hb⟩; refine ⟨_, rfl, ?_⟩; have n0_ := Aside0.mk (blk_below (g := gb197) (o := .cells #[.string a1_0, .string a1_1] 24 (0, 0)) bk hb); have n1_ := Aside0.mk (below_step bwS hb); clear BK197; clear HB; have BK197 := n0_; have HB := n1_; clear n0_ n1_; (try clear hb); (try clear hb2); (try clear hk); (try clear hi)))
  go_ret
  exact ⟨by first | rfl | (simp [errW_none, errW_some] <;> rfl) | (simp [*, errW_none, errW_some] <;> rfl), bwS⟩

end Go.Proofs.YtoikneogdbdplaaDoor.Fn
set_option linter.unusedVariables false
set_option linter.unusedSimpArgs false
namespace Go.Proofs.YtoikneogdbdplaaDoor.Pl
open Go.RowKit Go.Proofs.YtoikneogdbdplaaDoorW.PrintWords Go.Proofs.YtoikneogdbdplaaDoor.Fn

/-! The reference's glyph functions, as the plain ones. -/
theorem fold_rounds (s : ByteArray) (hs : s.size ≤ 1000000000) : ∀ (l : Bytes) (k i : Nat) (acc : Bytes), (bs s).drop i = l → l.length < k → acc.length ≤ i →
    bulletinref06_Fold.l0 k s (str acc) (i : Int) = some (str (acc ++ fold l)) := by
  intro l
  induction l with
  | nil =>
    intro k i acc h hk ha
    obtain ⟨k, rfl⟩ : ∃ m, k = m + 1 := ⟨k - 1, by omega⟩
    have := drop_nil h
    rw [bs_length] at this
    simp only [bulletinref06_Fold.l0]
    rw [if_neg (by omega)]
    simp [fold]
  | cons c r ih =>
    intro k i acc h hk ha
    obtain ⟨k, rfl⟩ : ∃ m, k = m + 1 := ⟨k - 1, by omega⟩
    obtain ⟨h1, h2, h3, h4⟩ := drop_cons h
    rw [bs_length] at h1
    have hc := byte_lt c
    have hx := extract_one h
    have hw := wrap_succ i (by omega)
    simp only [bulletinref06_Fold.l0]
    rw [if_pos (by omega), if_pos (by omega), bt_drop h, hw]
    have hn := ih k (i + 1) (acc ++ [foldB c]) h3 (by simpa using hk) (by simp; omega)
    have hz : (str acc).size = acc.length := str_size acc
    have hfin : some (str (acc ++ [foldB c] ++ fold r)) = some (str (acc ++ fold (c :: r))) := by simp [fold]
    by_cases a : (c.toNat : Int) ≥ 65
    · rw [if_pos a]
      by_cases b : (c.toNat : Int) ≤ 90
      · rw [if_pos b]
        have e : strOfNums [((c.toNat : Int) + 32) % 256] = str [foldB c] := by
          rw [nums_one]
          congr 1
          have hf := foldB_up c ⟨by omega, b⟩
          have : (((c.toNat : Int) + 32) % 256).toNat = (foldB c).toNat := by omega
          rw [this, ofNat_toNat]
        simp only [Option.bind_some]
        rw [e, str_app, if_pos (by rw [hz, str_size]; simp; omega), hn, hfin]
      · rw [if_neg b]
        have hf : foldB c = c := by unfold foldB; rw [if_neg (by omega)]
        rw [if_pos (by omega), if_pos (by omega), Int.toNat_natCast, Int.toNat_natCast, hx, str_app, if_pos (by rw [hz, str_size]; simp; omega)]
        rw [hf] at hn hfin
        rw [hn, hfin]
    · rw [if_neg a]
      have hf : foldB c = c := by unfold foldB; rw [if_neg (by omega)]
      rw [if_pos (by omega), if_pos (by omega), Int.toNat_natCast, Int.toNat_natCast, hx, str_app, if_pos (by rw [hz, str_size]; simp; omega)]
      rw [hf] at hn hfin
      rw [hn, hfin]
theorem ref_fold (s : ByteArray) (hs : s.size ≤ 1000000000) (k : Nat) (hk : s.size < k) : bulletinref06_Fold.f k s = some (str (fold (bs s))) := by
  unfold bulletinref06_Fold.f
  have := fold_rounds s hs (bs s) k 0 [] (by simp) (by rw [bs_length]; exact hk) (by simp)
  simpa [str] using this

end Go.Proofs.YtoikneogdbdplaaDoor.Pl
set_option linter.unusedVariables false
set_option linter.unusedSimpArgs false
namespace Go.Proofs.YtoikneogdbdplaaDoor.Pl
open Go.RowKit Go.Proofs.YtoikneogdbdplaaDoorW.PrintWords Go.Proofs.YtoikneogdbdplaaDoor.Fn

/-! Layer 15: fields put and taken: the laws' words over lists -/
abbrev FQ := S24
abbrev FP := S30
def toF (x : FQ) : FP := ⟨x.f0, x.f1⟩
theorem up_ofS {α : Type} {f : Nat → Option α} (h : ∀ k, LeO (f k) (f (k + 1))) {r : α} {k : Nat} (hr : f k = some r) (k' : Nat) (hk : k ≤ k') : f k' = some r := by
  obtain ⟨d, rfl⟩ : ∃ d, k' = k + d := ⟨k' - k, by omega⟩
  clear hk
  induction d with
  | zero => exact hr
  | succ d ih => exact h (k + d) r ih
set_option maxRecDepth 100000 in
theorem works15S_at : bulletinlaw15_works.f 100 = some true := by decide +kernel
theorem works15S (k : Nat) (hk : 100 ≤ k) : bulletinlaw15_works.f k = some true := up_ofS bulletinlaw15_works.mono works15S_at k hk
theorem rdQ (l : List FQ) (i : Nat) (h : i < l.length) : rd_T24 l (i : Int) = l[i] := by
  unfold rd_T24
  rw [Int.toNat_natCast, List.getD_eq_getElem?_getD, List.getElem?_eq_getElem h]; rfl
theorem rdP (l : List FP) (i : Nat) (h : i < l.length) : rd_T30 l (i : Int) = l[i] := by
  unfold rd_T30
  rw [Int.toNat_natCast, List.getD_eq_getElem?_getD, List.getElem?_eq_getElem h]; rfl
theorem wrapS (i : Nat) (h : i < 1000000000) : wrap64 ((i : Int) + 1) = ((i + 1 : Nat) : Int) := by
  rw [wrap_id (by omega) (by omega)]; omega
def okQ (f : FQ) : Bool := decide (f.f0.size ≤ 200) && decide (f.f1.size ≤ 3000)
def lightQ (l : List FQ) : Bool := (l.take 30).all okQ && decide (l.length ≤ 30)
theorem lightQ_rounds (l : List FQ) : ∀ (n i k : Nat), i + n = 31 → i ≤ 30 → 2 * n + 3 < k → i ≤ l.length → bulletinlaw15_Light.l0 k l (i : Int) = some (((l.take 30).drop i).all okQ && decide (l.length ≤ 30)) := by
  intro n
  induction n with
  | zero => intro i k h hi; omega
  | succ n ih =>
    intro i k h hi hk hil
    obtain ⟨k, rfl⟩ : ∃ q, k = q + 2 := ⟨k - 2, by omega⟩
    have hd : decide ((l.length : Int) ≤ 30) = decide (l.length ≤ 30) := by congr 1; exact propext ⟨fun h => by omega, fun h => by omega⟩
    rw [bulletinlaw15_Light.l0]
    by_cases h1 : i < l.length
    · rw [if_pos (by omega)]
      by_cases h2 : i < 30
      · rw [decide_eq_true (show ((i : Int) < 30) by omega), bulletinlaw15_Light.j1, if_pos rfl, if_pos (by omega), if_pos (by omega), rdQ l i h1]
        have hdr : (l.take 30).drop i = l[i] :: (l.take 30).drop (i + 1) := by
          rw [List.drop_eq_getElem_cons (by rw [List.length_take]; omega), List.getElem_take]
        rw [hdr, List.all_cons]
        have hok : okQ l[i] = (decide ((l[i]).f0.size ≤ 200) && decide ((l[i]).f1.size ≤ 3000)) := rfl
        by_cases a : (l[i]).f0.size > 200
        · rw [if_pos (by omega), hok, decide_eq_false (by omega)]; rfl
        · rw [if_neg (by omega)]
          by_cases b : (l[i]).f1.size > 3000
          · rw [if_pos (by omega), hok, decide_eq_false (show ¬ (l[i]).f1.size ≤ 3000 by omega)]; simp
          · rw [if_neg (by omega), wrapS i (by omega), ih (i + 1) k (by omega) (by omega) (by omega) (by omega), hok, decide_eq_true (show (l[i]).f0.size ≤ 200 by omega), decide_eq_true (show (l[i]).f1.size ≤ 3000 by omega)]
            rfl
      · rw [decide_eq_false (show ¬ ((i : Int) < 30) by omega), bulletinlaw15_Light.j1, if_neg (by decide), hd, List.drop_of_length_le (by rw [List.length_take]; omega)]
        rfl
    · rw [if_neg (by omega), bulletinlaw15_Light.j1, if_neg (by decide), hd, List.drop_of_length_le (by rw [List.length_take]; omega)]
      rfl
theorem lightQ_is (l : List FQ) (k : Nat) (hk : 100 < k) : bulletinlaw15_Light.f k l = some (lightQ l) := by
  unfold bulletinlaw15_Light.f lightQ
  have := lightQ_rounds l 31 0 k (by omega) (by omega) (by omega) (by omega)
  rw [List.drop_zero] at this
  exact this
theorem lightQ_some {l : List FQ} (h : lightQ l = true) : l.length ≤ 30 ∧ ∀ f ∈ l, f.f0.size ≤ 200 ∧ f.f1.size ≤ 3000 := by
  unfold lightQ at h
  rw [Bool.and_eq_true, decide_eq_true_iff] at h
  refine ⟨h.2, fun f hf => ?_⟩
  rw [List.take_of_length_le h.2] at h
  have := List.all_eq_true.1 h.1 f hf
  unfold okQ at this
  rw [Bool.and_eq_true, decide_eq_true_iff, decide_eq_true_iff] at this
  exact this
theorem toQ_rounds (l : List FQ) (hl : l.length ≤ 1000000) : ∀ (n i k : Nat), l.length = i + n → n < k → bulletinlaw15_To.l0 k l ((l.take i).map toF) (i : Int) = some (l.map toF) := by
  intro n
  induction n with
  | zero =>
    intro i k h hk
    obtain ⟨k, rfl⟩ : ∃ q, k = q + 1 := ⟨k - 1, by omega⟩
    rw [bulletinlaw15_To.l0, if_neg (by omega), List.take_of_length_le (by omega)]
  | succ n ih =>
    intro i k h hk
    obtain ⟨k, rfl⟩ : ∃ q, k = q + 1 := ⟨k - 1, by omega⟩
    rw [bulletinlaw15_To.l0, if_pos (by omega), if_pos (by omega), if_pos (by rw [List.length_map, List.length_take]; omega), rdQ l i (by omega), wrapS i (by omega)]
    have := ih (i + 1) k (by omega) (by omega)
    rw [List.take_succ_eq_append_getElem (by omega), List.map_append] at this
    exact this
theorem toQ_is (l : List FQ) (hl : l.length ≤ 1000000) (k : Nat) (hk : l.length < k) : bulletinlaw15_To.f k l = some (l.map toF) := by
  unfold bulletinlaw15_To.f
  exact toQ_rounds l hl l.length 0 k (by omega) (by omega)
def allL (l : List FP) (name : ByteArray) : List ByteArray := (l.filter (askN name)).map (·.f1)
theorem allL_length (l : List FP) (name : ByteArray) : (allL l name).length ≤ l.length := by
  unfold allL; rw [List.length_map]; exact List.length_filter_le _ _
theorem all_rounds (l : List FP) (name : ByteArray) (hl : l.length ≤ 1000000) (hn : name.size ≤ 1000000) (hz : ∀ x ∈ l, x.f0.size ≤ 1000000) : ∀ (n i k : Nat), l.length = i + n → n < k → head_All.l0 k name (allL (l.take i) name) l (l.length : Int) (i : Int) = some (allL l name) := by
  intro n
  induction n with
  | zero =>
    intro i k h hk
    obtain ⟨k, rfl⟩ : ∃ q, k = q + 1 := ⟨k - 1, by omega⟩
    rw [head_All.l0, if_neg (by omega), List.take_of_length_le (by omega)]
  | succ n ih =>
    intro i k h hk
    obtain ⟨k, rfl⟩ : ∃ q, k = q + 1 := ⟨k - 1, by omega⟩
    have hi : i < l.length := by omega
    have hle := allL_length (l.take i) name
    rw [List.length_take] at hle
    rw [head_All.l0, if_pos (by omega), if_pos (by omega), if_pos (by omega), rdP l i hi, headsame_is _ _ (by have := hz _ (List.getElem_mem hi); omega) (by omega), Option.bind_some, wrapS i (by omega)]
    have hn := ih (i + 1) k (by omega) (by omega)
    rw [List.take_succ_eq_append_getElem hi] at hn
    unfold allL at hn ⊢
    rw [List.filter_append, List.map_append] at hn
    have ha : askN name l[i] = sameN l[i].f0 name := rfl
    cases hs : sameN l[i].f0 name with
    | true =>
      rw [if_pos rfl, if_pos (by unfold allL at hle; omega)]
      rw [List.filter_cons_of_pos (by rw [ha, hs])] at hn
      exact hn
    | false =>
      rw [if_neg (by decide)]
      rw [List.filter_cons_of_neg (by rw [ha, hs]; decide)] at hn
      simpa using hn
theorem all_is (l : List FP) (name : ByteArray) (hl : l.length ≤ 1000000) (hn : name.size ≤ 1000000) (hz : ∀ x ∈ l, x.f0.size ≤ 1000000) (k : Nat) (hk : l.length < k) : head_All.f k l name = some (allL l name) := by
  unfold head_All.f
  exact all_rounds l name hl hn hz l.length 0 k (by omega) (by omega)
theorem put_is (l : List FP) (f0 f1 : ByteArray) (hl : l.length ≤ 1000000) (hn : f0.size ≤ 1000000) (hz : ∀ x ∈ l, x.f0.size ≤ 1000000) : head_Put.f l f0 f1 = some (putL l f0 f1) := by
  unfold head_Put.f
  rw [if_pos (by omega), if_pos (by omega), if_pos (List.all_eq_true.2 fun x hx => decide_eq_true (by have := hz x hx; omega))]
theorem without_is (l : List FP) (f0 : ByteArray) (hl : l.length ≤ 1000000) (hn : f0.size ≤ 1000000) (hz : ∀ x ∈ l, x.f0.size ≤ 1000000) : head_Without.f l f0 = some (withoutL l f0) := by
  unfold head_Without.f
  rw [if_pos (by omega), if_pos (by omega), if_pos (List.all_eq_true.2 fun x hx => decide_eq_true (by have := hz x hx; omega))]
theorem firstI_before {α : Type} (p : α → Bool) : ∀ l : List α, ∀ x ∈ l.take (firstI p l), p x = false
  | [], x, h => by simp [firstI] at h
  | y :: l, x, h => by
    rw [firstI] at h
    cases hp : p y with
    | true => rw [if_pos hp] at h; simp at h
    | false =>
      rw [if_neg (by rw [hp]; decide), List.take_succ_cons] at h
      rcases List.mem_cons.1 h with rfl | h
      · exact hp
      · exact firstI_before p l x h
theorem putL_mem {l : List FP} {f0 f1 : ByteArray} {x : FP} (h : x ∈ putL l f0 f1) : x = ⟨f0, f1⟩ ∨ x ∈ l := by
  unfold putL at h
  split at h
  · rcases List.mem_append.1 h with h | h
    · rcases List.mem_append.1 h with h | h
      · exact .inr (List.mem_of_mem_take h)
      · exact .inl (List.mem_singleton.1 h)
    · exact .inr (List.mem_of_mem_drop (List.mem_filter.1 h).1)
  · rcases List.mem_append.1 h with h | h
    · exact .inr h
    · exact .inl (List.mem_singleton.1 h)
theorem putL_length (l : List FP) (f0 f1 : ByteArray) : (putL l f0 f1).length ≤ l.length + 1 := by
  unfold putL withoutL
  split
  · have := List.length_filter_le (fun x => !askN f0 x) (l.drop (firstI (askN f0) l))
    rw [List.length_append, List.length_append, List.length_take, List.length_singleton]
    rw [List.length_drop] at this
    omega
  · rw [List.length_append]; simp
theorem same_self (a : ByteArray) : sameN a a = true := by unfold sameN; exact beq_self_eq_true _
theorem filter_none {α : Type} {p : α → Bool} {l : List α} (h : ∀ x ∈ l, p x = false) : l.filter p = [] := List.filter_eq_nil_iff.2 fun x hx => by rw [h x hx]; decide
theorem without_none (l : List FP) (f0 : ByteArray) : (withoutL l f0).filter (askN f0) = [] := filter_none fun x hx => by
  have := (List.mem_filter.1 hx).2
  simpa using this
theorem firstI_out {α : Type} {p : α → Bool} {l : List α} (h : ¬ firstI p l < l.length) : ∀ x ∈ l, p x = false := fun x hx => firstI_before p l x (by
  have := firstI_le p l
  rw [List.take_of_length_le (by omega)]; exact hx)
theorem put_one (l : List FP) (f0 f1 : ByteArray) : allL (putL l f0 f1) f0 = [f1] := by
  unfold allL putL
  have h1 : askN f0 (⟨f0, f1⟩ : FP) = true := same_self f0
  split
  · rw [List.filter_append, List.filter_append, without_none, filter_none (firstI_before _ l), List.filter_cons_of_pos h1]; rfl
  · rename_i h
    rw [List.filter_append, filter_none (firstI_out h), List.filter_cons_of_pos h1]; rfl
theorem less_none (l : List FP) (f0 : ByteArray) : allL (withoutL l f0) f0 = [] := by
  unfold allL
  rw [without_none]; rfl
theorem same_apart {a b c : ByteArray} (h : sameN a b = false) (h1 : sameN c a = true) : sameN c b = false := by
  unfold sameN at *
  rw [beq_iff_eq] at h1
  rw [h1]; exact h
theorem without_other (l : List FP) (f0 name : ByteArray) (h : sameN name f0 = false) : (withoutL l f0).filter (askN name) = l.filter (askN name) := by
  unfold withoutL
  rw [List.filter_filter]
  refine List.filter_congr fun x _ => ?_
  cases hx : askN name x with
  | false => rfl
  | true =>
    have : askN f0 x = false := same_apart h hx
    rw [this]; rfl
theorem put_other (l : List FP) (f0 f1 name : ByteArray) (h : sameN name f0 = false) : allL (putL l f0 f1) name = allL l name := by
  have h1 : askN name (⟨f0, f1⟩ : FP) = false := by
    show sameN f0 name = false
    unfold sameN at *
    rw [Bool.eq_false_iff] at h ⊢
    intro e
    rw [beq_iff_eq] at e
    exact h (by rw [e]; exact beq_self_eq_true _)
  unfold allL putL
  split
  · rw [List.filter_append, List.filter_append, without_other _ _ _ h, List.filter_cons_of_neg (by rw [h1]; decide), List.filter_nil, List.append_nil, ← List.filter_append, List.take_append_drop]
  · rw [List.filter_append, List.filter_cons_of_neg (by rw [h1]; decide), List.filter_nil, List.append_nil]
theorem less_other (l : List FP) (f0 name : ByteArray) (h : sameN name f0 = false) : allL (withoutL l f0) name = allL l name := by
  unfold allL
  rw [without_other _ _ _ h]
theorem refsame_is (a b : ByteArray) (ha : a.size ≤ 1000000) (hb : b.size ≤ 1000000) (k : Nat) (hk : 1000000 < k) : bulletinref15_Same.f k a b = some (sameN a b) := by
  unfold bulletinref15_Same.f
  rw [ref_fold a (by omega) k (by omega), Option.bind_some, ref_fold b (by omega) k (by omega), Option.bind_some]
  rfl
end Go.Proofs.YtoikneogdbdplaaDoor.Pl
set_option linter.unusedVariables false
set_option linter.unusedSimpArgs false
namespace Go.Proofs.YtoikneogdbdplaaDoor.Pl
open Go.RowKit Go.Proofs.YtoikneogdbdplaaDoorW.PrintWords Go.Proofs.YtoikneogdbdplaaDoor.Fn

theorem eq_rounds (L : List ByteArray) (hl : L.length ≤ 1000000) : ∀ (n i k : Nat), L.length = i + n → n < k → bulletinlaw15_HeadPut.l0 k L L L (L.length : Int) (i : Int) = some true := by
  intro n
  induction n with
  | zero =>
    intro i k h hk
    obtain ⟨k, rfl⟩ : ∃ q, k = q + 1 := ⟨k - 1, by omega⟩
    rw [bulletinlaw15_HeadPut.l0, if_neg (by omega)]
  | succ n ih =>
    intro i k h hk
    obtain ⟨k, rfl⟩ : ∃ q, k = q + 1 := ⟨k - 1, by omega⟩
    rw [bulletinlaw15_HeadPut.l0, if_pos (by omega), if_pos (by omega), if_pos (by omega), if_pos (by omega), if_pos rfl, if_pos (by omega), if_pos rfl, wrapS i (by omega)]
    exact ih (i + 1) k (by omega) (by omega)
theorem HeadPut (q : List FQ) (f0 f1 name : ByteArray) : ∃ k, bulletinlaw15_HeadPut.f k q f0 f1 name = some true := by
  refine ⟨2000000, ?_⟩
  generalize hk : (2000000 : Nat) = k
  obtain ⟨k, rfl⟩ : ∃ m, k = m + 3 := ⟨k - 3, by omega⟩
  have hj : bulletinlaw15_HeadPut.j0 (k + 3) q name true f0 f1 = some true := by rw [bulletinlaw15_HeadPut.j0, if_pos rfl]
  unfold bulletinlaw15_HeadPut.f
  rw [works15S (k + 3) (by omega), Option.bind_some, if_pos rfl, lightQ_is q _ (by omega), Option.bind_some]
  cases hL : lightQ q with
  | false => rw [if_neg (by decide), hj]
  | true =>
  rw [if_pos rfl]
  by_cases h0 : (f0.size : Int) > 200
  · rw [if_pos h0, hj]
  rw [if_neg h0]
  by_cases h1 : (f1.size : Int) > 3000
  · rw [if_pos h1, hj]
  rw [if_neg h1]
  by_cases h2 : (name.size : Int) > 200
  · rw [decide_eq_true h2, hj]
  rw [decide_eq_false h2]
  obtain ⟨g1, g2⟩ := lightQ_some hL
  have hlen : (q.map toF).length = q.length := List.length_map ..
  have hz : ∀ x ∈ q.map toF, x.f0.size ≤ 1000000 := fun x hx => by
    obtain ⟨y, hy, rfl⟩ := List.mem_map.1 hx
    have := (g2 y hy).1
    show y.f0.size ≤ 1000000
    omega
  rw [bulletinlaw15_HeadPut.j0, if_neg (by decide), toQ_is q (by omega) _ (by omega), Option.bind_some]
  generalize q.map toF = l at hlen hz ⊢
  have hpz : ∀ x ∈ putL l f0 f1, x.f0.size ≤ 1000000 := fun x hx => by
    rcases putL_mem hx with rfl | hx
    · show f0.size ≤ 1000000; omega
    · exact hz x hx
  have hwz : ∀ x ∈ withoutL l f0, x.f0.size ≤ 1000000 := fun x hx => hz x (List.mem_filter.1 hx).1
  have hpl := putL_length l f0 f1
  have hwl : (withoutL l f0).length ≤ l.length := List.length_filter_le _ _
  rw [put_is l f0 f1 (by omega) (by omega) hz, Option.bind_some, without_is l f0 (by omega) (by omega) hz, Option.bind_some, all_is _ f0 (by omega) (by omega) hpz _ (by omega), Option.bind_some, put_one, if_pos (by rfl), if_pos (show (0 : Int) < (([f1] : List ByteArray).length : Int) from Int.one_pos), if_pos (by rfl), all_is _ f0 (by omega) (by omega) hwz _ (by omega), Option.bind_some, less_none]
  show bulletinlaw15_HeadPut.j1 (k + 2) name l (putL l f0 f1) (withoutL l f0) false f0 f1 = some true
  rw [bulletinlaw15_HeadPut.j1, if_neg (by decide), refsame_is name f0 (by omega) (by omega) _ (by omega), Option.bind_some]
  cases hs : sameN name f0 with
  | true => rw [if_pos rfl]
  | false =>
  rw [if_neg (by decide), all_is l name (by omega) (by omega) hz _ (by omega), Option.bind_some, all_is _ name (by omega) (by omega) hpz _ (by omega), Option.bind_some, all_is _ name (by omega) (by omega) hwz _ (by omega), Option.bind_some, put_other _ _ _ _ hs, less_other _ _ _ hs, if_pos rfl]
  have hne : (((allL l name).length : Int) != ((allL l name).length : Int)) = false := bne_self_eq_false _
  rw [hne, bulletinlaw15_HeadPut.j2, if_neg (by decide)]
  have := allL_length l name
  exact eq_rounds _ (by omega) (allL l name).length 0 k (by omega) (by omega)
end Go.Proofs.YtoikneogdbdplaaDoor.Pl
set_option linter.unusedVariables false
namespace Go.Proofs.YtoikneogdbdplaaDoor.Fn
open Go.RowKit Go.ChangeShapes Go.WideShapes Go.Proofs.YtoikneogdbdplaaDoorW.PrintWords

/-! A slice of fields (two texts each) that came in. -/
def strOf : Value → ByteArray | .string s => s | _ => ByteArray.empty
theorem open_fields {H : Type} {enc : TypeId × Value → H} {w : World} {base : Nat} {spare : Nat → Bool} {held : Bool} {fuel : Nat} {v : Value} {x : DataW H × List MemPlace}
    (h : DataW.trod enc Tryd.prog w base spare held fuel 22 [v] = some x) :
    ∃ (A : Option Addr) (c : Nat) (l : List (S24)), v = .slice A l.length c ∧ l.length ≤ c ∧ c ≤ maxLen ∧ Kd.C k24 w A l.length l := by
  rcases Go.Deep.open_slice_pairs Tryd.underlying22 Tryd.underlying24 (by kernel_rfl) rfl rfl (by kernel_rfl) (by kernel_rfl) h with ⟨h0, _⟩ | ⟨a, len, cap, m, n, V0, V1, D0, D1, P0, P1, hv, hb, hl, hm, hmm, _, hx⟩
  · refine ⟨none, 0, [], ?_, Nat.le_refl _, Nat.zero_le _, ?_⟩
    · simpa using h0
    · exact ⟨rfl, by simp, fun h => absurd h (by simp)⟩
  · have hlm : len ≤ m := by rw [hmm]; split <;> omega
    have s0 : ∀ i, i < len → V0 i = .string (strOf (V0 i)) := fun i hi => by
      obtain ⟨_, _, g, _⟩ := hx i (by omega)
      obtain ⟨s, e, _⟩ := DataW.trod_string Tryd.underlying9 g
      simp only [List.cons.injEq, and_true] at e
      rw [e]; rfl
    have s1 : ∀ i, i < len → V1 i = .string (strOf (V1 i)) := fun i hi => by
      obtain ⟨_, _, _, g⟩ := hx i (by omega)
      obtain ⟨s, e, _⟩ := DataW.trod_string Tryd.underlying9 g
      simp only [List.cons.injEq, and_true] at e
      rw [e]; rfl
    have hlen : ((List.range len).map fun i => (⟨strOf (V0 i), strOf (V1 i)⟩ : S24)).length = len := by simp
    refine ⟨some a, cap, (List.range len).map fun i => ⟨strOf (V0 i), strOf (V1 i)⟩, ?_, by rw [hlen]; exact hl, hm, ?_⟩
    · rw [hlen]; simpa using hv
    · rw [hlen]
      refine ⟨hlen, by unfold maxLen at hm; omega, fun h0 => ⟨a, rfl, fun j p hp => ?_⟩⟩
      have hj : j < len := by
        have := (List.getElem?_eq_some_iff.1 hp).1
        rwa [hlen] at this
      have hp' : p = ⟨strOf (V0 j), strOf (V1 j)⟩ := by
        rw [List.getElem?_map, List.getElem?_range hj] at hp
        exact (Option.some.inj hp).symm
      subst hp'
      obtain ⟨g0, g1, _, _⟩ := hx j (by omega)
      rw [s0 j hj] at g0
      rw [s1 j hj] at g1
      refine ⟨[.string (strOf (V0 j)), .string (strOf (V1 j))], rfl, k24_mk w _, fun i u hu => ?_⟩
      match i, hu with
      | 0, hu => obtain rfl := Option.some.inj hu; exact g0
      | 1, hu => obtain rfl := Option.some.inj hu; exact g1
      | i + 2, hu => simp at hu
set_option maxRecDepth 100000 in
theorem open_fields2 {H : Type} {enc : TypeId × Value → H} {w W : World} {base base' : Nat} {spare : Nat → Bool} {held : Bool} {re : Reach} {v : Value} {d : DataW H} {ps : List MemPlace}
    (hv : Value.okWide Tryd.prog W re base' 22 v) (h : DataW.Trod enc Tryd.prog w base spare held 22 v d ps) :
    ∃ (A : Option Addr) (c : Nat) (l : List (S24)), v = .slice A l.length c ∧ l.length ≤ c ∧ c ≤ maxLen ∧ Kd.C k24 w A l.length l := by
  obtain ⟨a, len, cap, rfl⟩ := okWide_slice Tryd.underlying22 hv
  obtain ⟨fuel, h⟩ := h
  have h' : DataW.trod enc Tryd.prog w base spare held fuel 22 [Value.slice a len cap] = some (d, ps) := h
  exact open_fields h'
end Go.Proofs.YtoikneogdbdplaaDoor.Fn
