/- A part of the proof of this sentence: MbxReads (14.6): the boxes of any bytes, and the one box, or why there are none, are as the document has them; of at most 2000 bytes. -/
import Derived.Test.YtihabmcaplnbcaaDoorCMbxReads3
set_option linter.unusedVariables false
set_option linter.unusedSimpArgs false
namespace Go.Proofs.YtihabmcaplnbcaaDoor.Fn
open Go.RowKit Go.Proofs.YtihabmcaplnbcaaDoorW.PrintWords Go.Proofs.YtihabmcaplnbcaaDoorW.PrintLast Go.Proofs.YtihabmcaplnbcaaDoorW.PrintMore
attribute [local go_sem high] eqA107

/-! Layer 14: an address, taken away from the front -/
set_option maxRecDepth 100000 in
theorem stop_byte (c : UInt8) : Lib.contains [44, 59, 58, 60, 62] [c] = Pl.stopB c := Pl.forall_byte (p := fun c => Lib.contains [44, 59, 58, 60, 62] [c] = Pl.stopB c) (by decide +kernel) c
theorem stops_is {t : Pl.Tok} (h : Pl.okTok t) : mbx_stops.f t.1 (Pl.str t.2) = some (Pl.stopT t) := by
 unfold mbx_stops.f Pl.stopT
 by_cases h3 : t.1 = 3
 ·obtain ⟨c, hc⟩ := h h3
  rw [if_pos h3, hc, h3]
  unfold strings_Contains.f
  rw [if_pos (by decide), Option.bind_some]
  show some (Lib.contains [44, 59, 58, 60, 62] (Pl.bs (Pl.str [c]))) = some (((3 : Int) == 3) && Pl.stopB c)
  rw [Pl.bs_str, stop_byte]
  rfl
 rw [if_neg h3, show (t.1 == 3) = false from beq_eq_false_iff_ne.2 h3]
 rfl
theorem take_non {l : List Pl.Tok} {i : Nat} (h : (l.take i).all Pl.nonT = true) (h2 : l.drop i = [] ∨ ∃ t r, l.drop i = t :: r ∧ Pl.nonT t = false) : l.takeWhile Pl.nonT = l.take i ∧ l.dropWhile Pl.nonT = l.drop i := by
 have := Pl.span_all Pl.nonT (l.drop i) h2 (l.take i) (fun t ht => List.all_eq_true.1 h t ht)
 rwa [List.take_append_drop] at this
theorem small_take {l : List Pl.Tok} (h : Small l) (i : Nat) : Small (l.take i) := by
 have h2 := h.sum
 have h3 : Pl.cat l = Pl.cat (l.take i) ++ Pl.cat (l.drop i) := by rw [← Pl.cat_app, List.take_append_drop]
 rw [h3, List.length_append] at h2
 exact ⟨Nat.le_trans (by rw [List.length_take]; omega) h.len, by omega, fun t ht => h.ok t (List.mem_of_mem_take ht)⟩
theorem of_call {W0 : World} {l : List Pl.Tok} {A : Option Addr} {c : Nat} (hC : Kd.C k107 W0 A l.length (l.map Pl.tok142)) (hc : l.length ≤ c) (hS : Small l) (i : Nat) (hi : i ≤ l.length) {W : World} (hB : Below W0.heap.size W0 W) :
  Calls Tryd.prog 144 #[.slice A i c] W fun e w' => e = .returned (.tuple #[.agg #[.string (Pl.ofT (l.take i)).1, .string (Pl.ofT (l.take i)).2.1], .int .i64 (Pl.ofT (l.take i)).2.2]) ∧ Below W.heap.size W w' := by
 have hl : (l.take i).length = i := by rw [List.length_take]; omega
 have hC1 := Kd.C_take (m := i) (show Kd.C k107 W0 A (l.map Pl.tok142).length (l.map Pl.tok142) by rw [List.length_map]; exact hC) (by rw [List.length_map]; exact hi)
 rw [← List.map_take] at hC1
 have hs := small_take hS i
 have h := addr_Of.calls (2 * (l.take i).length + 400000) A c ((l.take i).map Pl.tok142) _ _ _ W (Kd.C_below hC1 hB) (by rw [List.length_map, hl]; omega) (Pl.addrOf_is (l.take i) (by have := hs.len; omega) (by have := hs.sum; omega) _ (Nat.le_refl _))
 rw [List.length_map, hl] at h
 exact h
theorem info_mbxBox : (Tryd.prog.info? 33).map (fun i => (i.zero, i.size, i.bytes)) = some (some (.agg #[(.string ⟨#[]⟩), (.string ⟨#[]⟩), (.string ⟨#[]⟩)]), 3, 48) := by kernel_rfl
theorem RS.cutW {W0 w : World} {l : List Pl.Tok} {bx : List Pl.BoxL} (h : RS W0 w l bx) {A : Option Addr} {n c : Nat} {v : Value} (hb : w.heap[W0.heap.size]? = some (.cells #[.slice A n c, v] 65 (0, 0))) (m : Nat) (hm : m ≤ l.length) (A' : Option Addr) (n' c' : Nat) (hA : A' = if c = m then A else A.map (·.add (m * 2))) (hn : n' = n - m) (hc' : c' = c - m) :
  RS W0 (w.setCell ⟨W0.heap.size, 0, none⟩ (.slice A' n' c')) (l.drop m) bx := by
 obtain ⟨⟨A1, c1, v1, hb1, hC, hc, hR⟩, hB, hS, hM, hG⟩ := h
 rw [hb] at hb1
 simp only [Option.some.injEq, Obj.cells.injEq, Array.mk.injEq, List.cons.injEq, Value.slice.injEq, and_true] at hb1
 obtain ⟨⟨rfl, rfl, rfl⟩, rfl⟩ := hb1
 exact RS.cut hb hC hc hR hB hS hM hG m hm A' n' c' hA hn hc'
theorem RS.boxes {W0 w : World} {l : List Pl.Tok} {bx : List Pl.BoxL} (h : RS W0 w l bx) {x v : Value} (hb : w.heap[W0.heap.size]? = some (.cells #[x, v] 65 (0, 0))) : Kd.R k33 33 w (W0.heap.size + 1) (fun _ => True) v (bx.map toBox) := by
 obtain ⟨⟨A1, c1, v1, hb1, hC, hc, hR⟩, hB, hS, hM, hG⟩ := h
 rw [hb] at hb1
 simp only [Option.some.injEq, Obj.cells.injEq, Array.mk.injEq, List.cons.injEq, and_true] at hb1
 obtain ⟨rfl, rfl⟩ := hb1
 exact hR
theorem RS.grow {W0 w w1 : World} {l : List Pl.Tok} {bx : List Pl.BoxL} (h : RS W0 w l bx) (hb : Below (W0.heap.size + 1) w w1) {v1 : Value} {nm a b : ByteArray} (hR : Kd.R k33 33 w1 (W0.heap.size + 1) (fun _ => True) v1 (bx.map toBox ++ [(⟨nm, ⟨a, b⟩⟩ : S33)])) (hn : ¬ bx.length = 100) :
  RS W0 (w1.setCell ⟨W0.heap.size, 1, none⟩ v1) l (bx ++ [(Pl.bs nm, Pl.bs a, Pl.bs b)]) := by
 obtain ⟨⟨A1, c1, v, hb1, hC, hc, _⟩, hB, hS, hM, hG⟩ := h
 refine ⟨⟨A1, c1, v1, blk_put ((hb.block W0.heap.size (Nat.lt_succ_self _)).trans hb1) 1 v1 rfl, hC, hc, ?_⟩, (hB.trans (hb.mono (Nat.le_succ _))).setCell (p := ⟨W0.heap.size, 1, none⟩) (Nat.le_refl _) _, hS, by rw [List.length_append, List.length_singleton]; omega, hG⟩
 rw [List.map_append, List.map_singleton, show toBox (Pl.bs nm, Pl.bs a, Pl.bs b) = (⟨nm, ⟨a, b⟩⟩ : S33) by unfold toBox; simp only [Pl.str_bs]]
 exact Kd.R_mono (Kd.R_far (p := ⟨W0.heap.size, 1, none⟩) (Kd.R_bound hR) (fun k hk => by show k ≠ W0.heap.size; have := hk.2.1; omega) _) (fun _ _ => trivial)
def mbx_address.T : Bool × List (List Nat × List Nat) := (true,
 [([], []), ([], []), ([1], [1]), ([2], [2]), ([3], [3]), ([], []), ([], []), ([5, 6], [5, 6]), ([7], [7]),
  ([4, 8], [4, 8]), ([0, 0, 1, 2, 3, 4, 5, 6, 7, 8, 9], [0]), ([10, 0, 1, 2, 3, 4, 5, 6, 7, 8, 9], [10]),
  ([11, 9, 9, 0, 1, 2, 3, 4, 5, 6, 7, 8, 9], [9, 11])])
def mbx_address.B : List Nat := [0, 0, 2, 6, 14, 0, 0, 96, 224, 510, 1023, 2047, 4095]
theorem mbx_address.tab : rtab .any (opsOf Tryd.f117 10) = mbx_address.T := by kernel_rfl
theorem mbx_address.bits : waitsOk mbx_address.T.2 mbx_address.B = true := by kernel_rfl
set_option maxHeartbeats 8000000 in
set_option maxRecDepth 100000 in
theorem address_calls (W0 w : World) (l : List Pl.Tok) (bx : List Pl.BoxL) (nm : ByteArray) (h : RS W0 w l bx) :
  Calls Tryd.prog 117 #[.pointer (some ⟨W0.heap.size, 0, none⟩), .string nm] w fun e w' => e = .returned (.int .i64 (Pl.addressM (Pl.bs nm) l bx).2) ∧ ((Pl.addressM (Pl.bs nm) l bx).2 = 0 → RS W0 w' (Pl.addressM (Pl.bs nm) l bx).1.1 (Pl.addressM (Pl.bs nm) l bx).1.2) ∧ Below W0.heap.size W0 w' := by
 have hz := h.small.len
 have H := hid h
 have hz0 := hid h.lt
 clear h
 go_enter Tryd.func117, Tryd.ntmps117
 go_wp2
 go_loopw [5] (fun v5 wr => ∃ i : Nat, v5 = .int .i64 i ∧ i ≤ l.length ∧ Hid ((l.take i).all Pl.nonT = true) ∧ Hid (RS W0 wr l bx)) (fun v5 _ => l.length - (intOf v5).toNat)
 case atStart => exact ⟨0, rfl, Nat.zero_le _, hid rfl, H⟩
 case round =>
  clear H hz0
  obtain ⟨i, rfl, hi, HW, H⟩ := hrel
  obtain ⟨⟨A, c, v, hb, hC, hc, hR⟩, hB, hS, hM, hG⟩ := H.out
  have hu := Tryd.underlying107
  have hu2 := Tryd.underlying31
  have hc0 : wr.cell? ⟨W0.heap.size, 0, none⟩ = some (.slice A l.length c) := (blk_cell hb 0).trans rfl
  cases hd : l.drop i with
  | nil =>
   have hl : l.length ≤ i := by
    have := congrArg List.length hd
    rw [List.length_drop, List.length_nil] at this
    omega
   have c1 : decide ((i : Int) < (l.length : Int)) = false := decide_eq_false (by omega)
   have c1n : decide (i < l.length) = false := decide_eq_false (by omega)
   clear hl
   obtain ⟨Ab, cb, nb, rfl, hnb⟩ : ∃ Ab cb nb, v = .slice Ab nb cb ∧ Hid (nb = bx.length) := by
    obtain ⟨Ab, cb, e⟩ := Kd.R_slice hR
    exact ⟨Ab, cb, _, e, hid (List.length_map _)⟩
   have htw := hid (take_non HW.out (.inl hd))
   have hof := hid (fun W1 (hB1 : Below W0.heap.size W0 W1) => of_call hC hc hS i hi hB1)
   obtain ⟨⟨a, b, e0⟩, hres⟩ : ∃ x, Pl.ofT (l.take i) = x := ⟨_, rfl⟩
   rw [hres] at hof
   have hadr : Hid (Pl.addressM (Pl.bs nm) l bx = if e0 ≠ 0 then Pl.failM e0 else if bx.length = 100 then Pl.failM 8 else ((l.drop i, bx ++ [(Pl.bs nm, Pl.bs a, Pl.bs b)]), 0)) := by
    refine hid ?_
    unfold Pl.addressM
    rw [htw.out.1, htw.out.2, hres]
   have c6 : ((i : Int) ≤ (c : Int)) = True := eq_true (by omega)
   have c7 : (i ≤ c) = True := eq_true (by omega)
   have c8 : ((0 : Int) ≤ (i : Int)) = True := eq_true (by omega)
   have c9 : ((i : Int) ≤ (l.length : Int)) = True := eq_true (by omega)
   have c10 : (i ≤ l.length) = True := eq_true (by omega)
   have c11 : ((l.length : Int) ≤ (c : Int)) = True := eq_true (by omega)
   have c12 : (l.length ≤ c) = True := eq_true (by omega)
   have HBK := hid hb
   have hRlt := hid H.out.lt
   have hcc := hid hc
   have hii := hid hi
   have hzz := hid hz
   have HC := hid hC
   have HSM := hid hS
   have HMM := hid hM
   have HGG := hid hG
   clear hb hC hR hB hS hM hG hi hz hc hd
   have H2 := H
   have HBK2 := HBK
   by_cases he : e0 = 0
   case neg =>
    have ce : (e0 != 0) = true := bne_iff_ne.2 he
    go_wp2_with (first
     | (go_at_call 144; refine (hof.out _ H2.out.below).mono ?_; rintro e w5 ⟨rfl, b5⟩; have H5 := hid (H2.out.keep b5); have HBK5 := hid ((b5.block W0.heap.size H2.out.lt).trans HBK2.out))
     | ((with_reducible refine gate_dst (N := 6) rfl ?_); refine box_event ?hg (N := 6) ?hd (cs := #[.string (⟨#[]⟩ : ByteArray), .string (⟨#[]⟩ : ByteArray)]) (t := 31) ?hr ?_; (case hd => rfl); (case hg => rfl); (case hr => first | (go_simp; done) | (go_simp; rfl)); intro g hg w7 hbox hb; have b0 := (blk_cell hbox 0).trans rfl; have b1 := (blk_cell hbox 1).trans rfl; have bf0 := blk_frozen hbox 0; have bf1 := blk_frozen hbox 1; have H7 := hid (H5.out.keep hb); have HG7 := hid hg; have HL5 := hid H5.out.lt; clear hb hbox hg))
    go_ret
    refine ⟨?_, fun h0 => ?_, ?_⟩
    ·rw [hadr.out, if_pos he]; rfl
    ·rw [hadr.out, if_pos he] at h0; exact absurd h0 he
    exact (H7.out.below.setCell (p := ⟨g, 0, none⟩) (by show W0.heap.size ≤ g; have := HL5.out; have := HG7.out; omega) _).setCell (p := ⟨g, 1, none⟩) (by show W0.heap.size ≤ g; have := HL5.out; have := HG7.out; omega) _
   case pos =>
    subst he
    by_cases hn : nb = 100
    ·have cn : ((nb : Int) == 100) = true := beq_iff_eq.2 (by omega)
     have cn2 : (nb == 100) = true := beq_iff_eq.2 hn
     go_wp2_with (first
      | (go_at_call 144; refine (hof.out _ H2.out.below).mono ?_; rintro e w5 ⟨rfl, b5⟩; have H5 := hid (H2.out.keep b5); have HBK5 := hid ((b5.block W0.heap.size H2.out.lt).trans HBK2.out))
      | ((with_reducible refine gate_dst (N := 6) rfl ?_); refine box_event ?hg (N := 6) ?hd (cs := #[.string (⟨#[]⟩ : ByteArray), .string (⟨#[]⟩ : ByteArray)]) (t := 31) ?hr ?_; (case hd => rfl); (case hg => rfl); (case hr => first | (go_simp; done) | (go_simp; rfl)); intro g hg w7 hbox hb; have b0 := (blk_cell hbox 0).trans rfl; have b1 := (blk_cell hbox 1).trans rfl; have bf0 := blk_frozen hbox 0; have bf1 := blk_frozen hbox 1; have HB57 := hid hb; have HG7k := hid hbox; have HBK7 := hid ((hb.block W0.heap.size H5.out.lt).trans HBK5.out); have H7 := hid (H5.out.keep hb); have HG7 := hid hg; have HL5 := hid H5.out.lt; have hne : ¬ W0.heap.size = g := (by have := HL5.out; omega); have r0 := (blk_cell HBK7.out 0).trans rfl; have r1 := (blk_cell HBK7.out 1).trans rfl; have rf0 := blk_frozen HBK7.out 0; have rf1 := blk_frozen HBK7.out 1; clear hb hbox hg))
     all_goals
      have hb100 : bx.length = 100 := by rw [← hnb.out]; exact hn
      have hal : Pl.addressM (Pl.bs nm) l bx = Pl.failM 8 := by rw [hadr.out, if_neg (by simp), if_pos hb100]
      go_ret
      rw [hal]
      exact ⟨rfl, fun h0 => absurd h0 (by decide), (((H5.out.keep ((HB57.out.setCell (p := ⟨g, 0, none⟩) (Nat.le_of_eq HG7.out.symm) (.string a)).setCell (p := ⟨g, 1, none⟩) (Nat.le_of_eq HG7.out.symm) (.string b))).below).setCell (p := ⟨W0.heap.size, 0, none⟩) (Nat.le_refl _) _)⟩
    have cn : ((nb : Int) == 100) = false := beq_eq_false_iff_ne.2 (by omega)
    have cn2 : (nb == 100) = false := beq_eq_false_iff_ne.2 hn
    go_wp2_with (first
     | (go_at_call 144; refine (hof.out _ H2.out.below).mono ?_; rintro e w5 ⟨rfl, b5⟩; have H5 := hid (H2.out.keep b5); have HBK5 := hid ((b5.block W0.heap.size H2.out.lt).trans HBK2.out))
     | ((with_reducible refine gate_dst (N := 6) rfl ?_); refine box_event ?hg (N := 6) ?hd (cs := #[.string (⟨#[]⟩ : ByteArray), .string (⟨#[]⟩ : ByteArray)]) (t := 31) ?hr ?_; (case hd => rfl); (case hg => rfl); (case hr => first | (go_simp; done) | (go_simp; rfl)); intro g hg w7 hbox hb; have b0 := (blk_cell hbox 0).trans rfl; have b1 := (blk_cell hbox 1).trans rfl; have bf0 := blk_frozen hbox 0; have bf1 := blk_frozen hbox 1; have HB57 := hid hb; have HG7k := hid hbox; have HBK7 := hid ((hb.block W0.heap.size H5.out.lt).trans HBK5.out); have H7 := hid (H5.out.keep hb); have HG7 := hid hg; have HL5 := hid H5.out.lt; have hne : ¬ W0.heap.size = g := (by have := HL5.out; omega); have r0 := (blk_cell HBK7.out 0).trans rfl; have r1 := (blk_cell HBK7.out 1).trans rfl; have rf0 := blk_frozen HBK7.out 0; have rf1 := blk_frozen HBK7.out 1; clear hb hbox hg))
    all_goals
     have hgR : W0.heap.size < g := by have := HL5.out; have := HG7.out; omega
     have hnb100 : Hid (¬ bx.length = 100) := hid (by rw [← hnb.out]; exact hn)
     have HGp : Hid (((w7.setCell ⟨g, 0, none⟩ (.string a)).setCell ⟨g, 1, none⟩ (.string b)).heap[g]? = some (.cells #[.string a, .string b] 31 (0, 0))) := hid (blk_put (blk_put HG7k.out 0 _ rfl) 1 _ rfl)
     have HB7p : Hid (((w7.setCell ⟨g, 0, none⟩ (.string a)).setCell ⟨g, 1, none⟩ (.string b)).heap[W0.heap.size]? = some (.cells #[.slice A l.length c, .slice Ab nb cb] 65 (0, 0))) := hid ((Below.heap_setCell _ _ _ _ (by show W0.heap.size ≠ g; omega)).trans ((Below.heap_setCell _ _ _ _ (by show W0.heap.size ≠ g; omega)).trans HBK7.out))
     have H7p : Hid (RS W0 ((w7.setCell ⟨g, 0, none⟩ (.string a)).setCell ⟨g, 1, none⟩ (.string b)) l bx) := hid (H5.out.keep ((HB57.out.setCell (p := ⟨g, 0, none⟩) (Nat.le_of_eq HG7.out.symm) _).setCell (p := ⟨g, 1, none⟩) (Nat.le_of_eq HG7.out.symm) _))
     refine start_ (n := 13) (S := (fun w' => w'.cell? ⟨W0.heap.size, 1, none⟩ = some (.slice Ab nb cb) ∧ w'.cell? ⟨g, 0, none⟩ = some (.string a) ∧ w'.cell? ⟨g, 1, none⟩ = some (.string b))) (ds := [12]) #[false, false, false, false, false, false, false, false, false, false, false, false, false] (by kernel_rfl) rfl rfl ⟨(blk_cell (blk_drew (blk_put HB7p.out 0 _ rfl)) 1).trans rfl, (blk_cell (blk_drew ((Below.heap_setCell _ _ _ _ (by show g ≠ W0.heap.size; omega)).trans HGp.out)) 0).trans rfl, (blk_cell (blk_drew ((Below.heap_setCell _ _ _ _ (by show g ≠ W0.heap.size; omega)).trans HGp.out)) 1).trans rfl⟩ (fun hHeld => ?_); refine with_tabW mbx_address.tab mbx_address.bits (fun HT_ HW_ => ?_)
     generalize hW8 : World.drew _ = w8 at hHeld ⊢
     have H8 : Hid (RS W0 w8 (l.drop i) bx) := hid (by rw [← hW8]; exact (RS.cutW H7p.out HB7p.out i hii.out _ _ _ (by first | rfl | (simp [*]; done) | (simp [*]; rfl)) (by first | rfl | (simp; done) | omega) (by first | rfl | (simp; done) | omega)).keep (below_drew (Below.refl _ _)))
     have HB8 : Hid (∃ A' n' c', w8.heap[W0.heap.size]? = some (.cells #[.slice A' n' c', .slice Ab nb cb] 65 (0, 0))) := hid ⟨_, _, _, by rw [← hW8]; exact blk_drew (blk_put HB7p.out 0 _ rfl)⟩
     have HG8 : Hid (w8.heap[g]? = some (.cells #[.string a, .string b] 31 (0, 0))) := hid (by rw [← hW8]; exact blk_drew ((Below.heap_setCell _ _ _ _ (by show g ≠ W0.heap.size; omega)).trans HGp.out))
     clear hW8 b0 b1 bf0 bf1 r0 r1 rf0 rf1
     refine pure_ (i := 0) (N := some 56) (v := ?_) (a' := ?_) #[true, false, false, false, false, false, false, false, false, false, false, false, false] rfl rfl (any_of HT_.out (by kernel_rfl)) (fun _ _ _ h => h) (Or.inl ⟨by rfl, ?_⟩) ?_ ?_
     rotate_left
     ·intro w'
      go_simp
      with_reducible rfl
     rotate_left
     ·simp only [Act.put, List.setIfInBounds_toArray, List.set_cons_zero, List.set_cons_succ, i64_w, i32_w]
      rfl
     refine pure_ (i := 1) (N := some 57) (v := ?_) (a' := ?_) #[true, true, false, false, false, false, false, false, false, false, false, false, false] rfl rfl (any_of HT_.out (by kernel_rfl)) (fun _ _ _ h => h) (Or.inl ⟨by rfl, ?_⟩) ?_ ?_
     rotate_left
     ·intro w'
      go_simp
      with_reducible rfl
     rotate_left
     ·simp only [Act.put, List.setIfInBounds_toArray, List.set_cons_zero, List.set_cons_succ, i64_w, i32_w]
      rfl
     refine pure_ (i := 2) (N := some 58) (v := ?_) (a' := ?_) #[true, true, true, false, false, false, false, false, false, false, false, false, false] rfl rfl (any_of HT_.out (by kernel_rfl)) (fun _ _ _ h => h) (Or.inl ⟨by rfl, ?_⟩) ?_ ?_
     rotate_left
     ·intro w'
      go_simp
      with_reducible rfl
     rotate_left
     ·simp only [Act.put, List.setIfInBounds_toArray, List.set_cons_zero, List.set_cons_succ, i64_w, i32_w]
      rfl
     refine pure_ (i := 3) (N := some 59) (v := ?_) (a' := ?_) #[true, true, true, true, false, false, false, false, false, false, false, false, false] rfl rfl (any_of HT_.out (by kernel_rfl)) (fun _ _ _ h => h) (Or.inl ⟨by rfl, ?_⟩) ?_ ?_
     rotate_left
     ·intro w'
      go_simp
      with_reducible rfl
     rotate_left
     ·simp only [Act.put, List.setIfInBounds_toArray, List.set_cons_zero, List.set_cons_succ, i64_w, i32_w]
      rfl
     refine take_ (i := 4) (N := some 60) (v := ?_) (a' := ?_) #[true, true, true, true, true, false, false, false, false, false, false, false, false] rfl rfl (take_ofW HT_.out HW_.out (by kernel_rfl)) (fun _ _ _ h => h) (Or.inl ⟨by rfl, ?_⟩) hHeld ?_ ?_
     rotate_left
     ·rintro w' ⟨s0, s1, s2⟩
      go_simp
      with_reducible rfl
     rotate_left
     ·simp only [Act.put, List.setIfInBounds_toArray, List.set_cons_zero, List.set_cons_succ, i64_w, i32_w]
      rfl
     refine pure_ (i := 5) (N := some 61) (v := ?_) (a' := ?_) #[true, true, true, true, true, true, false, false, false, false, false, false, false] rfl rfl (any_of HT_.out (by kernel_rfl)) (fun _ _ _ h => h) (Or.inl ⟨by rfl, ?_⟩) ?_ ?_
     rotate_left
     ·intro w'
      go_simp
      with_reducible rfl
     rotate_left
     ·simp only [Act.put, List.setIfInBounds_toArray, List.set_cons_zero, List.set_cons_succ, i64_w, i32_w]
      rfl
     refine take_ (i := 6) (N := some 62) (v := ?_) (a' := ?_) #[true, true, true, true, true, true, true, false, false, false, false, false, false] rfl rfl (take_ofW HT_.out HW_.out (by kernel_rfl)) (fun _ _ _ h => h) (Or.inl ⟨by rfl, ?_⟩) hHeld ?_ ?_
     rotate_left
     ·rintro w' ⟨s0, s1, s2⟩
      go_simp
      with_reducible rfl
     rotate_left
     ·simp only [Act.put, List.setIfInBounds_toArray, List.set_cons_zero, List.set_cons_succ, i64_w, i32_w]
      rfl
     refine pure_ (i := 7) (N := some 63) (v := ?_) (a' := ?_) #[true, true, true, true, true, true, true, true, false, false, false, false, false] rfl rfl (any_of HT_.out (by kernel_rfl)) (fun _ _ _ h => h) (Or.inl ⟨by rfl, ?_⟩) ?_ ?_
     rotate_left
     ·intro w'
      go_simp
      with_reducible rfl
     rotate_left
     ·simp only [Act.put, List.setIfInBounds_toArray, List.set_cons_zero, List.set_cons_succ, i64_w, i32_w]
      rfl
     refine one_ (i := 8) (N := some 64) #[true, true, true, true, true, true, true, true, true, false, false, false, false] rfl rfl (one_of HT_.out (by kernel_rfl)) (by decide) (fun K hK => ?_)
     refine value_ (w1 := ?_) (v := ?_) (by rfl) rfl ?_ ?_
     rotate_left 2
     ·go_simp
      constructor
      ·rfl
      rfl
     refine hK.out _ _ ⟨(blk_cell (blk_alloc (show w8.heap[W0.heap.size]? = some (.cells #[.slice _ _ _, .slice Ab nb cb] _ (0, 0)) from HB8.out.choose_spec.choose_spec.choose_spec) (.cells #[.string nm, .string a, .string b] 33)) 1).trans rfl, (blk_cell (blk_alloc HG8.out (.cells #[.string nm, .string a, .string b] 33)) 0).trans rfl, (blk_cell (blk_alloc HG8.out (.cells #[.string nm, .string a, .string b] 33)) 1).trans rfl⟩ (fun hHeld3 => ?_)
     clear hK K
     refine norm_ (a' := ?_) ?_ ?_
     rotate_left
     ·show Act.put _ (some 64) _ = _
      simp only [Act.put, List.setIfInBounds_toArray, List.set_cons_zero, List.set_cons_succ, i64_w, i32_w]
      rfl
     refine one_ (i := 9) (N := some 65) #[true, true, true, true, true, true, true, true, true, true, false, false, false] rfl rfl (one_of HT_.out (by kernel_rfl)) (by decide) (fun K hK => ?_)
     have hRb : Kd.R k33 33 w8 (W0.heap.size + 1) (fun _ => True) (.slice Ab nb cb) (bx.map toBox) := by
      obtain ⟨A', n', c', h1⟩ := HB8.out
      exact H8.out.boxes h1
     refine Kd.R_append_step k33 (w0 := w8) (W0.heap.size + 1) (by rfl) (.tmp 60) (.tmp 64) 23 33 (.agg #[(.string ⟨#[]⟩), (.string ⟨#[]⟩), (.string ⟨#[]⟩)]) 48 rfl Tryd.underlying23 info_mbxBox rfl (by decide) (by omega) (.slice Ab nb cb) (bx.map toBox) (⟨nm, ⟨a, b⟩⟩ : S33) [.string nm, .string a, .string b] (fun _ => True) (fun _ => False) rfl rfl (k33_mkM _ _ _ _) (fun _ hk => hk.elim) (fun _ _ => trivial) hRb (Below.refl _ _) H8.out.lt (by rw [List.length_map]; have := HMM.out; omega) ?_
     intro v1 w9 ho hb9 hg9 hat9
     obtain ⟨Av, nv, cv, rfl⟩ : ∃ Av nv cv, v1 = .slice Av nv cv := by
      obtain ⟨Av, cv, e⟩ := Kd.R_slice ho
      exact ⟨Av, _, cv, e⟩
     have HB9 : Hid (∃ A' n' c', w9.heap[W0.heap.size]? = some (.cells #[.slice A' n' c', .slice Ab nb cb] 65 (0, 0))) := by
      obtain ⟨A', n', c', h1⟩ := HB8.out
      exact hid ⟨A', n', c', (hb9.block W0.heap.size (Nat.lt_succ_self _)).trans h1⟩
     have HG9 := hid ((hg9.block g (blk_lt HG8.out) (Kd.R_ne hRb HG8.out (by decide))).trans HG8.out)
     have HFIN := hid (H8.out.grow hb9 ho hnb100.out)
     refine hK.out _ _ ⟨(blk_cell HB9.out.choose_spec.choose_spec.choose_spec 1).trans rfl, (blk_cell HG9.out 0).trans rfl, (blk_cell HG9.out 1).trans rfl⟩ (fun hHeld4 => ?_)
     clear hK K hRb ho hb9 hg9 hat9
     refine norm_ (a' := ?_) ?_ ?_
     rotate_left
     ·show Act.put _ (some 65) _ = _
      simp only [Act.put, List.setIfInBounds_toArray, List.set_cons_zero, List.set_cons_succ, i64_w, i32_w]
      rfl
     refine pure_ (i := 10) (N := some 66) (v := ?_) (a' := ?_) #[true, true, true, true, true, true, true, true, true, true, true, false, false] rfl rfl (any_of HT_.out (by kernel_rfl)) (fun _ _ _ h => h) (Or.inl ⟨by rfl, ?_⟩) ?_ ?_
     rotate_left
     ·intro w'
      go_simp
      with_reducible rfl
     rotate_left
     ·simp only [Act.put, List.setIfInBounds_toArray, List.set_cons_zero, List.set_cons_succ, i64_w, i32_w]
      rfl
     refine pure_ (i := 11) (N := some 67) (v := ?_) (a' := ?_) #[true, true, true, true, true, true, true, true, true, true, true, true, false] rfl rfl (any_of HT_.out (by kernel_rfl)) (fun _ _ _ h => h) (Or.inl ⟨by rfl, ?_⟩) ?_ ?_
     rotate_left
     ·intro w'
      go_simp
      with_reducible rfl
     rotate_left
     ·simp only [Act.put, List.setIfInBounds_toArray, List.set_cons_zero, List.set_cons_succ, i64_w, i32_w]
      rfl
     have t1 := (blk_cell HB9.out.choose_spec.choose_spec.choose_spec 1).trans rfl
     have tf1 := blk_frozen HB9.out.choose_spec.choose_spec.choose_spec 1
     refine last_ (i := 12) (N := none) #[true, true, true, true, true, true, true, true, true, true, true, true, true] rfl rfl (one_of HT_.out (by kernel_rfl)) (by decide) (fun K hK => ?_)
     refine skip_ (w1 := w9.setCell ⟨W0.heap.size, 1, none⟩ (.slice Av nv cv)) (by rfl) rfl ?_ ?_
     ·go_simp
     refine hK.out _ _ ?_
     clear hK K
     refine done_ (done_of HT_.out (by kernel_rfl)) ?_
     go_wp2
     go_ret
     have hal : Pl.addressM (Pl.bs nm) l bx = ((l.drop i, bx ++ [(Pl.bs nm, Pl.bs a, Pl.bs b)]), 0) := by rw [hadr.out, if_neg (by simp), if_neg hnb100.out]
     rw [hal]
     exact ⟨rfl, fun _ => HFIN.out, HFIN.out.below⟩
  | cons t r =>
   have hl : i < l.length := by
    have := congrArg List.length hd
    rw [List.length_drop, List.length_cons] at this
    omega
   obtain ⟨ad, rfl, h0, h1⟩ := tok_cell hC hB hd
   have c1 : decide ((i : Int) < (l.length : Int)) = true := decide_eq_true (by omega)
   have c1n : decide (i < l.length) = true := decide_eq_true (by omega)
   have c2 : ((i : Int) < (l.length : Int)) = True := eq_true (by omega)
   have c3 : (i < l.length) = True := eq_true (by omega)
   have c5 : ((0 : Int) ≤ (i : Int)) = True := eq_true (by omega)
   have hsnoc : l.take (i + 1) = l.take i ++ [t] := by
    rw [List.take_succ_eq_append_getElem hl]
    congr 2
    have := List.getElem?_drop (xs := l) (i := i) (j := 0)
    rw [hd] at this
    simpa [List.getElem?_eq_getElem hl] using this.symm
   have HSN := hid hsnoc
   have HD := hid hd
   have hst := hid (stops_is (hS.ok t (List.mem_of_mem_drop (i := i) (by rw [hd]; exact List.mem_cons_self))))
   have HG := hid (H.out.globw)
   cases hq : Pl.stopT t with
   | false =>
    rw [hq] at hst
    clear hsnoc hd hb hC hR hB hS hM hG
    go_wp2_with (go_at_call 143; refine (mbx_stops.calls t.1 (Pl.str t.2) false wr HG.out hst.out).mono ?_; rintro e w' ⟨rfl, hb'⟩)
    go_roundw
    case rel => exact ⟨i + 1, by go_num, by omega, hid (by rw [HSN.out, List.all_append, HW.out]; simp [Pl.nonT, hq]), hid (H.out.keep hb')⟩
    case measure => simp [intOf]; omega
   | true =>
    rw [hq] at hst
    obtain ⟨Ab, cb, nb, rfl, hnb⟩ : ∃ Ab cb nb, v = .slice Ab nb cb ∧ Hid (nb = bx.length) := by
     obtain ⟨Ab, cb, e⟩ := Kd.R_slice hR
     exact ⟨Ab, cb, _, e, hid (List.length_map _)⟩
    have htw := hid (take_non HW.out (.inr ⟨t, r, HD.out, by unfold Pl.nonT; rw [hq]; rfl⟩))
    have hof := hid (fun W1 (hB1 : Below W0.heap.size W0 W1) => of_call hC hc hS i hi hB1)
    obtain ⟨⟨a, b, e0⟩, hres⟩ : ∃ x, Pl.ofT (l.take i) = x := ⟨_, rfl⟩
    rw [hres] at hof
    have hadr : Hid (Pl.addressM (Pl.bs nm) l bx = if e0 ≠ 0 then Pl.failM e0 else if bx.length = 100 then Pl.failM 8 else ((l.drop i, bx ++ [(Pl.bs nm, Pl.bs a, Pl.bs b)]), 0)) := by
     refine hid ?_
     unfold Pl.addressM
     rw [htw.out.1, htw.out.2, hres]
    have c6 : ((i : Int) ≤ (c : Int)) = True := eq_true (by omega)
    have c7 : (i ≤ c) = True := eq_true (by omega)
    have c8 : ((0 : Int) ≤ (i : Int)) = True := eq_true (by omega)
    have c9 : ((i : Int) ≤ (l.length : Int)) = True := eq_true (by omega)
    have c10 : (i ≤ l.length) = True := eq_true (by omega)
    have c11 : ((l.length : Int) ≤ (c : Int)) = True := eq_true (by omega)
    have c12 : (l.length ≤ c) = True := eq_true (by omega)
    have HBK := hid hb
    have hRlt := hid H.out.lt
    have hcc := hid hc
    have hii := hid hi
    have hzz := hid hz
    have HC := hid hC
    have HSM := hid hS
    have HMM := hid hM
    have HGG := hid hG
    clear hb hC hR hB hS hM hG hi hz hc hsnoc hd
    by_cases he : e0 = 0
    case neg =>
     have ce : (e0 != 0) = true := bne_iff_ne.2 he
     go_wp2_with (first
      | (go_at_call 143; refine (mbx_stops.calls t.1 (Pl.str t.2) true wr HG.out hst.out).mono ?_; rintro e w2 ⟨rfl, hb'⟩; have H2 := hid (H.out.keep hb'); have HBK2 := hid ((hb'.block W0.heap.size H.out.lt).trans HBK.out); have s0 := (blk_cell HBK2.out 0).trans rfl; clear hb')
      | (go_at_call 144; refine (hof.out _ H2.out.below).mono ?_; rintro e w5 ⟨rfl, b5⟩; have H5 := hid (H2.out.keep b5); have HBK5 := hid ((b5.block W0.heap.size H2.out.lt).trans HBK2.out))
      | ((with_reducible refine gate_dst (N := 6) rfl ?_); refine box_event ?hg (N := 6) ?hd (cs := #[.string (⟨#[]⟩ : ByteArray), .string (⟨#[]⟩ : ByteArray)]) (t := 31) ?hr ?_; (case hd => rfl); (case hg => rfl); (case hr => first | (go_simp; done) | (go_simp; rfl)); intro g hg w7 hbox hb; have b0 := (blk_cell hbox 0).trans rfl; have b1 := (blk_cell hbox 1).trans rfl; have bf0 := blk_frozen hbox 0; have bf1 := blk_frozen hbox 1; have H7 := hid (H5.out.keep hb); have HG7 := hid hg; have HL5 := hid H5.out.lt; clear hb hbox hg))
     go_ret
     refine ⟨?_, fun h0 => ?_, ?_⟩
     ·rw [hadr.out, if_pos he]; rfl
     ·rw [hadr.out, if_pos he] at h0; exact absurd h0 he
     exact (H7.out.below.setCell (p := ⟨g, 0, none⟩) (by show W0.heap.size ≤ g; have := HL5.out; have := HG7.out; omega) _).setCell (p := ⟨g, 1, none⟩) (by show W0.heap.size ≤ g; have := HL5.out; have := HG7.out; omega) _
    case pos =>
     subst he
     by_cases hn : nb = 100
     ·have cn : ((nb : Int) == 100) = true := beq_iff_eq.2 (by omega)
      have cn2 : (nb == 100) = true := beq_iff_eq.2 hn
      go_wp2_with (first
      | (go_at_call 143; refine (mbx_stops.calls t.1 (Pl.str t.2) true wr HG.out hst.out).mono ?_; rintro e w2 ⟨rfl, hb'⟩; have H2 := hid (H.out.keep hb'); have HBK2 := hid ((hb'.block W0.heap.size H.out.lt).trans HBK.out); have s0 := (blk_cell HBK2.out 0).trans rfl; clear hb')
       | (go_at_call 144; refine (hof.out _ H2.out.below).mono ?_; rintro e w5 ⟨rfl, b5⟩; have H5 := hid (H2.out.keep b5); have HBK5 := hid ((b5.block W0.heap.size H2.out.lt).trans HBK2.out))
       | ((with_reducible refine gate_dst (N := 6) rfl ?_); refine box_event ?hg (N := 6) ?hd (cs := #[.string (⟨#[]⟩ : ByteArray), .string (⟨#[]⟩ : ByteArray)]) (t := 31) ?hr ?_; (case hd => rfl); (case hg => rfl); (case hr => first | (go_simp; done) | (go_simp; rfl)); intro g hg w7 hbox hb; have b0 := (blk_cell hbox 0).trans rfl; have b1 := (blk_cell hbox 1).trans rfl; have bf0 := blk_frozen hbox 0; have bf1 := blk_frozen hbox 1; have HB57 := hid hb; have HG7k := hid hbox; have HBK7 := hid ((hb.block W0.heap.size H5.out.lt).trans HBK5.out); have H7 := hid (H5.out.keep hb); have HG7 := hid hg; have HL5 := hid H5.out.lt; have hne : ¬ W0.heap.size = g := (by have := HL5.out; omega); have r0 := (blk_cell HBK7.out 0).trans rfl; have r1 := (blk_cell HBK7.out 1).trans rfl; have rf0 := blk_frozen HBK7.out 0; have rf1 := blk_frozen HBK7.out 1; clear hb hbox hg))
      all_goals
       have hb100 : bx.length = 100 := by rw [← hnb.out]; exact hn
       have hal : Pl.addressM (Pl.bs nm) l bx = Pl.failM 8 := by rw [hadr.out, if_neg (by simp), if_pos hb100]
       go_ret
       rw [hal]
       exact ⟨rfl, fun h0 => absurd h0 (by decide), (((H5.out.keep ((HB57.out.setCell (p := ⟨g, 0, none⟩) (Nat.le_of_eq HG7.out.symm) (.string a)).setCell (p := ⟨g, 1, none⟩) (Nat.le_of_eq HG7.out.symm) (.string b))).below).setCell (p := ⟨W0.heap.size, 0, none⟩) (Nat.le_refl _) _)⟩
     have cn : ((nb : Int) == 100) = false := beq_eq_false_iff_ne.2 (by omega)
     have cn2 : (nb == 100) = false := beq_eq_false_iff_ne.2 hn
     go_wp2_with (first
     | (go_at_call 143; refine (mbx_stops.calls t.1 (Pl.str t.2) true wr HG.out hst.out).mono ?_; rintro e w2 ⟨rfl, hb'⟩; have H2 := hid (H.out.keep hb'); have HBK2 := hid ((hb'.block W0.heap.size H.out.lt).trans HBK.out); have s0 := (blk_cell HBK2.out 0).trans rfl; clear hb')
      | (go_at_call 144; refine (hof.out _ H2.out.below).mono ?_; rintro e w5 ⟨rfl, b5⟩; have H5 := hid (H2.out.keep b5); have HBK5 := hid ((b5.block W0.heap.size H2.out.lt).trans HBK2.out))
      | ((with_reducible refine gate_dst (N := 6) rfl ?_); refine box_event ?hg (N := 6) ?hd (cs := #[.string (⟨#[]⟩ : ByteArray), .string (⟨#[]⟩ : ByteArray)]) (t := 31) ?hr ?_; (case hd => rfl); (case hg => rfl); (case hr => first | (go_simp; done) | (go_simp; rfl)); intro g hg w7 hbox hb; have b0 := (blk_cell hbox 0).trans rfl; have b1 := (blk_cell hbox 1).trans rfl; have bf0 := blk_frozen hbox 0; have bf1 := blk_frozen hbox 1; have HB57 := hid hb; have HG7k := hid hbox; have HBK7 := hid ((hb.block W0.heap.size H5.out.lt).trans HBK5.out); have H7 := hid (H5.out.keep hb); have HG7 := hid hg; have HL5 := hid H5.out.lt; have hne : ¬ W0.heap.size = g := (by have := HL5.out; omega); have r0 := (blk_cell HBK7.out 0).trans rfl; have r1 := (blk_cell HBK7.out 1).trans rfl; have rf0 := blk_frozen HBK7.out 0; have rf1 := blk_frozen HBK7.out 1; clear hb hbox hg))
     all_goals
      have hgR : W0.heap.size < g := by have := HL5.out; have := HG7.out; omega
      have hnb100 : Hid (¬ bx.length = 100) := hid (by rw [← hnb.out]; exact hn)
      have HGp : Hid (((w7.setCell ⟨g, 0, none⟩ (.string a)).setCell ⟨g, 1, none⟩ (.string b)).heap[g]? = some (.cells #[.string a, .string b] 31 (0, 0))) := hid (blk_put (blk_put HG7k.out 0 _ rfl) 1 _ rfl)
      have HB7p : Hid (((w7.setCell ⟨g, 0, none⟩ (.string a)).setCell ⟨g, 1, none⟩ (.string b)).heap[W0.heap.size]? = some (.cells #[.slice (some ad) l.length c, .slice Ab nb cb] 65 (0, 0))) := hid ((Below.heap_setCell _ _ _ _ (by show W0.heap.size ≠ g; omega)).trans ((Below.heap_setCell _ _ _ _ (by show W0.heap.size ≠ g; omega)).trans HBK7.out))
      have H7p : Hid (RS W0 ((w7.setCell ⟨g, 0, none⟩ (.string a)).setCell ⟨g, 1, none⟩ (.string b)) l bx) := hid (H5.out.keep ((HB57.out.setCell (p := ⟨g, 0, none⟩) (Nat.le_of_eq HG7.out.symm) _).setCell (p := ⟨g, 1, none⟩) (Nat.le_of_eq HG7.out.symm) _))
      refine start_ (n := 13) (S := (fun w' => w'.cell? ⟨W0.heap.size, 1, none⟩ = some (.slice Ab nb cb) ∧ w'.cell? ⟨g, 0, none⟩ = some (.string a) ∧ w'.cell? ⟨g, 1, none⟩ = some (.string b))) (ds := [12]) #[false, false, false, false, false, false, false, false, false, false, false, false, false] (by kernel_rfl) rfl rfl ⟨(blk_cell (blk_drew (blk_put HB7p.out 0 _ rfl)) 1).trans rfl, (blk_cell (blk_drew ((Below.heap_setCell _ _ _ _ (by show g ≠ W0.heap.size; omega)).trans HGp.out)) 0).trans rfl, (blk_cell (blk_drew ((Below.heap_setCell _ _ _ _ (by show g ≠ W0.heap.size; omega)).trans HGp.out)) 1).trans rfl⟩ (fun hHeld => ?_); refine with_tabW mbx_address.tab mbx_address.bits (fun HT_ HW_ => ?_)
      generalize hW8 : World.drew _ = w8 at hHeld ⊢
      have H8 : Hid (RS W0 w8 (l.drop i) bx) := hid (by rw [← hW8]; exact (RS.cutW H7p.out HB7p.out i hii.out _ _ _ (by first | rfl | (simp [*]; done) | (simp [*]; rfl)) (by first | rfl | (simp; done) | omega) (by first | rfl | (simp; done) | omega)).keep (below_drew (Below.refl _ _)))
      have HB8 : Hid (∃ A' n' c', w8.heap[W0.heap.size]? = some (.cells #[.slice A' n' c', .slice Ab nb cb] 65 (0, 0))) := hid ⟨_, _, _, by rw [← hW8]; exact blk_drew (blk_put HB7p.out 0 _ rfl)⟩
      have HG8 : Hid (w8.heap[g]? = some (.cells #[.string a, .string b] 31 (0, 0))) := hid (by rw [← hW8]; exact blk_drew ((Below.heap_setCell _ _ _ _ (by show g ≠ W0.heap.size; omega)).trans HGp.out))
      clear hW8 b0 b1 bf0 bf1 r0 r1 rf0 rf1
      refine pure_ (i := 0) (N := some 56) (v := ?_) (a' := ?_) #[true, false, false, false, false, false, false, false, false, false, false, false, false] rfl rfl (any_of HT_.out (by kernel_rfl)) (fun _ _ _ h => h) (Or.inl ⟨by rfl, ?_⟩) ?_ ?_
      rotate_left
      ·intro w'
       go_simp
       with_reducible rfl
      rotate_left
      ·simp only [Act.put, List.setIfInBounds_toArray, List.set_cons_zero, List.set_cons_succ, i64_w, i32_w]
       rfl
      refine pure_ (i := 1) (N := some 57) (v := ?_) (a' := ?_) #[true, true, false, false, false, false, false, false, false, false, false, false, false] rfl rfl (any_of HT_.out (by kernel_rfl)) (fun _ _ _ h => h) (Or.inl ⟨by rfl, ?_⟩) ?_ ?_
      rotate_left
      ·intro w'
       go_simp
       with_reducible rfl
      rotate_left
      ·simp only [Act.put, List.setIfInBounds_toArray, List.set_cons_zero, List.set_cons_succ, i64_w, i32_w]
       rfl
      refine pure_ (i := 2) (N := some 58) (v := ?_) (a' := ?_) #[true, true, true, false, false, false, false, false, false, false, false, false, false] rfl rfl (any_of HT_.out (by kernel_rfl)) (fun _ _ _ h => h) (Or.inl ⟨by rfl, ?_⟩) ?_ ?_
      rotate_left
      ·intro w'
       go_simp
       with_reducible rfl
      rotate_left
      ·simp only [Act.put, List.setIfInBounds_toArray, List.set_cons_zero, List.set_cons_succ, i64_w, i32_w]
       rfl
      refine pure_ (i := 3) (N := some 59) (v := ?_) (a' := ?_) #[true, true, true, true, false, false, false, false, false, false, false, false, false] rfl rfl (any_of HT_.out (by kernel_rfl)) (fun _ _ _ h => h) (Or.inl ⟨by rfl, ?_⟩) ?_ ?_
      rotate_left
      ·intro w'
       go_simp
       with_reducible rfl
      rotate_left
      ·simp only [Act.put, List.setIfInBounds_toArray, List.set_cons_zero, List.set_cons_succ, i64_w, i32_w]
       rfl
      refine take_ (i := 4) (N := some 60) (v := ?_) (a' := ?_) #[true, true, true, true, true, false, false, false, false, false, false, false, false] rfl rfl (take_ofW HT_.out HW_.out (by kernel_rfl)) (fun _ _ _ h => h) (Or.inl ⟨by rfl, ?_⟩) hHeld ?_ ?_
      rotate_left
      ·rintro w' ⟨s0, s1, s2⟩
       go_simp
       with_reducible rfl
      rotate_left
      ·simp only [Act.put, List.setIfInBounds_toArray, List.set_cons_zero, List.set_cons_succ, i64_w, i32_w]
       rfl
      refine pure_ (i := 5) (N := some 61) (v := ?_) (a' := ?_) #[true, true, true, true, true, true, false, false, false, false, false, false, false] rfl rfl (any_of HT_.out (by kernel_rfl)) (fun _ _ _ h => h) (Or.inl ⟨by rfl, ?_⟩) ?_ ?_
      rotate_left
      ·intro w'
       go_simp
       with_reducible rfl
      rotate_left
      ·simp only [Act.put, List.setIfInBounds_toArray, List.set_cons_zero, List.set_cons_succ, i64_w, i32_w]
       rfl
      refine take_ (i := 6) (N := some 62) (v := ?_) (a' := ?_) #[true, true, true, true, true, true, true, false, false, false, false, false, false] rfl rfl (take_ofW HT_.out HW_.out (by kernel_rfl)) (fun _ _ _ h => h) (Or.inl ⟨by rfl, ?_⟩) hHeld ?_ ?_
      rotate_left
      ·rintro w' ⟨s0, s1, s2⟩
       go_simp
       with_reducible rfl
      rotate_left
      ·simp only [Act.put, List.setIfInBounds_toArray, List.set_cons_zero, List.set_cons_succ, i64_w, i32_w]
       rfl
      refine pure_ (i := 7) (N := some 63) (v := ?_) (a' := ?_) #[true, true, true, true, true, true, true, true, false, false, false, false, false] rfl rfl (any_of HT_.out (by kernel_rfl)) (fun _ _ _ h => h) (Or.inl ⟨by rfl, ?_⟩) ?_ ?_
      rotate_left
      ·intro w'
       go_simp
       with_reducible rfl
      rotate_left
      ·simp only [Act.put, List.setIfInBounds_toArray, List.set_cons_zero, List.set_cons_succ, i64_w, i32_w]
       rfl
      refine one_ (i := 8) (N := some 64) #[true, true, true, true, true, true, true, true, true, false, false, false, false] rfl rfl (one_of HT_.out (by kernel_rfl)) (by decide) (fun K hK => ?_)
      refine value_ (w1 := ?_) (v := ?_) (by rfl) rfl ?_ ?_
      rotate_left 2
      ·go_simp
       constructor
       ·rfl
       rfl
      refine hK.out _ _ ⟨(blk_cell (blk_alloc (show w8.heap[W0.heap.size]? = some (.cells #[.slice _ _ _, .slice Ab nb cb] _ (0, 0)) from HB8.out.choose_spec.choose_spec.choose_spec) (.cells #[.string nm, .string a, .string b] 33)) 1).trans rfl, (blk_cell (blk_alloc HG8.out (.cells #[.string nm, .string a, .string b] 33)) 0).trans rfl, (blk_cell (blk_alloc HG8.out (.cells #[.string nm, .string a, .string b] 33)) 1).trans rfl⟩ (fun hHeld3 => ?_)
      clear hK K
      refine norm_ (a' := ?_) ?_ ?_
      rotate_left
      ·show Act.put _ (some 64) _ = _
       simp only [Act.put, List.setIfInBounds_toArray, List.set_cons_zero, List.set_cons_succ, i64_w, i32_w]
       rfl
      refine one_ (i := 9) (N := some 65) #[true, true, true, true, true, true, true, true, true, true, false, false, false] rfl rfl (one_of HT_.out (by kernel_rfl)) (by decide) (fun K hK => ?_)
      have hRb : Kd.R k33 33 w8 (W0.heap.size + 1) (fun _ => True) (.slice Ab nb cb) (bx.map toBox) := by
       obtain ⟨A', n', c', h1⟩ := HB8.out
       exact H8.out.boxes h1
      refine Kd.R_append_step k33 (w0 := w8) (W0.heap.size + 1) (by rfl) (.tmp 60) (.tmp 64) 23 33 (.agg #[(.string ⟨#[]⟩), (.string ⟨#[]⟩), (.string ⟨#[]⟩)]) 48 rfl Tryd.underlying23 info_mbxBox rfl (by decide) (by omega) (.slice Ab nb cb) (bx.map toBox) (⟨nm, ⟨a, b⟩⟩ : S33) [.string nm, .string a, .string b] (fun _ => True) (fun _ => False) rfl rfl (k33_mkM _ _ _ _) (fun _ hk => hk.elim) (fun _ _ => trivial) hRb (Below.refl _ _) H8.out.lt (by rw [List.length_map]; have := HMM.out; omega) ?_
      intro v1 w9 ho hb9 hg9 hat9
      obtain ⟨Av, nv, cv, rfl⟩ : ∃ Av nv cv, v1 = .slice Av nv cv := by
       obtain ⟨Av, cv, e⟩ := Kd.R_slice ho
       exact ⟨Av, _, cv, e⟩
      have HB9 : Hid (∃ A' n' c', w9.heap[W0.heap.size]? = some (.cells #[.slice A' n' c', .slice Ab nb cb] 65 (0, 0))) := by
       obtain ⟨A', n', c', h1⟩ := HB8.out
       exact hid ⟨A', n', c', (hb9.block W0.heap.size (Nat.lt_succ_self _)).trans h1⟩
      have HG9 := hid ((hg9.block g (blk_lt HG8.out) (Kd.R_ne hRb HG8.out (by decide))).trans HG8.out)
      have HFIN := hid (H8.out.grow hb9 ho hnb100.out)
      refine hK.out _ _ ⟨(blk_cell HB9.out.choose_spec.choose_spec.choose_spec 1).trans rfl, (blk_cell HG9.out 0).trans rfl, (blk_cell HG9.out 1).trans rfl⟩ (fun hHeld4 => ?_)
      clear hK K hRb ho hb9 hg9 hat9
      refine norm_ (a' := ?_) ?_ ?_
      rotate_left
      ·show Act.put _ (some 65) _ = _
       simp only [Act.put, List.setIfInBounds_toArray, List.set_cons_zero, List.set_cons_succ, i64_w, i32_w]
       rfl
      refine pure_ (i := 10) (N := some 66) (v := ?_) (a' := ?_) #[true, true, true, true, true, true, true, true, true, true, true, false, false] rfl rfl (any_of HT_.out (by kernel_rfl)) (fun _ _ _ h => h) (Or.inl ⟨by rfl, ?_⟩) ?_ ?_
      rotate_left
      ·intro w'
       go_simp
       with_reducible rfl
      rotate_left
      ·simp only [Act.put, List.setIfInBounds_toArray, List.set_cons_zero, List.set_cons_succ, i64_w, i32_w]
       rfl
      refine pure_ (i := 11) (N := some 67) (v := ?_) (a' := ?_) #[true, true, true, true, true, true, true, true, true, true, true, true, false] rfl rfl (any_of HT_.out (by kernel_rfl)) (fun _ _ _ h => h) (Or.inl ⟨by rfl, ?_⟩) ?_ ?_
      rotate_left
      ·intro w'
       go_simp
       with_reducible rfl
      rotate_left
      ·simp only [Act.put, List.setIfInBounds_toArray, List.set_cons_zero, List.set_cons_succ, i64_w, i32_w]
       rfl
      have t1 := (blk_cell HB9.out.choose_spec.choose_spec.choose_spec 1).trans rfl
      have tf1 := blk_frozen HB9.out.choose_spec.choose_spec.choose_spec 1
      refine last_ (i := 12) (N := none) #[true, true, true, true, true, true, true, true, true, true, true, true, true] rfl rfl (one_of HT_.out (by kernel_rfl)) (by decide) (fun K hK => ?_)
      refine skip_ (w1 := w9.setCell ⟨W0.heap.size, 1, none⟩ (.slice Av nv cv)) (by rfl) rfl ?_ ?_
      ·go_simp
      refine hK.out _ _ ?_
      clear hK K
      refine done_ (done_of HT_.out (by kernel_rfl)) ?_
      go_wp2
      go_ret
      have hal : Pl.addressM (Pl.bs nm) l bx = ((l.drop i, bx ++ [(Pl.bs nm, Pl.bs a, Pl.bs b)]), 0) := by rw [hadr.out, if_neg (by simp), if_neg hnb100.out]
      rw [hal]
      exact ⟨rfl, fun _ => HFIN.out, HFIN.out.below⟩
end Go.Proofs.YtihabmcaplnbcaaDoor.Fn
set_option linter.unusedVariables false
set_option linter.unusedSimpArgs false
namespace Go.Proofs.YtihabmcaplnbcaaDoor.Fn
open Go.RowKit Go.Proofs.YtihabmcaplnbcaaDoorW.PrintWords Go.Proofs.YtihabmcaplnbcaaDoorW.PrintLast Go.Proofs.YtihabmcaplnbcaaDoorW.PrintMore

/-! Layer 14: a mailbox, a group, an item, taken away from the front -/
theorem drop_while (p : Pl.Tok → Bool) : ∀ l : List Pl.Tok, l.drop (l.takeWhile p).length = l.dropWhile p
 | [] => rfl
 | t :: l => by
  rw [List.takeWhile_cons, List.dropWhile_cons]
  cases p t with
  | true => simp only [if_true, List.length_cons, List.drop_succ_cons]; exact drop_while p l
  | false => simp
theorem drop_tail {α : Type} (l : List α) (n : Nat) : l.drop (n + 1) = (l.drop n).tail := by
 rw [List.tail_drop]
theorem address_gives {W0 w : World} {l : List Pl.Tok} {bx : List Pl.BoxL} {nm : ByteArray} (h : RS W0 w l bx) {la : List Pl.Tok} {ba : List Pl.BoxL} {ea : Int} (hA : Pl.addressM (Pl.bs nm) l bx = ((la, ba), ea)) :
  Calls Tryd.prog 117 #[.pointer (some ⟨W0.heap.size, 0, none⟩), .string nm] w fun e w' => e = .returned (.int .i64 ea) ∧ (ea = 0 → RS W0 w' la ba) ∧ Below W0.heap.size W0 w' := by
 have := address_calls W0 w l bx nm h
 rw [hA] at this
 exact this
theorem at_gives {W0 w : World} {l : List Pl.Tok} {bx : List Pl.BoxL} (h : RS W0 w l bx) {c : UInt8} {q : Bool} (hq : Pl.headIs l [c] = q) :
  Calls Tryd.prog 76 #[.pointer (some ⟨W0.heap.size, 0, none⟩), .string ⟨#[c]⟩] w fun e w' => e = .returned (.bool q) ∧ w' = w := by
 have := at_calls W0 w l bx ⟨#[c]⟩ h
 rw [show Pl.bs ⟨#[c]⟩ = [c] from rfl, hq] at this
 exact this
theorem take_gives {W0 w : World} {l : List Pl.Tok} {bx : List Pl.BoxL} (h : RS W0 w l bx) {c : UInt8} {q : Bool} (hq : Pl.headIs l [c] = q) :
  Calls Tryd.prog 35 #[.pointer (some ⟨W0.heap.size, 0, none⟩), .string ⟨#[c]⟩] w fun e w' => e = .returned (.bool q) ∧ RS W0 w' (if q = true then l.tail else l) bx := by
 have := take_calls W0 w l bx ⟨#[c]⟩ h
 rw [show Pl.bs ⟨#[c]⟩ = [c] from rfl, hq] at this
 exact this
theorem follows_gives {W0 w : World} {l : List Pl.Tok} {bx : List Pl.BoxL} (h : RS W0 w l bx) {c : UInt8} {n : Nat} {q : Bool} (hn : (l.takeWhile Pl.wordT).length = n) (hq : Pl.headIs (l.dropWhile Pl.wordT) [c] = q) :
  Calls Tryd.prog 73 #[.pointer (some ⟨W0.heap.size, 0, none⟩), .int .i64 n, .string ⟨#[c]⟩] w fun e w' => e = .returned (.bool q) ∧ w' = w := by
 have := follows_calls W0 w l bx n ⟨#[c]⟩ h
 rw [show Pl.bs ⟨#[c]⟩ = [c] from rfl, ← hn, drop_while, hq] at this
 rw [← hn]
 exact this
theorem words_gives {W0 w : World} {l : List Pl.Tok} {bx : List Pl.BoxL} (h : RS W0 w l bx) {n : Nat} (hn : (l.takeWhile Pl.wordT).length = n) :
  Calls Tryd.prog 72 #[.pointer (some ⟨W0.heap.size, 0, none⟩)] w fun e w' => e = .returned (.tuple #[.int .i64 n, .string (Pl.str (Pl.nameL l))]) ∧ Below w.heap.size w w' := by
 have := words_calls W0 w l bx h
 rw [hn] at this
 exact this
theorem RS.holds {W0 w : World} {l : List Pl.Tok} {bx : List Pl.BoxL} (h : RS W0 w l bx) : ∃ (A : Option Addr) (n c : Nat) (v : Value), w.heap[W0.heap.size]? = some (.cells #[.slice A n c, v] 65 (0, 0)) ∧ n = l.length ∧ n ≤ c ∧ (0 < n → ∃ ad, A = some ad) := by
 obtain ⟨A, c, v, h1, h2, h3, h4⟩ := h.out
 refine ⟨A, l.length, c, v, h1, rfl, h3, fun hp => ?_⟩
 obtain ⟨ad, e, _⟩ := h2.2.2 hp
 exact ⟨ad, e⟩
set_option maxHeartbeats 8000000 in
set_option maxRecDepth 100000 in
theorem mailbox_calls (W0 w : World) (l : List Pl.Tok) (bx : List Pl.BoxL) (h : RS W0 w l bx) :
  Calls Tryd.prog 74 #[.pointer (some ⟨W0.heap.size, 0, none⟩)] w fun e w' => e = .returned (.int .i64 (Pl.mailboxM l bx).2) ∧ ((Pl.mailboxM l bx).2 = 0 → RS W0 w' (Pl.mailboxM l bx).1.1 (Pl.mailboxM l bx).1.2) ∧ Below W0.heap.size W0 w' := by
 obtain ⟨n, hn⟩ : ∃ n, (l.takeWhile Pl.wordT).length = n := ⟨_, rfl⟩
 have hw := hid (words_gives h hn)
 have H := hid h
 have hz := h.small.len
 clear h
 cases hq : Pl.headIs (l.dropWhile Pl.wordT) [60] with
 | false =>
  obtain ⟨⟨⟨la, ba⟩, ea⟩, hA⟩ : ∃ x, Pl.addressM [] l bx = x := ⟨_, rfl⟩
  have hM : Pl.mailboxM l bx = ((la, ba), ea) := by unfold Pl.mailboxM; rw [hq, if_neg (by decide), hA]
  rw [hM]
  have HA := hid hA
  have HN := hid hn
  have HQ := hid hq
  clear hA hM hn hq hz
  go_enter Tryd.func74, Tryd.ntmps74
  go_wp2_with (first
   | (go_at_call 72; refine hw.out.mono ?_; rintro e w1 ⟨rfl, b1⟩; have H1 := hid (H.out.keep b1))
   | (go_at_call 73; refine (follows_gives H1.out HN.out HQ.out).mono ?_; rintro e w2 ⟨rfl, rfl⟩)
   | (go_at_call 117; refine (address_gives (nm := ⟨#[]⟩) H1.out HA.out).mono ?_; rintro e w3 ⟨rfl, hR, hB⟩))
  go_ret
  exact ⟨rfl, hR, hB⟩
 | true =>
  obtain ⟨t, r, hr, ht⟩ := Pl.headIs_ne hq
  have hnl : n + 1 ≤ l.length := by
   have h1 := congrArg List.length (List.takeWhile_append_dropWhile (p := Pl.wordT) (l := l))
   rw [List.length_append, hn, hr, List.length_cons] at h1
   omega
  have hdr : l.drop (n + 1) = (l.dropWhile Pl.wordT).tail := by rw [drop_tail, ← hn, drop_while]
  obtain ⟨⟨⟨la, ba⟩, ea⟩, hA⟩ : ∃ x, Pl.addressM (Pl.nameL l) (l.drop (n + 1)) bx = x := ⟨_, rfl⟩
  have hA2 : Pl.addressM (Pl.bs (Pl.str (Pl.nameL l))) (l.drop (n + 1)) bx = ((la, ba), ea) := by rw [Pl.bs_str]; exact hA
  have hM : Pl.mailboxM l bx = Pl.angleM ((la, ba), ea) := by unfold Pl.mailboxM; rw [hq, if_pos rfl, ← hdr, hA]
  rw [hM]
  have HA := hid hA2
  have HN := hid hn
  have HQ := hid hq
  have HL := hid hnl
  clear hA hA2 hM hn hq hdr hr ht
  obtain ⟨m, hm⟩ : ∃ m, n + 1 = m := ⟨_, rfl⟩
  rw [hm] at HA HL
  have hwr : wrap64 ((n : Int) + 1) = (m : Int) := by rw [Pl.wrap_succ n (by have := HL.out; omega), hm]
  have hm0 : ((0 : Int) ≤ (m : Int)) = True := eq_true (by omega)
  have HZ := hid hz
  have HM := hid hm
  clear hm hz
  by_cases he : ea = 0
  case neg =>
   have ce : (ea != 0) = true := bne_iff_ne.2 he
   have hP : Pl.angleM ((la, ba), ea) = ((la, ba), ea) := by unfold Pl.angleM; rw [if_pos he]
   rw [hP]
   have hq2 : Hid (Pl.headIs la [62] = Pl.headIs la [62]) := hid rfl
   clear hP
   go_enter Tryd.func74, Tryd.ntmps74
   go_wp2_with (first
    | (go_at_call 72; refine hw.out.mono ?_; rintro e w1 ⟨rfl, b1⟩; have H1 := hid (H.out.keep b1); obtain ⟨A, ln, c, v, hb1, hln, hlc, hA1⟩ := H1.out.holds; obtain ⟨ad, rfl⟩ := hA1 (by have := HL.out; have := HM.out; omega); have r0 := (blk_cell hb1 0).trans rfl; have rf0 := blk_frozen hb1 0; have c1 : ((m : Int) ≤ (ln : Int)) = True := eq_true (by have := HL.out; omega); have c2 : ((ln : Int) ≤ (c : Int)) = True := eq_true (by omega); have c3 : ((m : Int) ≤ (c : Int)) = True := eq_true (by have := HL.out; omega); have c4 : (m ≤ ln) = True := eq_true (by have := HL.out; omega); have c5 : (ln ≤ c) = True := eq_true hlc; have c6 : (m ≤ c) = True := eq_true (by have := HL.out; omega); have HBK := hid hb1; clear hln hlc hA1 hb1)
    | (go_at_call 73; refine (follows_gives H1.out HN.out HQ.out).mono ?_; rintro e w2 ⟨rfl, rfl⟩)
    | (go_at_call 117; refine (address_gives (RS.cutW H1.out HBK.out m HL.out _ _ _ (by first | rfl | (simp [*]; done) | (simp [*]; rfl)) (by first | rfl | (simp; done) | omega) (by first | rfl | (simp; done) | omega)) HA.out).mono ?_; rintro e w3 ⟨rfl, hR, hB⟩; have HR3 := hid hR; have HB3 := hid hB; clear hR hB)
    | (go_at_call 35; refine (take_gives (HR3.out (by trivial)) hq2.out).mono ?_; rintro e w4 ⟨rfl, hR4⟩; have HR4 := hid hR4; clear hR4))
   all_goals
    go_ret
    first | exact ⟨rfl, HR3.out, HB3.out⟩ | exact ⟨rfl, HB3.out⟩
  case pos =>
   subst he
   cases hq2 : Pl.headIs la [62] with
   | false =>
    have hP : Pl.angleM ((la, ba), 0) = Pl.failM 130 := by unfold Pl.angleM; rw [if_neg (by simp), hq2]; rfl
    rw [hP]
    replace hq2 := hid hq2
    clear hP
    go_enter Tryd.func74, Tryd.ntmps74
    go_wp2_with (first
     | (go_at_call 72; refine hw.out.mono ?_; rintro e w1 ⟨rfl, b1⟩; have H1 := hid (H.out.keep b1); obtain ⟨A, ln, c, v, hb1, hln, hlc, hA1⟩ := H1.out.holds; obtain ⟨ad, rfl⟩ := hA1 (by have := HL.out; have := HM.out; omega); have r0 := (blk_cell hb1 0).trans rfl; have rf0 := blk_frozen hb1 0; have c1 : ((m : Int) ≤ (ln : Int)) = True := eq_true (by have := HL.out; omega); have c2 : ((ln : Int) ≤ (c : Int)) = True := eq_true (by omega); have c3 : ((m : Int) ≤ (c : Int)) = True := eq_true (by have := HL.out; omega); have c4 : (m ≤ ln) = True := eq_true (by have := HL.out; omega); have c5 : (ln ≤ c) = True := eq_true hlc; have c6 : (m ≤ c) = True := eq_true (by have := HL.out; omega); have HBK := hid hb1; clear hln hlc hA1 hb1)
     | (go_at_call 73; refine (follows_gives H1.out HN.out HQ.out).mono ?_; rintro e w2 ⟨rfl, rfl⟩)
     | (go_at_call 117; refine (address_gives (RS.cutW H1.out HBK.out m HL.out _ _ _ (by first | rfl | (simp [*]; done) | (simp [*]; rfl)) (by first | rfl | (simp; done) | omega) (by first | rfl | (simp; done) | omega)) HA.out).mono ?_; rintro e w3 ⟨rfl, hR, hB⟩; have HR3 := hid hR; have HB3 := hid hB; clear hR hB)
     | (go_at_call 35; refine (take_gives (HR3.out (by trivial)) hq2.out).mono ?_; rintro e w4 ⟨rfl, hR4⟩; have HR4 := hid hR4; clear hR4))
    all_goals
     go_ret
     first | exact ⟨rfl, fun h0 => absurd h0 (by decide), HR4.out.below⟩ | exact ⟨rfl, HR4.out.below⟩
   | true =>
    have hP : Pl.angleM ((la, ba), 0) = ((la.tail, ba), 0) := by unfold Pl.angleM; rw [if_neg (by simp), hq2]; rfl
    rw [hP]
    replace hq2 := hid hq2
    clear hP
    go_enter Tryd.func74, Tryd.ntmps74
    go_wp2_with (first
     | (go_at_call 72; refine hw.out.mono ?_; rintro e w1 ⟨rfl, b1⟩; have H1 := hid (H.out.keep b1); obtain ⟨A, ln, c, v, hb1, hln, hlc, hA1⟩ := H1.out.holds; obtain ⟨ad, rfl⟩ := hA1 (by have := HL.out; have := HM.out; omega); have r0 := (blk_cell hb1 0).trans rfl; have rf0 := blk_frozen hb1 0; have c1 : ((m : Int) ≤ (ln : Int)) = True := eq_true (by have := HL.out; omega); have c2 : ((ln : Int) ≤ (c : Int)) = True := eq_true (by omega); have c3 : ((m : Int) ≤ (c : Int)) = True := eq_true (by have := HL.out; omega); have c4 : (m ≤ ln) = True := eq_true (by have := HL.out; omega); have c5 : (ln ≤ c) = True := eq_true hlc; have c6 : (m ≤ c) = True := eq_true (by have := HL.out; omega); have HBK := hid hb1; clear hln hlc hA1 hb1)
     | (go_at_call 73; refine (follows_gives H1.out HN.out HQ.out).mono ?_; rintro e w2 ⟨rfl, rfl⟩)
     | (go_at_call 117; refine (address_gives (RS.cutW H1.out HBK.out m HL.out _ _ _ (by first | rfl | (simp [*]; done) | (simp [*]; rfl)) (by first | rfl | (simp; done) | omega) (by first | rfl | (simp; done) | omega)) HA.out).mono ?_; rintro e w3 ⟨rfl, hR, hB⟩; have HR3 := hid hR; have HB3 := hid hB; clear hR hB)
     | (go_at_call 35; refine (take_gives (HR3.out (by trivial)) hq2.out).mono ?_; rintro e w4 ⟨rfl, hR4⟩; have HR4 := hid hR4; clear hR4))
    all_goals
     go_ret
     first | exact ⟨rfl, fun _ => HR4.out, HR4.out.below⟩ | exact ⟨rfl, HR4.out, HR4.out.below⟩
theorem take_yes {W0 w : World} {l : List Pl.Tok} {bx : List Pl.BoxL} (h : RS W0 w l bx) {c : UInt8} (hq : Pl.headIs l [c] = true) :
  Calls Tryd.prog 35 #[.pointer (some ⟨W0.heap.size, 0, none⟩), .string ⟨#[c]⟩] w fun e w' => e = .returned (.bool true) ∧ RS W0 w' l.tail bx := take_gives h hq
theorem take_no {W0 w : World} {l : List Pl.Tok} {bx : List Pl.BoxL} (h : RS W0 w l bx) {c : UInt8} (hq : Pl.headIs l [c] = false) :
  Calls Tryd.prog 35 #[.pointer (some ⟨W0.heap.size, 0, none⟩), .string ⟨#[c]⟩] w fun e w' => e = .returned (.bool false) ∧ RS W0 w' l bx := take_gives h hq
theorem mailbox_gives {W0 w : World} {l : List Pl.Tok} {bx : List Pl.BoxL} (h : RS W0 w l bx) {la : List Pl.Tok} {ba : List Pl.BoxL} {ea : Int} (hA : Pl.mailboxM l bx = ((la, ba), ea)) :
  Calls Tryd.prog 74 #[.pointer (some ⟨W0.heap.size, 0, none⟩)] w fun e w' => e = .returned (.int .i64 ea) ∧ (ea = 0 → RS W0 w' la ba) ∧ Below W0.heap.size W0 w' := by
 have := mailbox_calls W0 w l bx h
 rw [hA] at this
 exact this
set_option maxHeartbeats 8000000 in
set_option maxRecDepth 100000 in
theorem group_gives {W0 w : World} {l : List Pl.Tok} {bx : List Pl.BoxL} (h : RS W0 w l bx) {k : Nat} {lx : List Pl.Tok} {bxx : List Pl.BoxL} {ex : Int} (hx : Pl.groupM k l bx = ((lx, bxx), ex)) (hk : l.length < k) :
  Calls Tryd.prog 75 #[.pointer (some ⟨W0.heap.size, 0, none⟩)] w fun e w' => e = .returned (.int .i64 ex) ∧ (ex = 0 → RS W0 w' lx bxx) ∧ Below W0.heap.size W0 w' := by
 have H0 := hid h
 have HX0 := hid hx
 have HK0 := hid hk
 clear h hx hk
 go_enter Tryd.func75, Tryd.ntmps75
 go_wp2
 go_loopg [3] k (fun kq v3 w' => ∃ (l1 : List Pl.Tok) (bx1 : List Pl.BoxL), Hid (Pl.groupM kq l1 bx1 = ((lx, bxx), ex)) ∧ Hid (RS W0 w' l1 bx1) ∧ Hid (l1.length < kq) ∧ Hid (kq ≤ k))
 case atStart => exact ⟨l, bx, HX0, H0, HK0, hid (Nat.le_refl _)⟩
 case round =>
  clear H0 HX0 HK0
  obtain ⟨l1, bx1, HX, H, HL, HK⟩ := hrel
  cases gk with
  | zero => exact absurd HL.out (by omega)
  | succ k1 =>
   have hX := HX.out
   clear HX
   rw [Pl.groupM] at hX
   cases c1 : Pl.headIs l1 [59] with
   | true =>
    rw [c1, if_pos rfl] at hX
    simp only [Prod.mk.injEq] at hX
    obtain ⟨⟨rfl, rfl⟩, rfl⟩ := hX
    have C1 := hid c1
    clear c1
    go_wp2_with (first
     | (go_at_call 35; refine (take_yes H.out (c := 59) C1.out).mono ?_; rintro e w1 ⟨rfl, h_⟩; have H1 := hid h_; clear h_))
    go_ret
    first | exact ⟨rfl, fun _ => H1.out, H1.out.below⟩ | exact ⟨rfl, H1.out, H1.out.below⟩
   | false =>
    rw [c1, if_neg (by decide)] at hX
    have C1 := hid c1
    clear c1
    obtain ⟨⟨⟨l2, b2⟩, e2⟩, hA⟩ : ∃ x, Pl.mailboxM l1 bx1 = x := ⟨_, rfl⟩
    rw [hA] at hX
    have HA := hid hA
    clear hA
    by_cases he : e2 = 0
    case neg =>
     rw [if_pos he] at hX
     simp only [Prod.mk.injEq] at hX
     obtain ⟨⟨rfl, rfl⟩, rfl⟩ := hX
     have ce : (e2 != 0) = true := bne_iff_ne.2 he
     go_wp2_with (first
      | (go_at_call 35; refine (take_no H.out (c := 59) C1.out).mono ?_; rintro e w1 ⟨rfl, h_⟩; have H1 := hid h_; clear h_)
      | (go_at_call 74; refine (mailbox_gives H1.out HA.out).mono ?_; rintro e w2 ⟨rfl, h2, b2_⟩; have H2 := hid h2; have B2 := hid b2_; clear h2 b2_))
     go_ret
     first | exact ⟨rfl, H2.out, B2.out⟩ | exact ⟨rfl, B2.out⟩
    case pos =>
     subst he
     rw [if_neg (by simp)] at hX
     obtain ⟨_, _, hlt, _⟩ := Pl.mailbox_more HA.out
     have HLT := hid hlt
     clear hlt
     cases c3 : Pl.headIs l2 [59] with
     | true =>
      rw [if_pos c3] at hX
      have C3 := hid c3
      have HX2 := hid hX
      clear c3 hX
      go_wp2_with (first
       | (go_at_call 35; refine (take_no H.out (c := 59) C1.out).mono ?_; rintro e w1 ⟨rfl, h_⟩; have H1 := hid h_; clear h_)
       | (go_at_call 74; refine (mailbox_gives H1.out HA.out).mono ?_; rintro e w2 ⟨rfl, h2, b2_⟩; have H2 := hid h2; have B2 := hid b2_; clear h2 b2_)
       | (go_at_call 76; refine (at_gives (H2.out (by trivial)) (c := 59) C3.out).mono ?_; rintro e w_ ⟨rfl, rfl⟩))
      go_roundg k1
      case measure => have := HK.out; omega
      case rel => exact ⟨l2, b2, HX2, hid (H2.out (by trivial)), hid (by have := HL.out; have := HLT.out; omega), hid (by have := HK.out; omega)⟩
     | false =>
      rw [if_neg (show ¬ Pl.headIs l2 [59] = true by rw [c3]; decide)] at hX
      have C3 := hid c3
      clear c3
      cases c4 : Pl.headIs l2 [44] with
      | false =>
       rw [if_neg (show ¬ (Pl.headIs l2 [44] = true ∧ Pl.headIs l2.tail [59] = false) by rw [c4]; simp)] at hX
       have C4 := hid c4
       clear c4
       simp only [Pl.failM, Prod.mk.injEq] at hX
       obtain ⟨⟨rfl, rfl⟩, rfl⟩ := hX
       go_wp2_with (first
        | (go_at_call 35; refine (take_no (H2.out (by trivial)) (c := 44) C4.out).mono ?_; rintro e w4 ⟨rfl, h_⟩; have H4 := hid h_; clear h_)
        | (go_at_call 35; refine (take_no H.out (c := 59) C1.out).mono ?_; rintro e w1 ⟨rfl, h_⟩; have H1 := hid h_; clear h_)
        | (go_at_call 74; refine (mailbox_gives H1.out HA.out).mono ?_; rintro e w2 ⟨rfl, h2, b2_⟩; have H2 := hid h2; have B2 := hid b2_; clear h2 b2_)
        | (go_at_call 76; refine (at_gives (H2.out (by trivial)) (c := 59) C3.out).mono ?_; rintro e w_ ⟨rfl, rfl⟩))
       go_ret
       first | exact ⟨rfl, fun h0 => absurd h0 (by decide), H4.out.below⟩ | exact ⟨rfl, H4.out.below⟩
      | true =>
       have C4 := hid c4
       cases c5 : Pl.headIs l2.tail [59] with
       | true =>
        rw [if_neg (show ¬ (Pl.headIs l2 [44] = true ∧ Pl.headIs l2.tail [59] = false) by rw [c5]; simp)] at hX
        have C5 := hid c5
        clear c4 c5
        simp only [Pl.failM, Prod.mk.injEq] at hX
        obtain ⟨⟨rfl, rfl⟩, rfl⟩ := hX
        go_wp2_with (first
         | (go_at_call 35; refine (take_yes (H2.out (by trivial)) (c := 44) C4.out).mono ?_; rintro e w4 ⟨rfl, h_⟩; have H4 := hid h_; clear h_)
         | (go_at_call 76; refine (at_gives H4.out (c := 59) C5.out).mono ?_; rintro e w_ ⟨rfl, rfl⟩)
         | (go_at_call 35; refine (take_no H.out (c := 59) C1.out).mono ?_; rintro e w1 ⟨rfl, h_⟩; have H1 := hid h_; clear h_)
         | (go_at_call 74; refine (mailbox_gives H1.out HA.out).mono ?_; rintro e w2 ⟨rfl, h2, b2_⟩; have H2 := hid h2; have B2 := hid b2_; clear h2 b2_)
         | (go_at_call 76; refine (at_gives (H2.out (by trivial)) (c := 59) C3.out).mono ?_; rintro e w_ ⟨rfl, rfl⟩))
        go_ret
        first | exact ⟨rfl, fun h0 => absurd h0 (by decide), H4.out.below⟩ | exact ⟨rfl, H4.out.below⟩
       | false =>
        rw [if_pos (show Pl.headIs l2 [44] = true ∧ Pl.headIs l2.tail [59] = false from ⟨c4, c5⟩)] at hX
        have C5 := hid c5
        have HX2 := hid hX
        clear c4 c5 hX
        go_wp2_with (first
         | (go_at_call 35; refine (take_yes (H2.out (by trivial)) (c := 44) C4.out).mono ?_; rintro e w4 ⟨rfl, h_⟩; have H4 := hid h_; clear h_)
         | (go_at_call 76; refine (at_gives H4.out (c := 59) C5.out).mono ?_; rintro e w_ ⟨rfl, rfl⟩)
         | (go_at_call 35; refine (take_no H.out (c := 59) C1.out).mono ?_; rintro e w1 ⟨rfl, h_⟩; have H1 := hid h_; clear h_)
         | (go_at_call 74; refine (mailbox_gives H1.out HA.out).mono ?_; rintro e w2 ⟨rfl, h2, b2_⟩; have H2 := hid h2; have B2 := hid b2_; clear h2 b2_)
         | (go_at_call 76; refine (at_gives (H2.out (by trivial)) (c := 59) C3.out).mono ?_; rintro e w_ ⟨rfl, rfl⟩))
        go_roundg k1
        case measure => have := HK.out; omega
        case rel => exact ⟨l2.tail, b2, HX2, H4, hid (by rw [List.length_tail]; have := HL.out; have := HLT.out; omega), hid (by have := HK.out; omega)⟩
set_option maxHeartbeats 8000000 in
set_option maxRecDepth 100000 in
theorem item_gives {W0 w : World} {l : List Pl.Tok} {bx : List Pl.BoxL} (h : RS W0 w l bx) {lx : List Pl.Tok} {bxx : List Pl.BoxL} {ex : Int} (hx : Pl.itemM l bx = ((lx, bxx), ex)) :
  Calls Tryd.prog 34 #[.pointer (some ⟨W0.heap.size, 0, none⟩)] w fun e w' => e = .returned (.int .i64 ex) ∧ (ex = 0 → RS W0 w' lx bxx) ∧ Below W0.heap.size W0 w' := by
 obtain ⟨n, hn⟩ : ∃ n, (l.takeWhile Pl.wordT).length = n := ⟨_, rfl⟩
 have hw := hid (words_gives h hn)
 have H := hid h
 have hz := h.small.len
 clear h
 unfold Pl.itemM at hx
 by_cases hn0 : n = 0
 case pos =>
  have hnil : l.takeWhile Pl.wordT = [] := List.eq_nil_of_length_eq_zero (by rw [hn]; exact hn0)
  rw [if_neg (fun q => q.1 hnil)] at hx
  have HA := hid hx
  subst hn0
  clear hx hnil hn hz
  go_enter Tryd.func34, Tryd.ntmps34
  go_wp2_with (first
   | (go_at_call 72; refine hw.out.mono ?_; rintro e w1 ⟨rfl, b1⟩; have H1 := hid (H.out.keep b1); clear b1)
   | (go_at_call 74; refine (mailbox_gives H1.out HA.out).mono ?_; rintro e w3 ⟨rfl, hR, hB⟩))
  go_ret
  exact ⟨rfl, hR, hB⟩
 case neg =>
  have hne : l.takeWhile Pl.wordT ≠ [] := fun q => hn0 (by rw [← hn, q]; rfl)
  have cn1 : ((n : Int) == 0) = false := beq_eq_false_iff_ne.2 (by omega)
  have cn2 : (n == 0) = false := beq_eq_false_iff_ne.2 hn0
  cases hq : Pl.headIs (l.dropWhile Pl.wordT) [58] with
  | false =>
   rw [if_neg (fun q => by rw [hq] at q; exact absurd q.2 (by decide))] at hx
   have HA := hid hx
   have HN := hid hn
   have HQ := hid hq
   clear hx hn hq hz hne
   go_enter Tryd.func34, Tryd.ntmps34
   go_wp2_with (first
    | (go_at_call 73; refine (follows_gives H1.out HN.out HQ.out).mono ?_; rintro e w2 ⟨rfl, rfl⟩)
    | (go_at_call 72; refine hw.out.mono ?_; rintro e w1 ⟨rfl, b1⟩; have H1 := hid (H.out.keep b1); clear b1)
    | (go_at_call 74; refine (mailbox_gives H1.out HA.out).mono ?_; rintro e w3 ⟨rfl, hR, hB⟩))
   go_ret
   exact ⟨rfl, hR, hB⟩
  | true =>
   rw [if_pos ⟨hne, hq⟩] at hx
   obtain ⟨t, r, hr, ht⟩ := Pl.headIs_ne hq
   have hnl : n + 1 ≤ l.length := by
    have h1 := congrArg List.length (List.takeWhile_append_dropWhile (p := Pl.wordT) (l := l))
    rw [List.length_append, hn, hr, List.length_cons] at h1
    omega
   have hdr : l.drop (n + 1) = (l.dropWhile Pl.wordT).tail := by rw [drop_tail, ← hn, drop_while]
   rw [← hdr] at hx
   have HA := hid hx
   have HN := hid hn
   have HQ := hid hq
   have HL := hid hnl
   clear hx hn hq hdr hr ht hne
   obtain ⟨m, hm⟩ : ∃ m, n + 1 = m := ⟨_, rfl⟩
   rw [hm] at HA HL
   have hwr : wrap64 ((n : Int) + 1) = (m : Int) := by rw [Pl.wrap_succ n (by have := HL.out; omega), hm]
   have hm0 : ((0 : Int) ≤ (m : Int)) = True := eq_true (by omega)
   have HZ := hid hz
   have HM := hid hm
   clear hm hz hnl
   go_enter Tryd.func34, Tryd.ntmps34
   go_wp2_with (first
    | (go_at_call 73; refine (follows_gives H1.out HN.out HQ.out).mono ?_; rintro e w2 ⟨rfl, rfl⟩)
    | (go_at_call 72; refine hw.out.mono ?_; rintro e w1 ⟨rfl, b1⟩; have H1 := hid (H.out.keep b1); obtain ⟨A, ln, c, v, hb1, hln, hlc, hA1⟩ := H1.out.holds; obtain ⟨ad, rfl⟩ := hA1 (by have := HL.out; have := HM.out; omega); have r0 := (blk_cell hb1 0).trans rfl; have rf0 := blk_frozen hb1 0; have c1 : ((m : Int) ≤ (ln : Int)) = True := eq_true (by have := HL.out; omega); have c2 : ((ln : Int) ≤ (c : Int)) = True := eq_true (by omega); have c3 : ((m : Int) ≤ (c : Int)) = True := eq_true (by have := HL.out; omega); have c4 : (m ≤ ln) = True := eq_true (by have := HL.out; omega); have c5 : (ln ≤ c) = True := eq_true hlc; have c6 : (m ≤ c) = True := eq_true (by have := HL.out; omega); have HBK := hid hb1; clear hln hlc hA1 hb1)
    | (go_at_call 75; refine (group_gives (RS.cutW H1.out HBK.out m HL.out _ _ _ (by first | rfl | (simp [*]; done) | (simp [*]; rfl)) (by first | rfl | (simp; done) | omega) (by first | rfl | (simp; done) | omega)) HA.out (Nat.lt_succ_self _)).mono ?_; rintro e w3 ⟨rfl, hR, hB⟩))
   all_goals
    go_ret
    exact ⟨rfl, hR, hB⟩
theorem RS.start {W : World} {l : List Pl.Tok} {A : Option Addr} {c : Nat} (hC : Kd.C k107 W A l.length (l.map Pl.tok142)) (hc : l.length ≤ c) (hS : Small l) (hG : Glob W) :
  RS W (W.alloc (.cells #[.slice A l.length c, .slice none 0 0] 65)) l [] :=
 ⟨⟨A, c, .slice none 0 0, blk_new W _, hC, hc, Kd.R_nil _ _ _ _ _⟩, (Below.refl _ _).alloc (Nat.le_refl _) _, hS, by simp, hG⟩
end Go.Proofs.YtihabmcaplnbcaaDoor.Fn
set_option linter.unusedVariables false
set_option linter.unusedSimpArgs false
namespace Go.Proofs.YtihabmcaplnbcaaDoor.Fn
open Go.RowKit Go.Proofs.YtihabmcaplnbcaaDoorW.PrintWords Go.Proofs.YtihabmcaplnbcaaDoorW.PrintLast Go.Proofs.YtihabmcaplnbcaaDoorW.PrintMore

/-! Layer 14: mbx.Read -/
def mbx_Read.f (a0 : ByteArray) : Option (List S33 × Int) := if a0.size ≤ 50000 then some ((Pl.readL (Pl.bs a0)).1.map toBox, (Pl.readL (Pl.bs a0)).2) else none
theorem comma_gives {W0 w : World} {l : List Pl.Tok} {bx : List Pl.BoxL} (h : RS W0 w l bx) {q : Bool} (hq : Pl.headIs l [44] = q) :
  Calls Tryd.prog 35 #[.pointer (some ⟨W0.heap.size, 0, none⟩), .string ⟨#[44]⟩] w fun e w' => e = .returned (.bool q) ∧ (q = true → RS W0 w' l.tail bx) ∧ Below W0.heap.size W0 w' := by
 refine (take_gives h hq).mono ?_
 rintro e w' ⟨rfl, h1⟩
 exact ⟨rfl, fun hq => by rw [if_pos hq] at h1; exact h1, h1.below⟩
set_option maxHeartbeats 8000000 in
set_option maxRecDepth 100000 in
theorem mbx_Read.calls (a0 : ByteArray) (r1 : List S33) (r2 : Int) (w : World) (hG : Glob w) (h : mbx_Read.f a0 = some (r1, r2)) :
  Calls Tryd.prog 11 #[.string a0] w fun e w' => ∃ v0_ : Value, e = .returned (.tuple #[v0_, .int .i64 r2]) ∧ Kd.R k33 33 w' w.heap.size (fun _ => True) v0_ r1 ∧ Below w.heap.size w w' := by
 unfold mbx_Read.f at h
 by_cases hs : a0.size ≤ 50000
 case neg => rw [if_neg hs] at h; exact absurd h (by simp)
 rw [if_pos hs] at h
 simp only [Option.some.injEq, Prod.mk.injEq] at h
 obtain ⟨hr1, hr2⟩ := h
 have hsc := Pl.lexScan_is a0 (by omega) (4 * a0.size + 20) (Nat.le_refl _)
 have hbd := Pl.scanL_bound (Pl.bs a0)
 have hok := Pl.scan_ok (Pl.bs a0).length [] .out (Pl.bs a0) (fun x hx => by cases hx)
 rw [show Pl.scan (Pl.bs a0).length [] .out (Pl.bs a0) = Pl.scanL [] .out (Pl.bs a0) from rfl] at hok
 obtain ⟨⟨T, e0⟩, hT⟩ : ∃ x, Pl.scanL [] .out (Pl.bs a0) = x := ⟨_, rfl⟩
 unfold Pl.readL at hr1 hr2
 rw [hT] at hr1 hr2 hsc hbd hok
 rw [Pl.bs_length] at hbd
 have hscan := hid (lex_Scan.calls _ a0 _ _ w hsc)
 have hS : Small T := ⟨by have h1 : T.length ≤ a0.size := hbd.1; omega, by have h1 : (Pl.cat T).length ≤ a0.size := hbd.2; omega, hok⟩
 clear hsc hok hT
 by_cases he : e0 = 0
 case neg =>
  rw [if_pos he] at hr1 hr2
  simp only [List.map_nil] at hr1 hr2
  subst hr1 hr2
  have ce : (e0 != 0) = true := bne_iff_ne.2 he
  clear hS hbd
  go_enter Tryd.func11, Tryd.ntmps11
  go_wp2_with (go_at_call 33; refine hscan.out.mono ?_; rintro e w1 ⟨v0, rfl, hR, b1⟩)
  go_ret2
  exact ⟨_, rfl, Kd.R_nil _ _ _ _ _, b1⟩
 case pos =>
  subst he
  rw [if_neg (by simp)] at hr1 hr2
  obtain ⟨⟨bf, ef⟩, hX⟩ : ∃ x, Pl.readM (T.length + 1) T [] = x := ⟨_, rfl⟩
  unfold Pl.readT at hr1 hr2
  rw [hX] at hr1 hr2
  simp only [] at hr1 hr2
  subst hr1 hr2
  have HX0 := hid hX
  have HS := hid hS
  have HG0 := hid hG
  clear hX hS hbd hG
  go_enter Tryd.func11, Tryd.ntmps11
  go_wp2_with (go_at_call 33; refine hscan.out.mono ?_; rintro e w1 ⟨v0, rfl, hR, b1⟩; obtain ⟨A, c, rfl⟩ := Kd.R_slice hR; have HR := hid hR; have HB1 := hid b1; obtain ⟨n, hn⟩ : ∃ n, (T.map Pl.tok142).length = n := ⟨_, rfl⟩; rw [hn] at HR ⊢; have HN := hid hn; clear hR b1 hn)
  go_loopg [7] (T.length + 1) (fun kq v7 w' => ∃ (l1 : List Pl.Tok) (bx1 : List Pl.BoxL), Hid (Pl.readM kq l1 bx1 = (bf, ef)) ∧ Hid (RS w1 w' l1 bx1) ∧ Hid (l1.length < kq) ∧ Hid (kq ≤ T.length + 1))
  case atStart =>
   refine ⟨T, [], HX0, hid ?_, hid (Nat.lt_succ_self _), hid (Nat.le_refl _)⟩
   obtain ⟨h1, h2, h3⟩ := Kd.R_reads' HR.out
   have hn : n = T.length := by rw [← HN.out, List.length_map]
   subst hn
   rw [List.length_map] at h3
   exact RS.start h3 h2 HS.out (HG0.out.below HB1.out)
  case round =>
   clear HX0 HR HN hscan HS
   obtain ⟨l1, bx1, HX, H, HL, HK⟩ := hrel
   cases gk with
   | zero => exact absurd HL.out (by omega)
   | succ k1 =>
    have hX := HX.out
    clear HX
    rw [Pl.readM] at hX
    obtain ⟨⟨⟨l2, b2⟩, e2⟩, hA⟩ : ∃ x, Pl.itemM l1 bx1 = x := ⟨_, rfl⟩
    rw [hA] at hX
    have HA := hid hA
    clear hA
    by_cases he : e2 = 0
    case neg =>
     rw [if_pos he] at hX
     simp only [Prod.mk.injEq] at hX
     obtain ⟨rfl, rfl⟩ := hX
     have ce : (e2 != 0) = true := bne_iff_ne.2 he
     go_wp2_with (go_at_call 34; refine (item_gives H.out HA.out).mono ?_; rintro e w2 ⟨rfl, h2, b2_⟩; have B2 := hid b2_; clear h2 b2_)
     go_ret2
     exact ⟨_, rfl, Kd.R_nil _ _ _ _ _, HB1.out.trans (B2.out.mono HB1.out.size)⟩
    case pos =>
     subst he
     rw [if_neg (by simp)] at hX
     obtain ⟨_, _, hlt, _⟩ := Pl.item_more HA.out
     have HLT := hid hlt
     clear hlt
     by_cases c3 : l2 = []
     case pos =>
      rw [if_pos c3] at hX
      simp only [Prod.mk.injEq] at hX
      obtain ⟨rfl, rfl⟩ := hX
      subst c3
      go_wp2_with (go_at_call 34; refine (item_gives H.out HA.out).mono ?_; rintro e w2 ⟨rfl, h2, b2_⟩; have H2 := hid (h2 (by trivial)); clear h2 b2_; obtain ⟨A2, ln, c2, v2, hb2, hln, hlc, hA1⟩ := H2.out.holds; rw [List.length_nil] at hln; subst hln; have HBK := hid hb2; have r0 := (blk_cell hb2 0).trans rfl; have r1 := (blk_cell hb2 1).trans rfl; clear hb2 hlc hA1)
      go_ret2
      exact ⟨_, rfl, Kd.R_lower (H2.out.boxes HBK.out) (Nat.le_trans HB1.out.size (Nat.le_succ _)), HB1.out.trans (H2.out.below.mono HB1.out.size)⟩
     case neg =>
      rw [if_neg c3] at hX
      cases c4 : Pl.headIs l2 [44] with
      | false =>
       rw [if_neg (show ¬ Pl.headIs l2 [44] = true by rw [c4]; decide)] at hX
       simp only [Prod.mk.injEq] at hX
       obtain ⟨rfl, rfl⟩ := hX
       have C4 := hid c4
       have C3 := hid c3
       clear c4 c3
       go_wp2_with (first
        | (go_at_call 34; refine (item_gives H.out HA.out).mono ?_; rintro e w2 ⟨rfl, h2, b2_⟩; have H2 := hid (h2 (by trivial)); clear h2 b2_; obtain ⟨A2, ln, c2, v2, hb2, hln, hlc, hA1⟩ := H2.out.holds; have hl0 : ln ≠ 0 := (by rw [hln]; exact fun q => C3.out (List.eq_nil_of_length_eq_zero q)); have cl1 : ((ln : Int) == 0) = false := beq_eq_false_iff_ne.2 (by omega); have cl2 : (ln == 0) = false := beq_eq_false_iff_ne.2 hl0; have r0 := (blk_cell hb2 0).trans rfl; clear hb2 hlc hA1 hln hl0)
        | (go_at_call 35; refine (comma_gives H2.out C4.out).mono ?_; rintro e w3 ⟨rfl, h3, b3⟩; have B3 := hid b3; clear h3 b3))
       go_ret2
       exact ⟨_, rfl, Kd.R_nil _ _ _ _ _, HB1.out.trans (B3.out.mono HB1.out.size)⟩
      | true =>
       rw [if_pos c4] at hX
       have C4 := hid c4
       have C3 := hid c3
       have HX2 := hid hX
       clear c4 c3 hX
       go_wp2_with (first
        | (go_at_call 34; refine (item_gives H.out HA.out).mono ?_; rintro e w2 ⟨rfl, h2, b2_⟩; have H2 := hid (h2 (by trivial)); clear h2 b2_; obtain ⟨A2, ln, c2, v2, hb2, hln, hlc, hA1⟩ := H2.out.holds; have hl0 : ln ≠ 0 := (by rw [hln]; exact fun q => C3.out (List.eq_nil_of_length_eq_zero q)); have cl1 : ((ln : Int) == 0) = false := beq_eq_false_iff_ne.2 (by omega); have cl2 : (ln == 0) = false := beq_eq_false_iff_ne.2 hl0; have r0 := (blk_cell hb2 0).trans rfl; clear hb2 hlc hA1 hln hl0)
        | (go_at_call 35; refine (comma_gives H2.out C4.out).mono ?_; rintro e w3 ⟨rfl, h3, b3⟩; have H3 := hid (h3 (by trivial)); clear h3 b3))
       go_roundg k1
       case measure => have := HK.out; omega
       case rel => exact ⟨l2.tail, b2, HX2, H3, hid (by rw [List.length_tail]; have := HL.out; have := HLT.out; omega), hid (by have := HK.out; omega)⟩
end Go.Proofs.YtihabmcaplnbcaaDoor.Fn
namespace Go.Proofs.YtihabmcaplnbcaaDoor.Fn
open Go.RowKit Go.Proofs.YtihabmcaplnbcaaDoorW.PrintWords Go.Proofs.YtihabmcaplnbcaaDoorW.PrintLast Go.Proofs.YtihabmcaplnbcaaDoorW.PrintMore
attribute [local go_sem] max2_int min2_int max_two min_two max_three min_three max_four min_four
set_option linter.unusedVariables false
set_option linter.unusedSimpArgs false
attribute [local go_sem high] eqA31
def bulletinlaw14_works.f (k : Nat)  : Option (Bool) := (mbx_Read.f (⟨#[65, 110, 110, 32, 66, 32, 60, 97, 64, 98, 62, 44, 32, 103, 58, 32, 99, 64, 100, 59]⟩ : ByteArray)).bind fun bt234 => (if bt234.2 = 0 then (if (bt234.1.length : Int) = 2 then (if 0 < (bt234.1.length : Int) then (if ((rd_T33 bt234.1 0).f0).toList = ([65, 110, 110, 32, 66] : List UInt8) then (if ((((rd_T33 bt234.1 0).f1.f0).toList) == ([97] : List UInt8) && ((((rd_T33 bt234.1 0).f1.f1).toList) == ([98] : List UInt8))) = true then (if 1 < (bt234.1.length : Int) then (if ((rd_T33 bt234.1 1).f0).toList = ([] : List UInt8) then (if ((rd_T33 bt234.1 1).f1.f0).toList = ([99] : List UInt8) then ((mbx_ShowAll.f k bt234.1).bind fun t242 => (some (t242.toList == ([65, 110, 110, 32, 66, 32, 60, 97, 64, 98, 62, 44, 32, 99, 64, 100] : List UInt8)))) else (some false)) else (some false)) else (none)) else (some false)) else (some false)) else (none)) else (some false)) else (some false))
theorem bulletinlaw14_works.mono : ∀ k, LeO (bulletinlaw14_works.f k ) (bulletinlaw14_works.f (k + 1) ) := by
 intro  k; unfold bulletinlaw14_works.f
 repeat' first
   | (with_reducible exact mbx_ShowAll.mono _ _)
   | (with_reducible exact LeO.refl _)
   | (with_reducible exact LeO.none _)
   | (with_reducible refine LeO.ite ?_ ?_)
   | (with_reducible refine LeO.bind ?_ (fun _ => ?_))
   | exact mbx_ShowAll.mono _ _
   | exact LeO.none _
   | refine LeO.ite ?_ ?_
   | refine LeO.bind ?_ (fun _ => ?_)
set_option maxHeartbeats 8000000 in
set_option maxRecDepth 100000 in
theorem bulletinlaw14_works.callsT (k : Nat)  (r : Bool) (w : World) (hG : Glob w) (h : bulletinlaw14_works.f k  = some r) (hT : r = true) :
  Calls Tryd.prog 10 #[] w fun e w' => e = .returned (.bool r) ∧ Below w.heap.size w w' := by
 have HT := Aside0.mk hT; clear hT; have hu31 := Tryd.underlying31; have HB := Aside0.mk (Below.refl w.heap.size w); have H : ((mbx_Read.f (⟨#[65, 110, 110, 32, 66, 32, 60, 97, 64, 98, 62, 44, 32, 103, 58, 32, 99, 64, 100, 59]⟩ : ByteArray)).bind fun bt234 => (if bt234.2 = 0 then (if (bt234.1.length : Int) = 2 then (if 0 < (bt234.1.length : Int) then (if ((rd_T33 bt234.1 0).f0).toList = ([65, 110, 110, 32, 66] : List UInt8) then (if ((((rd_T33 bt234.1 0).f1.f0).toList) == ([97] : List UInt8) && ((((rd_T33 bt234.1 0).f1.f1).toList) == ([98] : List UInt8))) = true then (if 1 < (bt234.1.length : Int) then (if ((rd_T33 bt234.1 1).f0).toList = ([] : List UInt8) then (if ((rd_T33 bt234.1 1).f1.f0).toList = ([99] : List UInt8) then ((mbx_ShowAll.f k bt234.1).bind fun t242 => (some (t242.toList == ([65, 110, 110, 32, 66, 32, 60, 97, 64, 98, 62, 44, 32, 99, 64, 100] : List UInt8)))) else (some false)) else (some false)) else (none)) else (some false)) else (some false)) else (none)) else (some false)) else (some false))) = some r := h; clear h; replace H := Option.bind_eq_some_iff.mp H; obtain ⟨⟨t234, t235⟩, A10, H⟩ := H; replace H : (if t235 = 0 then (if (t234.length : Int) = 2 then (if 0 < (t234.length : Int) then (if ((rd_T33 t234 0).f0).toList = ([65, 110, 110, 32, 66] : List UInt8) then (if ((((rd_T33 t234 0).f1.f0).toList) == ([97] : List UInt8) && ((((rd_T33 t234 0).f1.f1).toList) == ([98] : List UInt8))) = true then (if 1 < (t234.length : Int) then (if ((rd_T33 t234 1).f0).toList = ([] : List UInt8) then (if ((rd_T33 t234 1).f1.f0).toList = ([99] : List UInt8) then ((mbx_ShowAll.f k t234).bind fun t242 => (some (t242.toList == ([65, 110, 110, 32, 66, 32, 60, 97, 64, 98, 62, 44, 32, 99, 64, 100] : List UInt8)))) else (some false)) else (some false)) else (none)) else (some false)) else (some false)) else (none)) else (some false)) else (some false)) = some r := H; have A1 := Aside0.mk A10; clear A10
 by_cases c2 : t235 = 0
 ·rw [if_pos c2] at H; have c2b0 := beq_iff_eq.mpr c2; have c2b1 := bne_eq_false_iff_eq.mpr c2; clear c2
  by_cases c3 : (t234.length : Int) = 2
  ·rw [if_pos c3] at H; have c3b0 := beq_iff_eq.mpr c3; have c3b1 := bne_eq_false_iff_eq.mpr c3; clear c3
   by_cases c4 : 0 < (t234.length : Int)
   ·rw [if_pos c4] at H; have c4b0 := decide_eq_true c4; have c4b1 : decide (0 < t234.length) = true := decide_eq_true (by omega); clear c4
    by_cases c5 : ((rd_T33 t234 0).f0).toList = ([65, 110, 110, 32, 66] : List UInt8)
    ·rw [if_pos c5] at H; have c5b0 := beq_iff_eq.mpr c5; have c5b1 := bne_eq_false_iff_eq.mpr c5; clear c5
     by_cases c6 : ((((rd_T33 t234 0).f1.f0).toList) == ([97] : List UInt8) && ((((rd_T33 t234 0).f1.f1).toList) == ([98] : List UInt8))) = true
     ·rw [if_pos c6] at H; have c6b0 : ((((rd_T33 t234 0).f1.f0).toList) == ([97] : List UInt8) && ((((rd_T33 t234 0).f1.f1).toList) == ([98] : List UInt8))) = true := c6
      (try (have c6b1 : decide ((((rd_T33 t234 0).f1.f0).toList) = ([97] : List UInt8) && ((((rd_T33 t234 0).f1.f1).toList) == ([98] : List UInt8))) = true := by simpa using c6))
      (try (have c6b2 : ((((rd_T33 t234 0).f1.f0).toList) == ([97] : List UInt8) && ((((rd_T33 t234 0).f1.f1).toList) == ([98] : List UInt8))) = true := by simpa using c6))
      clear c6
      by_cases c7 : 1 < (t234.length : Int)
      ·rw [if_pos c7] at H; have c7b0 := decide_eq_true c7; have c7b1 : decide (1 < t234.length) = true := decide_eq_true (by omega); clear c7
       by_cases c8 : ((rd_T33 t234 1).f0).toList = ([] : List UInt8)
       ·rw [if_pos c8] at H; have c8b0 := beq_iff_eq.mpr c8; have c8b1 := bne_eq_false_iff_eq.mpr c8; clear c8
        by_cases c9 : ((rd_T33 t234 1).f1.f0).toList = ([99] : List UInt8)
        ·rw [if_pos c9] at H; have c9b0 := beq_iff_eq.mpr c9; have c9b1 := bne_eq_false_iff_eq.mpr c9; clear c9; replace H := Option.bind_eq_some_iff.mp H; obtain ⟨t242, A100, H⟩ := H; have A10 := Aside0.mk A100; clear A100; obtain rfl := Option.some.inj H
         go_enter Tryd.func10, Tryd.ntmps10
         go_wp2_with (first | ((with_reducible refine gate_callee (f := 11) rfl ?_); refine goesL_ (some 4) rfl rfl Tryd.func11 (by kernel_rfl) rfl #[.string (⟨#[65, 110, 110, 32, 66, 32, 60, 97, 64, 98, 62, 44, 32, 103, 58, 32, 99, 64, 100, 59]⟩ : ByteArray)] rfl am ?_; (with_reducible refine (mbx_Read.calls (hG := by first | exact hG | exact Glob.below hG (by first | exact HB.out | (repeat (first | (with_reducible first | exact HB.out | apply below_alloc | apply pw_below_drewN | apply below_drew1) | exact HB.out))) | exact Glob.drawn hG (d0)) (⟨#[65, 110, 110, 32, 66, 32, 60, 97, 64, 98, 62, 44, 32, 103, 58, 32, 99, 64, 100, 59]⟩ : ByteArray) t234 t235 _ A1.out).mono ?_); rintro e w11 ⟨v236, rfl, ho0, hb⟩; refine ⟨_, rfl, ?_⟩; have n0_ := Aside0.mk (Kd.R_lower ho0 (below_size bw)); have n1_ := Aside0.mk (below_step bw hb); clear HB; have HO237 := n0_; have HB := n1_; clear n0_ n1_; (try clear hb); (try clear hb2); (try clear hk); (try clear hi); (try clear ho0); obtain ⟨Ao12, co12, eo12⟩ := Kd.R_slice HO237.out; subst eo12; have p238 : 0 ≤ (0 : Int) := (by omega); have q238 : 0 < (t234.length : Int) := od; obtain ⟨ad238, e238, hx238_0, hx238_1, hx238_2⟩ := at_T33 (Kd.R_reads' HO237.out).2.2 0 p238 q238; cases e238; have qi238 : (0 < t234.length) = True := eq_true (by omega); (try rw [show ((0 : Int)).toNat = 0 from rfl] at hx238_0); (try rw [show 0 * 3 = 0 from rfl] at hx238_0); (try rw [Addr.add_zero'] at hx238_0); (try rw [show ((0 : Int)).toNat = 0 from rfl] at hx238_1); (try rw [show 0 * 3 = 0 from rfl] at hx238_1); (try rw [Addr.add_zero'] at hx238_1); (try rw [show ((0 : Int)).toNat = 0 from rfl] at hx238_2); (try rw [show 0 * 3 = 0 from rfl] at hx238_2); (try rw [Addr.add_zero'] at hx238_2); replace p238 := eq_true p238; replace q238 := eq_true q238; have p239 : 0 ≤ (0 : Int) := (by omega); have q239 : 0 < (t234.length : Int) := od; obtain ⟨ad239, e239, hx239_0, hx239_1, hx239_2⟩ := at_T33 (Kd.R_reads' HO237.out).2.2 0 p239 q239; obtain rfl : ad238 = ad239 := (by injection e239); have qi239 : (0 < t234.length) = True := eq_true (by omega); (try rw [show ((0 : Int)).toNat = 0 from rfl] at hx239_0); (try rw [show 0 * 3 = 0 from rfl] at hx239_0); (try rw [Addr.add_zero'] at hx239_0); (try rw [show ((0 : Int)).toNat = 0 from rfl] at hx239_1); (try rw [show 0 * 3 = 0 from rfl] at hx239_1); (try rw [Addr.add_zero'] at hx239_1); (try rw [show ((0 : Int)).toNat = 0 from rfl] at hx239_2); (try rw [show 0 * 3 = 0 from rfl] at hx239_2); (try rw [Addr.add_zero'] at hx239_2); replace p239 := eq_true p239; replace q239 := eq_true q239; have p240 : 0 ≤ (1 : Int) := (by omega); have q240 : 1 < (t234.length : Int) := od; obtain ⟨ad240, e240, hx240_0, hx240_1, hx240_2⟩ := at_T33 (Kd.R_reads' HO237.out).2.2 1 p240 q240; obtain rfl : ad238 = ad240 := (by injection e240); (try simp only [show (1 : Int).toNat = 1 from rfl, Nat.reduceMul, Nat.reduceEqDiff, Go.Addr.add, ↓reduceIte] at hx240_0); (try simp only [show (1 : Int).toNat = 1 from rfl, Nat.reduceMul, Nat.reduceEqDiff, Go.Addr.add, ↓reduceIte] at hx240_1); (try simp only [show (1 : Int).toNat = 1 from rfl, Nat.reduceMul, Nat.reduceEqDiff, Go.Addr.add, ↓reduceIte] at hx240_2); have qi240 : (1 < t234.length) = True := eq_true (by omega); (try rw [show ((1 : Int)).toNat = 1 from rfl] at hx240_0); (try rw [show 1 * 3 = 3 from rfl] at hx240_0); (try rw [show ((1 : Int)).toNat = 1 from rfl] at hx240_1); (try rw [show 1 * 3 = 3 from rfl] at hx240_1); (try rw [show ((1 : Int)).toNat = 1 from rfl] at hx240_2); (try rw [show 1 * 3 = 3 from rfl] at hx240_2); replace p240 := eq_true p240; replace q240 := eq_true q240; have p241 : 0 ≤ (1 : Int) := (by omega); have q241 : 1 < (t234.length : Int) := od; obtain ⟨ad241, e241, hx241_0, hx241_1, hx241_2⟩ := at_T33 (Kd.R_reads' HO237.out).2.2 1 p241 q241; obtain rfl : ad238 = ad241 := (by injection e241); (try simp only [show (1 : Int).toNat = 1 from rfl, Nat.reduceMul, Nat.reduceEqDiff, Go.Addr.add, ↓reduceIte] at hx241_0); (try simp only [show (1 : Int).toNat = 1 from rfl, Nat.reduceMul, Nat.reduceEqDiff, Go.Addr.add, ↓reduceIte] at hx241_1); (try simp only [show (1 : Int).toNat = 1 from rfl, Nat.reduceMul, Nat.reduceEqDiff, Go.Addr.add, ↓reduceIte] at hx241_2); have qi241 : (1 < t234.length) = True := eq_true (by omega); (try rw [show ((1 : Int)).toNat = 1 from rfl] at hx241_0); (try rw [show 1 * 3 = 3 from rfl] at hx241_0); (try rw [show ((1 : Int)).toNat = 1 from rfl] at hx241_1); (try rw [show 1 * 3 = 3 from rfl] at hx241_1); (try rw [show ((1 : Int)).toNat = 1 from rfl] at hx241_2); (try rw [show 1 * 3 = 3 from rfl] at hx241_2); replace p241 := eq_true p241; replace q241 := eq_true q241) | (go_at_call 32; (with_reducible refine (mbx_ShowAll.calls k _ _ t234 t242 _ ?side1 ?side2 A10.out).mono ?_); (case side1 => repeat (first | exact (Kd.R_reads' HO237.out).2.2 | (with_reducible refine Kd.C_alloc ?_ _) | (with_reducible refine Kd.C_drewN ?_ _) | (with_reducible refine Kd.C_drew ?_))); (case side2 => exact (Kd.R_reads' HO237.out).2.1); rintro e w13 ⟨rfl, hb⟩; have n0_ := Aside0.mk (Kd.R_below (ra HO237.out) hb); have n1_ := Aside0.mk (below_step bw hb); clear HO237; clear HB; have HO237 := n0_; have HB := n1_; clear n0_ n1_; (try clear hb); (try clear hb2); (try clear hk); (try clear hi)))
         go_ret
         exact ⟨ew, bw⟩
        rw [if_neg c9] at H; have c9b0 := beq_eq_false_iff_ne.mpr c9; have c9b1 := bne_iff_ne.mpr c9; obtain rfl := Option.some.inj H; exact absurd HT.out (by decide)
       rw [if_neg c8] at H; have c8b0 := beq_eq_false_iff_ne.mpr c8; have c8b1 := bne_iff_ne.mpr c8; obtain rfl := Option.some.inj H; exact absurd HT.out (by decide)
      rw [if_neg c7] at H; exact absurd H (by simp)
     rw [if_neg c6] at H; have c6b0 : ((((rd_T33 t234 0).f1.f0).toList) == ([97] : List UInt8) && ((((rd_T33 t234 0).f1.f1).toList) == ([98] : List UInt8))) = false := by simpa using c6
     (try (have c6b1 : decide ((((rd_T33 t234 0).f1.f0).toList) = ([97] : List UInt8) && ((((rd_T33 t234 0).f1.f1).toList) == ([98] : List UInt8))) = false := by simpa using c6))
     (try (have c6b2 : ((((rd_T33 t234 0).f1.f0).toList) == ([97] : List UInt8) && ((((rd_T33 t234 0).f1.f1).toList) == ([98] : List UInt8))) = false := by simpa using c6))
     (try (have c6b3 : ¬ ((((rd_T33 t234 0).f1.f0).toList) = ([97] : List UInt8) && ((((rd_T33 t234 0).f1.f1).toList) == ([98] : List UInt8))) := by simpa using c6))
     clear c6; obtain rfl := Option.some.inj H; exact absurd HT.out (by decide)
    rw [if_neg c5] at H; have c5b0 := beq_eq_false_iff_ne.mpr c5; have c5b1 := bne_iff_ne.mpr c5; obtain rfl := Option.some.inj H; exact absurd HT.out (by decide)
   rw [if_neg c4] at H; exact absurd H (by simp)
  rw [if_neg c3] at H; have c3b0 := beq_eq_false_iff_ne.mpr c3; have c3b1 := bne_iff_ne.mpr c3; obtain rfl := Option.some.inj H; exact absurd HT.out (by decide)
 rw [if_neg c2] at H; have c2b0 := beq_eq_false_iff_ne.mpr c2; have c2b1 := bne_iff_ne.mpr c2; obtain rfl := Option.some.inj H; exact absurd HT.out (by decide)
set_option maxRecDepth 100000 in
theorem bulletinlaw14_works.at_ : bulletinlaw14_works.f 100 = some true := by decide +kernel
theorem bulletinlaw14_works.yes (k : Nat) (r : Bool) (h : bulletinlaw14_works.f k = some r) : r = true := by
 have up : ∀ (d a : Nat) (x : Bool), bulletinlaw14_works.f a = some x → bulletinlaw14_works.f (a + d) = some x := fun d => by
  induction d with
  | zero => intro a x h; exact h
  | succ d ih => intro a x h; exact bulletinlaw14_works.mono (a + d) x (ih a x h)
 have h1 := up 100 k r h; have h2 := up k 100 true bulletinlaw14_works.at_; rw [Nat.add_comm] at h1; rw [h1] at h2; exact Option.some.inj h2
theorem bulletinlaw14_works.calls (k : Nat) (r : Bool) (w : World) (hG : Glob w) (h : bulletinlaw14_works.f k = some r) :
  Calls Tryd.prog 10 #[] w fun e w' => e = .returned (.bool r) ∧ Below w.heap.size w w' :=
 bulletinlaw14_works.callsT k r w hG h (bulletinlaw14_works.yes k r h)
end Go.Proofs.YtihabmcaplnbcaaDoor.Fn
namespace Go.Proofs.YtihabmcaplnbcaaDoor.Fn
open Go.RowKit Go.Proofs.YtihabmcaplnbcaaDoorW.PrintWords Go.Proofs.YtihabmcaplnbcaaDoorW.PrintLast Go.Proofs.YtihabmcaplnbcaaDoorW.PrintMore
attribute [local go_sem] max2_int min2_int max_two min_two max_three min_three max_four min_four
set_option linter.unusedVariables false
set_option linter.unusedSimpArgs false
def bulletinref14_cut.l0 : Nat → List (S113) → List (S73) → Int → List (S113) → ByteArray → Option ((List (S73)))
 | 0, _, _, _, _, _ => none
 | k + 1, x0, x3, x5, x262000, x262001 => if x5 < (x0.length : Int) then (if 0 ≤ x5 then (if ((rd_T113 x0 x5).f0) = 3 then (if ((rd_T113 x0 x5).f1).toList = ([64] : List UInt8) then (if x262000.length < 5864062014805 then (bulletinref14_cut.l0 k x0 x3 (wrap64 (x5 + 1)) (x262000 ++ [(⟨(rd_T113 x0 x5).f0, (rd_T113 x0 x5).f1⟩ : S113)]) x262001) else (none)) else (if ((rd_T113 x0 x5).f1).toList = ([46] : List UInt8) then (if x262000.length < 5864062014805 then (bulletinref14_cut.l0 k x0 x3 (wrap64 (x5 + 1)) (x262000 ++ [(⟨(rd_T113 x0 x5).f0, (rd_T113 x0 x5).f1⟩ : S113)]) x262001) else (none)) else (if x3.length < 3518437208883 then (bulletinref14_cut.l0 k x0 (x3 ++ [(⟨x262000, (rd_T113 x0 x5).f1⟩ : S73)]) (wrap64 (x5 + 1)) ([] : List (S113)) (⟨#[]⟩ : ByteArray)) else (none)))) else (if x262000.length < 5864062014805 then (bulletinref14_cut.l0 k x0 x3 (wrap64 (x5 + 1)) (x262000 ++ [(⟨(rd_T113 x0 x5).f0, (rd_T113 x0 x5).f1⟩ : S113)]) x262001) else (none))) else (none)) else (if x3.length < 3518437208883 then (some (x3 ++ [(⟨x262000, x262001⟩ : S73)])) else (none))
def bulletinref14_cut.f (k : Nat) (l0 : List (S113)) : Option ((List (S73))) := bulletinref14_cut.l0 k l0 ([] : List (S73)) 0 ([] : List (S113)) (⟨#[]⟩ : ByteArray)
def bulletinref14_cut.T11 : Bool × List (List Nat × List Nat) := (true, [([], []), ([0], [0]), ([], []), ([], []), ([2, 3], [2, 3]), ([4], [4]), ([5], [5]), ([1, 6], [1, 6]), ([0, 1, 2, 3, 4, 5, 6, 7], []), ([8, 7, 7, 0, 1, 2, 3, 4, 5, 6, 7], [7, 8])])
def bulletinref14_cut.B11 : List Nat := [0, 1, 0, 0, 12, 28, 60, 127, 255, 511]
theorem bulletinref14_cut.tab11 : rtab .any (opsOf Tryd.f37 11) = bulletinref14_cut.T11 := by kernel_rfl
theorem bulletinref14_cut.bits11 : waitsOk bulletinref14_cut.T11.2 bulletinref14_cut.B11 = true := by kernel_rfl
set_option maxHeartbeats 8000000 in
set_option maxRecDepth 100000 in
theorem bulletinref14_cut.calls (k : Nat) (A0 : Option Addr) (c0 : Nat) (l0 : List (S113)) (r : List (S73)) (w : World) (hr0 : Kd.C k113 w A0 l0.length l0) (hc0 : l0.length ≤ c0) (h : bulletinref14_cut.f k l0 = some r) :
  Calls Tryd.prog 37 #[.slice A0 l0.length c0] w fun e w' => ∃ v0_ : Value, e = .returned (v0_) ∧ Kd.S k73 73 w' w.heap.size (fun _ => True) v0_ r ∧ Below w.heap.size w w' := by
 have hu73 := Tryd.underlying73; have hu113 := Tryd.underlying113; have HR0 := Aside0.mk hr0; have HC0 := Aside0.mk hc0; clear hr0 hc0; have HB := Aside0.mk (Below.refl w.heap.size w); have H : (bulletinref14_cut.l0 k l0 ([] : List (S73)) 0 ([] : List (S113)) (⟨#[]⟩ : ByteArray)) = some r := h; clear h; have H' := Aside0.mk H; clear H
 go_enter Tryd.func37, Tryd.ntmps37
 go_wp2_with (first | ((with_reducible refine gate_dst (N := 4) rfl ?_); refine box_event ?hg (N := 4) ?hd (cs := #[.slice none 0 0, .string (⟨#[]⟩ : ByteArray)]) (t := 73) ?hr ?_; (case hd => rfl); (case hg => rfl); (case hr => first | (go_simp; done) | (go_simp; rfl)); intro gb261 hg w2 hbox hb; have n0_ := Aside0.mk (below_step bw hb); have n1_ := Aside0.mk (hbox); have n2_ := Aside0.mk ((by rw [hg]; exact (below_size bw) : w.heap.size ≤ gb261)); have n3_ := Aside0.mk ((by rw [hg]; exact (below_size bw) : w.heap.size ≤ gb261)); clear HB; have HB := n0_; have BK261 := n1_; have GW261 := n2_; have GE261 := n3_; clear n0_ n1_ n2_ n3_; clear hb hbox hg; have hcz3_0 : w2.cell? ⟨gb261, 0, none⟩ = some (.slice none 0 0) := (blk_cell BK261.out 0).trans rfl; have hcz3_1 : w2.cell? ⟨gb261, 1, none⟩ = some (.string (⟨#[]⟩ : ByteArray)) := (blk_cell BK261.out 1).trans rfl; have hfz3_0 := blk_frozen BK261.out 0; have hfz3_1 := blk_frozen BK261.out 1))
 go_loopg [3, 5] k (fun kq v3 v5 w' => ∃ (x3_1 : List (S73)) (x5_1 : Int) (x262000_1 : List (S113)) (x262001_1 : ByteArray) (u262000 : Value), v5 = .int .i64 x5_1 ∧ Aside0 (bulletinref14_cut.l0 kq l0 x3_1 x5_1 x262000_1 x262001_1 = some r) ∧ Aside0 (kq ≤ k) ∧ Aside0 (Kd.S k73 73 w' w.heap.size (fun k_ => some k_ ≠ (u262000 : Value).ownBlock ∧ k_ ≠ gb261) v3 x3_1) ∧ Aside0 (Kd.R k113 113 w' w.heap.size (fun _ => True) u262000 x262000_1) ∧ Aside0 (w'.heap[gb261]? = some (.cells #[u262000, .string x262001_1] 73 (0, 0))) ∧ Aside0 (Below w.heap.size w w'))
 case atStart => exact ⟨(([] : List (S73))), (0), (([] : List (S113))), ((⟨#[]⟩ : ByteArray)), (.slice none 0 0), cl, H', ⟨Nat.le_refl _⟩, ⟨by first | exact Kd.S_nil _ _ _ _ _ | exact Kd.N_nil _ _ _ _ _ | exact Kd.V_nil _ _ _ _ _ | exact Kd.Q_nil _ _ _ _ _ | exact Kd.R_nil _ _ _ _ _⟩, ⟨by first | exact Kd.R_nil _ _ _ _ _ | exact Kd.N_nil _ _ _ _ _ | exact Kd.V_nil _ _ _ _ _ | exact Kd.Q_nil _ _ _ _ _ | exact Kd.S_nil _ _ _ _ _⟩, ⟨by (with_reducible repeat (first | refine blk_drewN ?_ _ | refine blk_drew ?_ | refine blk_alloc ?_ _)); refine blk_put (cs := #[.slice none 0 0, .string (⟨#[]⟩ : ByteArray)]) ?_ 1 _ rfl; (with_reducible repeat (first | refine blk_drewN ?_ _ | refine blk_drew ?_ | refine blk_alloc ?_ _)); exact blk_put (cs := #[.slice none 0 0, .string (⟨#[]⟩ : ByteArray)]) bk 0 _ rfl⟩, ⟨bwS⟩⟩
 case round =>
  clear H'
  try clear p2
  try clear c3
  try clear hcz3_0
  try clear hcz3_1
  try clear hfz3_0
  try clear hfz3_1
  obtain ⟨x3_1, x5_1, x262000_1, x262001_1, u262000, rfl, HA, HK1, HO_3, HO_262000, BK261, HB⟩ := hrel; cases gk with
  | zero => exact absurd HA.out (by simp [bulletinref14_cut.l0])
  | succ k1 =>
   have H := HA.out; clear HA; simp only [bulletinref14_cut.l0] at H
   by_cases c4 : x5_1 < (l0.length : Int)
   ·rw [if_pos c4] at H; have c4b0 := decide_eq_true c4; clear c4
    by_cases c5 : 0 ≤ x5_1
    ·rw [if_pos c5] at H; have c5b0 := decide_eq_true c5; clear c5
     by_cases c6 : ((rd_T113 l0 x5_1).f0) = 3
     ·rw [if_pos c6] at H; have c6b0 := beq_iff_eq.mpr c6; have c6b1 := bne_eq_false_iff_eq.mpr c6; clear c6
      by_cases c7 : ((rd_T113 l0 x5_1).f1).toList = ([64] : List UInt8)
      ·rw [if_pos c7] at H; have c7b0 := beq_iff_eq.mpr c7; have c7b1 := bne_eq_false_iff_eq.mpr c7; clear c7
       by_cases c8 : x262000_1.length < 5864062014805
       ·rw [if_pos c8] at H; have LMc8 := Aside0.mk c8; clear c8; obtain ⟨y265, hy265⟩ : ∃ y_ : List (S113), y_ = (x262000_1 ++ [(⟨(rd_T113 l0 x5_1).f0, (rd_T113 l0 x5_1).f1⟩ : S113)]) := ⟨_, rfl⟩
        replace H : (bulletinref14_cut.l0 k1 l0 x3_1 (wrap64 (x5_1 + 1)) y265 x262001_1) = some r := by first | (rw [hy265]; with_reducible exact H) | (have H2_ := (Option.bind_some _ _).symm.trans H; rw [hy265]; with_reducible exact H2_) | (have H2_ := (Option.bind_some _ _).symm.trans H; with_reducible exact H2_) | with_reducible exact H | (rw [hy265]; exact H) | exact H
        have Ny265 := Aside0.mk hy265; clear hy265; have H' := Aside0.mk H; clear H; have p262 : 0 ≤ (x5_1 : Int) := od; have q262 : x5_1 < (l0.length : Int) := od; obtain ⟨ad262, e262, hx262_0, hx262_1⟩ := at_T113 HR0.out x5_1 p262 q262; cases e262; replace hx262_0 := (HB.out.cell (World.block_lt_of_cell? w _ hx262_0)).trans hx262_0; replace hx262_1 := (HB.out.cell (World.block_lt_of_cell? w _ hx262_1)).trans hx262_1; replace p262 := eq_true p262; replace q262 := eq_true q262; have p263 : 0 ≤ (x5_1 : Int) := od; have q263 : x5_1 < (l0.length : Int) := od; obtain ⟨ad263, e263, hx263_0, hx263_1⟩ := at_T113 HR0.out x5_1 p263 q263; obtain rfl : ad262 = ad263 := (by injection e263)
        replace hx263_0 := (HB.out.cell (World.block_lt_of_cell? w _ hx263_0)).trans hx263_0; replace hx263_1 := (HB.out.cell (World.block_lt_of_cell? w _ hx263_1)).trans hx263_1; replace p263 := eq_true p263; replace q263 := eq_true q263
        try go_wp2
        have n0_ := Aside0.mk (Kd.S_drew HO_3.out); have n1_ := Aside0.mk (Kd.R_drew HO_262000.out); have n2_ := Aside0.mk (blk_drew BK261.out); have n3_ := Aside0.mk (below_drew1 HB.out); clear HO_3 HO_262000 BK261 HB; have HO_3 := n0_; have HO_262000 := n1_; have BK261 := n2_; have HB := n3_; clear n0_ n1_ n2_ n3_; have p264 : 0 ≤ (x5_1 : Int) := od; have q264 : x5_1 < (l0.length : Int) := od; obtain ⟨ad264, e264, hx264_0, hx264_1⟩ := at_T113 HR0.out x5_1 p264 q264; have hw264_1 := hx264_1; have hw264_0 := hx264_0; obtain rfl : ad262 = ad264 := (by injection e264)
        replace hx264_0 := (HB.out.cell (World.block_lt_of_cell? w _ hx264_0)).trans hx264_0; replace hx264_1 := (HB.out.cell (World.block_lt_of_cell? w _ hx264_1)).trans hx264_1; replace p264 := eq_true p264; replace q264 := eq_true q264; refine start_ (n := 10) (S := fun w' => w'.cell? ⟨gb261, 0, none⟩ = some (u262000) ∧ w'.cell? ⟨gb261, 1, none⟩ = some (.string x262001_1) ∧ w'.cell? (ad262.add ((x5_1).toNat * 2)) = some (.int .i64 ((rd_T113 l0 x5_1).f0)) ∧ w'.cell? ⟨(ad262.add ((x5_1).toNat * 2)).block, (ad262.add ((x5_1).toNat * 2)).off + 1, none⟩ = some (.string ((rd_T113 l0 x5_1).f1))) (ds := [9]) #[false, false, false, false, false, false, false, false, false, false] (by kernel_rfl) rfl rfl ⟨(blk_cell BK261.out 0).trans rfl, (blk_cell BK261.out 1).trans rfl, ((HB.out.cell (World.block_lt_of_cell? w _ hw264_0)).trans hw264_0), ((HB.out.cell (World.block_lt_of_cell? w _ hw264_1)).trans hw264_1)⟩ (fun hHeld => ?_); refine with_tabW bulletinref14_cut.tab11 bulletinref14_cut.bits11 (fun HT_ HW_ => ?_)
        generalize wr.drew = w9 at HO_3 HO_262000 BK261 HB hx264_0 hx264_1 hHeld ⊢
        refine pure_ (i := 0) (N := some 40) (v := ?_) (a' := ?_) (bitsL 10 1) rfl rfl (any_of HT_.out (by kernel_rfl)) (fun _ _ _ h => h) (Or.inl ⟨by rfl, ?_⟩) ?_ ?_; rotate_left
        ·intro w'; go_simp; with_reducible rfl
        rotate_left
        ·simp only [Act.put, List.setIfInBounds_toArray, List.set_cons_zero, List.set_cons_succ, i64_w, i32_w]; rfl
        refine pure_ (i := 2) (N := some 42) (v := ?_) (a' := ?_) (bitsL 10 5) rfl rfl (any_of HT_.out (by kernel_rfl)) (fun _ _ _ h => h) (Or.inl ⟨by rfl, ?_⟩) ?_ ?_; rotate_left
        ·intro w'; go_simp; with_reducible rfl
        rotate_left
        ·simp only [Act.put, List.setIfInBounds_toArray, List.set_cons_zero, List.set_cons_succ, i64_w, i32_w]; rfl
        refine pure_ (i := 3) (N := some 43) (v := ?_) (a' := ?_) (bitsL 10 13) rfl rfl (any_of HT_.out (by kernel_rfl)) (fun _ _ _ h => h) (Or.inl ⟨by rfl, ?_⟩) ?_ ?_; rotate_left
        ·intro w'; go_simp; with_reducible rfl
        rotate_left
        ·simp only [Act.put, List.setIfInBounds_toArray, List.set_cons_zero, List.set_cons_succ, i64_w, i32_w]; rfl
        refine pure_ (i := 4) (N := some 44) (v := ?_) (a' := ?_) (bitsL 10 29) rfl rfl (any_of HT_.out (by kernel_rfl)) (fun _ _ _ h => h) (Or.inl ⟨by rfl, ?_⟩) ?_ ?_; rotate_left
        ·intro w'; go_simp; with_reducible rfl
        rotate_left
        ·simp only [Act.put, List.setIfInBounds_toArray, List.set_cons_zero, List.set_cons_succ, i64_w, i32_w]; rfl
        refine take_ (i := 1) (N := some 41) (v := ?_) (a' := ?_) (bitsL 10 31) rfl rfl (take_ofW HT_.out HW_.out (by kernel_rfl)) (fun _ _ _ h => h) (Or.inl ⟨by rfl, ?_⟩) hHeld ?_ ?_; rotate_left
        ·rintro w' ⟨s0, s1, s2, s3⟩; go_simp; with_reducible rfl
        rotate_left
        ·simp only [Act.put, List.setIfInBounds_toArray, List.set_cons_zero, List.set_cons_succ, i64_w, i32_w]; rfl
        refine take_ (i := 5) (N := some 45) (v := ?_) (a' := ?_) (bitsL 10 63) rfl rfl (take_ofW HT_.out HW_.out (by kernel_rfl)) (fun _ _ _ h => h) (Or.inl ⟨by rfl, ?_⟩) hHeld ?_ ?_; rotate_left
        ·rintro w' ⟨s0, s1, s2, s3⟩; go_simp; with_reducible rfl
        rotate_left
        ·simp only [Act.put, List.setIfInBounds_toArray, List.set_cons_zero, List.set_cons_succ, i64_w, i32_w]; rfl
        refine one_ (i := 6) (N := some 46) (bitsL 10 127) rfl rfl (one_of HT_.out (by kernel_rfl)) (by decide) (fun K hK => ?_); refine value_ (w1 := ?_) (v := ?_) (by rfl) rfl ?_ ?_; rotate_left 2
        ·go_simp
         constructor
         ·rfl
         rfl
        refine hK.out _ _ ⟨(blk_cell (blk_alloc BK261.out _) 0).trans rfl, (blk_cell (blk_alloc BK261.out _) 1).trans rfl, (World.cell?_alloc_lt _ _ _ (World.block_lt_of_cell? _ _ (((HB.out.cell (World.block_lt_of_cell? w _ hw264_0)).trans hw264_0)))).trans (((HB.out.cell (World.block_lt_of_cell? w _ hw264_0)).trans hw264_0)), (World.cell?_alloc_lt _ _ _ (World.block_lt_of_cell? _ _ (((HB.out.cell (World.block_lt_of_cell? w _ hw264_1)).trans hw264_1)))).trans (((HB.out.cell (World.block_lt_of_cell? w _ hw264_1)).trans hw264_1))⟩ (fun hHeld => ?_); clear hK K; refine norm_ (a' := ?_) ?_ ?_; rotate_left
        ·show Act.put _ (some 46) _ = _
         simp only [Act.put, List.setIfInBounds_toArray, List.set_cons_zero, List.set_cons_succ, i64_w, i32_w]; rfl
        refine one_ (i := 7) (N := some 47) (bitsL 10 255) rfl rfl (one_of HT_.out (by kernel_rfl)) (by decide) (fun K hK => ?_); refine Kd.R_append_step k113 (w0 := w) w.heap.size (by rfl) (.tmp 41) (.tmp 46) 67 113 (.agg #[(.int .i64 0), (.string ⟨#[]⟩)]) 24 rfl Tryd.underlying67 info113 rfl (by decide) (by omega) u262000 x262000_1 (⟨(rd_T113 l0 x5_1).f0, (rd_T113 l0 x5_1).f1⟩ : S113) [.int .i64 ((rd_T113 l0 x5_1).f0), .string ((rd_T113 l0 x5_1).f1)] (fun _ => True) (fun _ => False) rfl rfl ?aP (fun _ hk => hk.elim) ?aF ?aO ?aB ?aS ?aL ?_
        (case aP => exact k113_mkM _ _ _ (⟨(rd_T113 l0 x5_1).f0, (rd_T113 l0 x5_1).f1⟩ : S113))
        (case aB => exact bwS)
        (case aF => exact (fun _ _ => trivial))
        (case aO => exact (ra HO_262000.out))
        (case aS => exact (below_size bwS))
        (case aL => have := LMc8.out; omega)
        intro v266 w10 ho hb hg hat; rw [← Ny265.out] at ho; have n0_ := Aside0.mk (Kd.S_after (ok := (fun k_ => k_ ≠ gb261)) (by (with_reducible repeat (first | apply Kd.S_alloc | apply Kd.S_drewN | apply Kd.S_drew)); exact Kd.S_mono HO_3.out (fun _ hk => ⟨hk.2, hk.1⟩)) hg hat); have n1_ := Aside0.mk (blk_grown (g := gb261) (o := .cells #[u262000, .string x262001_1] 73 (0, 0)) bk hg (Kd.R_ne HO_262000.out BK261.out (by decide))); have n2_ := Aside0.mk (hb); have n3_ := Aside0.mk (ho); clear HO_3 BK261 HB HO_262000; have HO_3 := n0_; have BK261 := n1_; have HB := n2_; have HO267 := n3_; clear n0_ n1_ n2_ n3_ ho hb hg hat; obtain ⟨Ao11, co11, eo11⟩ := Kd.R_slice HO267.out
        (first | subst eo11 | (injection eo11 with f1_ f2_ f3_; have f4_ := f1_.symm; have f5_ := f3_.symm; clear f1_ f2_ f3_; subst f4_; subst f5_))
        refine hK.out _ _ ⟨(blk_cell BK261.out 0).trans rfl, (blk_cell BK261.out 1).trans rfl, ((HB.out.cell (World.block_lt_of_cell? w _ hw264_0)).trans hw264_0), ((HB.out.cell (World.block_lt_of_cell? w _ hw264_1)).trans hw264_1)⟩ (fun hHeld => ?_); clear hK K; refine norm_ (a' := ?_) ?_ ?_; rotate_left
        ·show Act.put _ (some 47) _ = _
         simp only [Act.put, List.setIfInBounds_toArray, List.set_cons_zero, List.set_cons_succ, i64_w, i32_w]; rfl
        refine pure_ (i := 8) (N := some 48) (v := ?_) (a' := ?_) (bitsL 10 511) rfl rfl (any_of HT_.out (by kernel_rfl)) (fun _ _ _ h => h) (Or.inl ⟨by rfl, ?_⟩) ?_ ?_; rotate_left
        ·intro w'; go_simp; with_reducible rfl
        rotate_left
        ·simp only [Act.put, List.setIfInBounds_toArray, List.set_cons_zero, List.set_cons_succ, i64_w, i32_w]; rfl
        refine last_ (i := 9) (N := none) (bitsL 10 1023) rfl rfl (one_of HT_.out (by kernel_rfl)) (by decide) (fun K hK => ?_); have hs12 : w10.cell? ⟨gb261, 0, none⟩ = some (u262000) := (blk_cell BK261.out 0).trans rfl; have hfs12 := blk_frozen BK261.out 0; refine skip_ (w1 := ?_) (by rfl) rfl ?_ ?_; rotate_left
        ·go_simp; rfl
        refine hK.out _ _ ?_; clear hK K; refine done_ (done_of HT_.out (by kernel_rfl)) ?_
        try go_wp2
        go_roundg k1
        case measure => have := HK1.out; omega
        case rel => exact ⟨(x3_1), (wrap64 (x5_1 + 1)), (y265), (x262001_1), (.slice Ao11 y265.length co11), cl, H', ⟨by have := HK1.out; omega⟩, ⟨by (with_reducible repeat (first | apply Kd.S_alloc | apply Kd.S_drewN | apply Kd.S_drew)); exact Kd.S_mono (Kd.S_far (p := ⟨gb261, 0, none⟩) (Kd.S_mono HO_3.out (fun k_ hk => (⟨hk, hk.1⟩ : _ ∧ k_ ≠ gb261))) (fun _ hk => hk.2) (.slice Ao11 y265.length co11)) (fun _ hk => ⟨hk.1.2, hk.1.1⟩)⟩, ⟨by (with_reducible repeat (first | apply Kd.R_alloc | apply Kd.R_drewN | apply Kd.R_drew)); exact Kd.R_mono (Kd.R_far (p := ⟨gb261, 0, none⟩) (Kd.R_types HO267.out BK261.out (by decide)) (fun _ hk => hk.2) (.slice Ao11 y265.length co11)) (fun _ hk => trivial)⟩, ⟨by (with_reducible repeat (first | refine blk_drewN ?_ _ | refine blk_drew ?_ | refine blk_alloc ?_ _)); exact blk_put (cs := #[u262000, .string x262001_1]) bk 0 _ rfl⟩, ⟨bwS⟩⟩
       rw [if_neg c8] at H; exact absurd H (by simp)
      rw [if_neg c7] at H; have c7b0 := beq_eq_false_iff_ne.mpr c7; have c7b1 := bne_iff_ne.mpr c7
      by_cases c13 : ((rd_T113 l0 x5_1).f1).toList = ([46] : List UInt8)
      ·rw [if_pos c13] at H; have c13b0 := beq_iff_eq.mpr c13; have c13b1 := bne_eq_false_iff_eq.mpr c13; clear c13
       by_cases c14 : x262000_1.length < 5864062014805
       ·rw [if_pos c14] at H; have LMc14 := Aside0.mk c14; clear c14; obtain ⟨y269, hy269⟩ : ∃ y_ : List (S113), y_ = (x262000_1 ++ [(⟨(rd_T113 l0 x5_1).f0, (rd_T113 l0 x5_1).f1⟩ : S113)]) := ⟨_, rfl⟩
        replace H : (bulletinref14_cut.l0 k1 l0 x3_1 (wrap64 (x5_1 + 1)) y269 x262001_1) = some r := by first | (rw [hy269]; with_reducible exact H) | (have H2_ := (Option.bind_some _ _).symm.trans H; rw [hy269]; with_reducible exact H2_) | (have H2_ := (Option.bind_some _ _).symm.trans H; with_reducible exact H2_) | with_reducible exact H | (rw [hy269]; exact H) | exact H
        have Ny269 := Aside0.mk hy269; clear hy269; have H' := Aside0.mk H; clear H; have p262 : 0 ≤ (x5_1 : Int) := od; have q262 : x5_1 < (l0.length : Int) := od; obtain ⟨ad262, e262, hx262_0, hx262_1⟩ := at_T113 HR0.out x5_1 p262 q262; cases e262; replace hx262_0 := (HB.out.cell (World.block_lt_of_cell? w _ hx262_0)).trans hx262_0; replace hx262_1 := (HB.out.cell (World.block_lt_of_cell? w _ hx262_1)).trans hx262_1; replace p262 := eq_true p262; replace q262 := eq_true q262; have p263 : 0 ≤ (x5_1 : Int) := od; have q263 : x5_1 < (l0.length : Int) := od; obtain ⟨ad263, e263, hx263_0, hx263_1⟩ := at_T113 HR0.out x5_1 p263 q263; obtain rfl : ad262 = ad263 := (by injection e263)
        replace hx263_0 := (HB.out.cell (World.block_lt_of_cell? w _ hx263_0)).trans hx263_0; replace hx263_1 := (HB.out.cell (World.block_lt_of_cell? w _ hx263_1)).trans hx263_1; replace p263 := eq_true p263; replace q263 := eq_true q263
        try go_wp2
        have n0_ := Aside0.mk (Kd.S_drew HO_3.out); have n1_ := Aside0.mk (Kd.R_drew HO_262000.out); have n2_ := Aside0.mk (blk_drew BK261.out); have n3_ := Aside0.mk (below_drew1 HB.out); clear HO_3 HO_262000 BK261 HB; have HO_3 := n0_; have HO_262000 := n1_; have BK261 := n2_; have HB := n3_; clear n0_ n1_ n2_ n3_; have p268 : 0 ≤ (x5_1 : Int) := od; have q268 : x5_1 < (l0.length : Int) := od; obtain ⟨ad268, e268, hx268_0, hx268_1⟩ := at_T113 HR0.out x5_1 p268 q268; have hw268_1 := hx268_1; have hw268_0 := hx268_0; obtain rfl : ad262 = ad268 := (by injection e268)
        replace hx268_0 := (HB.out.cell (World.block_lt_of_cell? w _ hx268_0)).trans hx268_0; replace hx268_1 := (HB.out.cell (World.block_lt_of_cell? w _ hx268_1)).trans hx268_1; replace p268 := eq_true p268; replace q268 := eq_true q268; refine start_ (n := 10) (S := fun w' => w'.cell? ⟨gb261, 0, none⟩ = some (u262000) ∧ w'.cell? ⟨gb261, 1, none⟩ = some (.string x262001_1) ∧ w'.cell? (ad262.add ((x5_1).toNat * 2)) = some (.int .i64 ((rd_T113 l0 x5_1).f0)) ∧ w'.cell? ⟨(ad262.add ((x5_1).toNat * 2)).block, (ad262.add ((x5_1).toNat * 2)).off + 1, none⟩ = some (.string ((rd_T113 l0 x5_1).f1))) (ds := [9]) #[false, false, false, false, false, false, false, false, false, false] (by kernel_rfl) rfl rfl ⟨(blk_cell BK261.out 0).trans rfl, (blk_cell BK261.out 1).trans rfl, ((HB.out.cell (World.block_lt_of_cell? w _ hw268_0)).trans hw268_0), ((HB.out.cell (World.block_lt_of_cell? w _ hw268_1)).trans hw268_1)⟩ (fun hHeld => ?_); refine with_tabW bulletinref14_cut.tab11 bulletinref14_cut.bits11 (fun HT_ HW_ => ?_)
        generalize wr.drew = w15 at HO_3 HO_262000 BK261 HB hx268_0 hx268_1 hHeld ⊢
        refine pure_ (i := 0) (N := some 40) (v := ?_) (a' := ?_) (bitsL 10 1) rfl rfl (any_of HT_.out (by kernel_rfl)) (fun _ _ _ h => h) (Or.inl ⟨by rfl, ?_⟩) ?_ ?_; rotate_left
        ·intro w'; go_simp; with_reducible rfl
        rotate_left
        ·simp only [Act.put, List.setIfInBounds_toArray, List.set_cons_zero, List.set_cons_succ, i64_w, i32_w]; rfl
        refine pure_ (i := 2) (N := some 42) (v := ?_) (a' := ?_) (bitsL 10 5) rfl rfl (any_of HT_.out (by kernel_rfl)) (fun _ _ _ h => h) (Or.inl ⟨by rfl, ?_⟩) ?_ ?_; rotate_left
        ·intro w'; go_simp; with_reducible rfl
        rotate_left
        ·simp only [Act.put, List.setIfInBounds_toArray, List.set_cons_zero, List.set_cons_succ, i64_w, i32_w]; rfl
        refine pure_ (i := 3) (N := some 43) (v := ?_) (a' := ?_) (bitsL 10 13) rfl rfl (any_of HT_.out (by kernel_rfl)) (fun _ _ _ h => h) (Or.inl ⟨by rfl, ?_⟩) ?_ ?_; rotate_left
        ·intro w'; go_simp; with_reducible rfl
        rotate_left
        ·simp only [Act.put, List.setIfInBounds_toArray, List.set_cons_zero, List.set_cons_succ, i64_w, i32_w]; rfl
        refine pure_ (i := 4) (N := some 44) (v := ?_) (a' := ?_) (bitsL 10 29) rfl rfl (any_of HT_.out (by kernel_rfl)) (fun _ _ _ h => h) (Or.inl ⟨by rfl, ?_⟩) ?_ ?_; rotate_left
        ·intro w'; go_simp; with_reducible rfl
        rotate_left
        ·simp only [Act.put, List.setIfInBounds_toArray, List.set_cons_zero, List.set_cons_succ, i64_w, i32_w]; rfl
        refine take_ (i := 1) (N := some 41) (v := ?_) (a' := ?_) (bitsL 10 31) rfl rfl (take_ofW HT_.out HW_.out (by kernel_rfl)) (fun _ _ _ h => h) (Or.inl ⟨by rfl, ?_⟩) hHeld ?_ ?_; rotate_left
        ·rintro w' ⟨s0, s1, s2, s3⟩; go_simp; with_reducible rfl
        rotate_left
        ·simp only [Act.put, List.setIfInBounds_toArray, List.set_cons_zero, List.set_cons_succ, i64_w, i32_w]; rfl
        refine take_ (i := 5) (N := some 45) (v := ?_) (a' := ?_) (bitsL 10 63) rfl rfl (take_ofW HT_.out HW_.out (by kernel_rfl)) (fun _ _ _ h => h) (Or.inl ⟨by rfl, ?_⟩) hHeld ?_ ?_; rotate_left
        ·rintro w' ⟨s0, s1, s2, s3⟩; go_simp; with_reducible rfl
        rotate_left
        ·simp only [Act.put, List.setIfInBounds_toArray, List.set_cons_zero, List.set_cons_succ, i64_w, i32_w]; rfl
        refine one_ (i := 6) (N := some 46) (bitsL 10 127) rfl rfl (one_of HT_.out (by kernel_rfl)) (by decide) (fun K hK => ?_); refine value_ (w1 := ?_) (v := ?_) (by rfl) rfl ?_ ?_; rotate_left 2
        ·go_simp
         constructor
         ·rfl
         rfl
        refine hK.out _ _ ⟨(blk_cell (blk_alloc BK261.out _) 0).trans rfl, (blk_cell (blk_alloc BK261.out _) 1).trans rfl, (World.cell?_alloc_lt _ _ _ (World.block_lt_of_cell? _ _ (((HB.out.cell (World.block_lt_of_cell? w _ hw268_0)).trans hw268_0)))).trans (((HB.out.cell (World.block_lt_of_cell? w _ hw268_0)).trans hw268_0)), (World.cell?_alloc_lt _ _ _ (World.block_lt_of_cell? _ _ (((HB.out.cell (World.block_lt_of_cell? w _ hw268_1)).trans hw268_1)))).trans (((HB.out.cell (World.block_lt_of_cell? w _ hw268_1)).trans hw268_1))⟩ (fun hHeld => ?_); clear hK K; refine norm_ (a' := ?_) ?_ ?_; rotate_left
        ·show Act.put _ (some 46) _ = _
         simp only [Act.put, List.setIfInBounds_toArray, List.set_cons_zero, List.set_cons_succ, i64_w, i32_w]; rfl
        refine one_ (i := 7) (N := some 47) (bitsL 10 255) rfl rfl (one_of HT_.out (by kernel_rfl)) (by decide) (fun K hK => ?_); refine Kd.R_append_step k113 (w0 := w) w.heap.size (by rfl) (.tmp 41) (.tmp 46) 67 113 (.agg #[(.int .i64 0), (.string ⟨#[]⟩)]) 24 rfl Tryd.underlying67 info113 rfl (by decide) (by omega) u262000 x262000_1 (⟨(rd_T113 l0 x5_1).f0, (rd_T113 l0 x5_1).f1⟩ : S113) [.int .i64 ((rd_T113 l0 x5_1).f0), .string ((rd_T113 l0 x5_1).f1)] (fun _ => True) (fun _ => False) rfl rfl ?aP (fun _ hk => hk.elim) ?aF ?aO ?aB ?aS ?aL ?_
        (case aP => exact k113_mkM _ _ _ (⟨(rd_T113 l0 x5_1).f0, (rd_T113 l0 x5_1).f1⟩ : S113))
        (case aB => exact bwS)
        (case aF => exact (fun _ _ => trivial))
        (case aO => exact (ra HO_262000.out))
        (case aS => exact (below_size bwS))
        (case aL => have := LMc14.out; omega)
        intro v270 w16 ho hb hg hat; rw [← Ny269.out] at ho; have n0_ := Aside0.mk (Kd.S_after (ok := (fun k_ => k_ ≠ gb261)) (by (with_reducible repeat (first | apply Kd.S_alloc | apply Kd.S_drewN | apply Kd.S_drew)); exact Kd.S_mono HO_3.out (fun _ hk => ⟨hk.2, hk.1⟩)) hg hat); have n1_ := Aside0.mk (blk_grown (g := gb261) (o := .cells #[u262000, .string x262001_1] 73 (0, 0)) bk hg (Kd.R_ne HO_262000.out BK261.out (by decide))); have n2_ := Aside0.mk (hb); have n3_ := Aside0.mk (ho); clear HO_3 BK261 HB HO_262000; have HO_3 := n0_; have BK261 := n1_; have HB := n2_; have HO271 := n3_; clear n0_ n1_ n2_ n3_ ho hb hg hat; obtain ⟨Ao17, co17, eo17⟩ := Kd.R_slice HO271.out
        (first | subst eo17 | (injection eo17 with f1_ f2_ f3_; have f4_ := f1_.symm; have f5_ := f3_.symm; clear f1_ f2_ f3_; subst f4_; subst f5_))
        refine hK.out _ _ ⟨(blk_cell BK261.out 0).trans rfl, (blk_cell BK261.out 1).trans rfl, ((HB.out.cell (World.block_lt_of_cell? w _ hw268_0)).trans hw268_0), ((HB.out.cell (World.block_lt_of_cell? w _ hw268_1)).trans hw268_1)⟩ (fun hHeld => ?_); clear hK K; refine norm_ (a' := ?_) ?_ ?_; rotate_left
        ·show Act.put _ (some 47) _ = _
         simp only [Act.put, List.setIfInBounds_toArray, List.set_cons_zero, List.set_cons_succ, i64_w, i32_w]; rfl
        refine pure_ (i := 8) (N := some 48) (v := ?_) (a' := ?_) (bitsL 10 511) rfl rfl (any_of HT_.out (by kernel_rfl)) (fun _ _ _ h => h) (Or.inl ⟨by rfl, ?_⟩) ?_ ?_; rotate_left
        ·intro w'; go_simp; with_reducible rfl
        rotate_left
        ·simp only [Act.put, List.setIfInBounds_toArray, List.set_cons_zero, List.set_cons_succ, i64_w, i32_w]; rfl
        refine last_ (i := 9) (N := none) (bitsL 10 1023) rfl rfl (one_of HT_.out (by kernel_rfl)) (by decide) (fun K hK => ?_); have hs18 : w16.cell? ⟨gb261, 0, none⟩ = some (u262000) := (blk_cell BK261.out 0).trans rfl; have hfs18 := blk_frozen BK261.out 0; refine skip_ (w1 := ?_) (by rfl) rfl ?_ ?_; rotate_left
        ·go_simp; rfl
        refine hK.out _ _ ?_; clear hK K; refine done_ (done_of HT_.out (by kernel_rfl)) ?_
        try go_wp2
        go_roundg k1
        case measure => have := HK1.out; omega
        case rel => exact ⟨(x3_1), (wrap64 (x5_1 + 1)), (y269), (x262001_1), (.slice Ao17 y269.length co17), cl, H', ⟨by have := HK1.out; omega⟩, ⟨by (with_reducible repeat (first | apply Kd.S_alloc | apply Kd.S_drewN | apply Kd.S_drew)); exact Kd.S_mono (Kd.S_far (p := ⟨gb261, 0, none⟩) (Kd.S_mono HO_3.out (fun k_ hk => (⟨hk, hk.1⟩ : _ ∧ k_ ≠ gb261))) (fun _ hk => hk.2) (.slice Ao17 y269.length co17)) (fun _ hk => ⟨hk.1.2, hk.1.1⟩)⟩, ⟨by (with_reducible repeat (first | apply Kd.R_alloc | apply Kd.R_drewN | apply Kd.R_drew)); exact Kd.R_mono (Kd.R_far (p := ⟨gb261, 0, none⟩) (Kd.R_types HO271.out BK261.out (by decide)) (fun _ hk => hk.2) (.slice Ao17 y269.length co17)) (fun _ hk => trivial)⟩, ⟨by (with_reducible repeat (first | refine blk_drewN ?_ _ | refine blk_drew ?_ | refine blk_alloc ?_ _)); exact blk_put (cs := #[u262000, .string x262001_1]) bk 0 _ rfl⟩, ⟨bwS⟩⟩
       rw [if_neg c14] at H; exact absurd H (by simp)
      rw [if_neg c13] at H; have c13b0 := beq_eq_false_iff_ne.mpr c13; have c13b1 := bne_iff_ne.mpr c13
      by_cases c19 : x3_1.length < 3518437208883
      ·rw [if_pos c19] at H; have LMc19 := Aside0.mk c19; clear c19; obtain ⟨y272, hy272⟩ : ∃ y_ : List (S73), y_ = (x3_1 ++ [(⟨x262000_1, (rd_T113 l0 x5_1).f1⟩ : S73)]) := ⟨_, rfl⟩
       replace H : (bulletinref14_cut.l0 k1 l0 y272 (wrap64 (x5_1 + 1)) ([] : List (S113)) (⟨#[]⟩ : ByteArray)) = some r := by first | (rw [hy272]; with_reducible exact H) | (have H2_ := (Option.bind_some _ _).symm.trans H; rw [hy272]; with_reducible exact H2_) | (have H2_ := (Option.bind_some _ _).symm.trans H; with_reducible exact H2_) | with_reducible exact H | (rw [hy272]; exact H) | exact H
       have Ny272 := Aside0.mk hy272; clear hy272; have H' := Aside0.mk H; clear H; have p262 : 0 ≤ (x5_1 : Int) := od; have q262 : x5_1 < (l0.length : Int) := od; obtain ⟨ad262, e262, hx262_0, hx262_1⟩ := at_T113 HR0.out x5_1 p262 q262; cases e262; replace hx262_0 := (HB.out.cell (World.block_lt_of_cell? w _ hx262_0)).trans hx262_0; replace hx262_1 := (HB.out.cell (World.block_lt_of_cell? w _ hx262_1)).trans hx262_1; replace p262 := eq_true p262; replace q262 := eq_true q262; have p263 : 0 ≤ (x5_1 : Int) := od; have q263 : x5_1 < (l0.length : Int) := od; obtain ⟨ad263, e263, hx263_0, hx263_1⟩ := at_T113 HR0.out x5_1 p263 q263; obtain rfl : ad262 = ad263 := (by injection e263)
       replace hx263_0 := (HB.out.cell (World.block_lt_of_cell? w _ hx263_0)).trans hx263_0; replace hx263_1 := (HB.out.cell (World.block_lt_of_cell? w _ hx263_1)).trans hx263_1; replace p263 := eq_true p263; replace q263 := eq_true q263; obtain ⟨hcz20_0, hcz20_1, hfz20_0, hfz20_1⟩ := bk2 BK261.out
       go_wp2_with (first | ((with_reducible refine gate_store (t := 9) (p := 34) rfl ?_); refine store_event (t := 9) (p := 34) (v := ?vo_w21) (w1 := (wr.setCell ⟨gb261, 1, none⟩ (.string ((rd_T113 l0 x5_1).f1)))) ?hg ?ho ?hn ?hr ?_; (case ho => rfl); (case hg => rfl); (case hn => rfl); (case hr => first | (go_simp; done) | (go_simp; rfl)); intro w21 hw; have n0_ : Aside0 (Kd.S k73 73 w21 w.heap.size (fun k_ => some k_ ≠ (u262000 : Value).ownBlock ∧ k_ ≠ gb261) u3 x3_1) := ⟨(by rw [hw]; exact (by (with_reducible repeat (first | apply Kd.S_alloc | apply Kd.S_drewN | apply Kd.S_drew)); exact Kd.S_mono (Kd.S_far (p := ⟨gb261, 1, none⟩) (Kd.S_mono HO_3.out (fun k_ hk => (⟨hk, hk.2⟩ : _ ∧ k_ ≠ gb261))) (fun _ hk => hk.2) (.string ((rd_T113 l0 x5_1).f1))) (fun _ hk => ⟨hk.1.1, hk.1.2⟩)))⟩; have n1_ : Aside0 (Kd.R k113 113 w21 w.heap.size (fun _ => True) u262000 x262000_1) := ⟨(by rw [hw]; exact (by (with_reducible repeat (first | apply Kd.R_alloc | apply Kd.R_drewN | apply Kd.R_drew)); exact Kd.R_mono (Kd.R_far (p := ⟨gb261, 1, none⟩) (Kd.R_types HO_262000.out BK261.out (by decide)) (fun _ hk => hk.2) (.string ((rd_T113 l0 x5_1).f1))) (fun _ hk => trivial)))⟩; have n2_ : Aside0 (w21.heap[gb261]? = some (.cells #[u262000, .string ((rd_T113 l0 x5_1).f1)] 73 (0, 0))) := ⟨(by rw [hw]; exact (by (with_reducible repeat (first | refine blk_drewN ?_ _ | refine blk_drew ?_ | refine blk_alloc ?_ _)); exact blk_put (cs := #[u262000, .string x262001_1]) bk 1 _ rfl))⟩; have n3_ : Aside0 (Below w.heap.size w w21) := ⟨(by rw [hw]; exact bwS)⟩; clear hw; clear HO_3; clear HO_262000; clear BK261; clear HB; have HO_3 := n0_; have HO_262000 := n1_; have BK261 := n2_; have HB := n3_; clear n0_ n1_ n2_ n3_; have hcz22_0 : w21.cell? ⟨gb261, 0, none⟩ = some (u262000) := (blk_cell BK261.out 0).trans rfl; have hcz22_1 : w21.cell? ⟨gb261, 1, none⟩ = some (.string ((rd_T113 l0 x5_1).f1)) := (blk_cell BK261.out 1).trans rfl; have hfz22_0 := blk_frozen BK261.out 0; have hfz22_1 := blk_frozen BK261.out 1; obtain ⟨Ao24, co24, eo24⟩ := Kd.R_slice HO_262000.out; subst eo24) | ((with_reducible refine gate_builtin (b := .append) (xs := #[.tmp 35, .tmp 37]) rfl ?_); at_builtin; refine Kd.S_append k73 (w0 := w) w.heap.size rfl (.tmp 35) (.tmp 37) 70 73 (.agg #[(.slice none 0 0), (.string ⟨#[]⟩)]) 40 rfl Tryd.underlying70 info73 rfl (by decide) (by omega) u3 x3_1 (⟨x262000_1, (rd_T113 l0 x5_1).f1⟩ : S73) [.slice Ao24 x262000_1.length co24, .string ((rd_T113 l0 x5_1).f1)] (fun k_ => k_ ≠ gb261) (fun k_ => some k_ = (.slice Ao24 x262000_1.length co24 : Value).ownBlock) rfl rfl ?aP (fun k_ hk_ => ((Kd.R_mono (ok' := fun k_ => ((fun k_ => k_ ≠ gb261)) k_ ∧ some k_ ≠ (u3 : Value).ownBlock) (Kd.R_types (Kd.R_apart' (HO_262000.out) (Kd.S_typed HO_3.out) (by decide)) BK261.out (by decide)) (fun k_ hk => ⟨hk.2, hk.1.2⟩))).1 k_ hk_.symm) ?aF ?aO ?aB ?aS ?aL ?_; (case aP => exact k73_mkM _ _ _ (⟨x262000_1, (rd_T113 l0 x5_1).f1⟩ : S73) (Kd.R_mono (Kd.R_tight rfl (Kd.R_mono (ok' := fun k_ => ((fun k_ => k_ ≠ gb261)) k_ ∧ some k_ ≠ (u3 : Value).ownBlock) (Kd.R_types (Kd.R_apart' (HO_262000.out) (Kd.S_typed HO_3.out) (by decide)) BK261.out (by decide)) (fun k_ hk => ⟨hk.2, hk.1.2⟩))) (fun _ h_ => h_))); (case aB => exact bwS); (case aF => exact (fun k_ hk => Kd.freshB (g := gb261) (o := .cells #[.slice Ao24 x262000_1.length co24, .string ((rd_T113 l0 x5_1).f1)] 73 (0, 0)) bk k_ hk)); (case aO => exact (by (with_reducible repeat (first | apply Kd.S_alloc | apply Kd.S_drewN | apply Kd.S_drew)); exact Kd.S_mono HO_3.out (fun k_ hk => ⟨hk.2, fun e_ => hk.1 e_⟩))); (case aS => exact (below_size bwS)); (case aL => have := LMc19.out; omega); intro v273 w23 ho hb hg hat; rw [← Ny272.out] at ho; have n0_ := Aside0.mk (blk_grown (g := gb261) (o := .cells #[.slice Ao24 x262000_1.length co24, .string ((rd_T113 l0 x5_1).f1)] 73 (0, 0)) bk hg (Kd.S_away HO_3.out (fun _ hk => hk.2))); have n1_ := Aside0.mk (hb); have n2_ := Aside0.mk (ho); clear BK261; clear HB; clear HO_3; clear HO_262000; have BK261 := n0_; have HB := n1_; have HO274 := n2_; clear n0_ n1_ n2_; clear ho hb hg hat; have hcz25_0 : w23.cell? ⟨gb261, 0, none⟩ = some (.slice Ao24 x262000_1.length co24) := (blk_cell BK261.out 0).trans rfl; have hcz25_1 : w23.cell? ⟨gb261, 1, none⟩ = some (.string ((rd_T113 l0 x5_1).f1)) := (blk_cell BK261.out 1).trans rfl; have hfz25_0 := blk_frozen BK261.out 0; have hfz25_1 := blk_frozen BK261.out 1))
       go_roundg k1
       case measure => have := HK1.out; omega
       case rel => exact ⟨(y272), (wrap64 (x5_1 + 1)), (([] : List (S113))), ((⟨#[]⟩ : ByteArray)), (.slice none 0 0), cl, H', ⟨by have := HK1.out; omega⟩, ⟨by (with_reducible repeat (first | apply Kd.S_alloc | apply Kd.S_drewN | apply Kd.S_drew)); exact Kd.S_mono (Kd.S_far (p := ⟨gb261, 1, none⟩) (Kd.S_far (p := ⟨gb261, 0, none⟩) (Kd.S_mono HO274.out (fun k_ hk => (⟨hk, hk⟩ : _ ∧ k_ ≠ gb261))) (fun _ hk => hk.2) (.slice none 0 0)) (fun _ hk => hk.2) (.string (⟨#[]⟩ : ByteArray))) (fun _ hk => ⟨(by simp [Value.ownBlock]), hk.1⟩)⟩, ⟨by first | exact Kd.R_nil _ _ _ _ _ | exact Kd.N_nil _ _ _ _ _ | exact Kd.V_nil _ _ _ _ _ | exact Kd.Q_nil _ _ _ _ _ | exact Kd.S_nil _ _ _ _ _⟩, ⟨by (with_reducible repeat (first | refine blk_drewN ?_ _ | refine blk_drew ?_ | refine blk_alloc ?_ _)); refine blk_put (cs := #[.slice none 0 0, .string ((rd_T113 l0 x5_1).f1)]) ?_ 1 _ rfl; (with_reducible repeat (first | refine blk_drewN ?_ _ | refine blk_drew ?_ | refine blk_alloc ?_ _)); exact blk_put (cs := #[.slice Ao24 x262000_1.length co24, .string ((rd_T113 l0 x5_1).f1)]) bk 0 _ rfl⟩, ⟨bwS⟩⟩
      rw [if_neg c19] at H; exact absurd H (by simp)
     rw [if_neg c6] at H; have c6b0 := beq_eq_false_iff_ne.mpr c6; have c6b1 := bne_iff_ne.mpr c6
     by_cases c26 : x262000_1.length < 5864062014805
     ·rw [if_pos c26] at H; have LMc26 := Aside0.mk c26; clear c26; obtain ⟨y276, hy276⟩ : ∃ y_ : List (S113), y_ = (x262000_1 ++ [(⟨(rd_T113 l0 x5_1).f0, (rd_T113 l0 x5_1).f1⟩ : S113)]) := ⟨_, rfl⟩
      replace H : (bulletinref14_cut.l0 k1 l0 x3_1 (wrap64 (x5_1 + 1)) y276 x262001_1) = some r := by first | (rw [hy276]; with_reducible exact H) | (have H2_ := (Option.bind_some _ _).symm.trans H; rw [hy276]; with_reducible exact H2_) | (have H2_ := (Option.bind_some _ _).symm.trans H; with_reducible exact H2_) | with_reducible exact H | (rw [hy276]; exact H) | exact H
      have Ny276 := Aside0.mk hy276; clear hy276; have H' := Aside0.mk H; clear H; have p262 : 0 ≤ (x5_1 : Int) := od; have q262 : x5_1 < (l0.length : Int) := od; obtain ⟨ad262, e262, hx262_0, hx262_1⟩ := at_T113 HR0.out x5_1 p262 q262; cases e262; replace hx262_0 := (HB.out.cell (World.block_lt_of_cell? w _ hx262_0)).trans hx262_0; replace hx262_1 := (HB.out.cell (World.block_lt_of_cell? w _ hx262_1)).trans hx262_1; replace p262 := eq_true p262; replace q262 := eq_true q262; have p263 : 0 ≤ (x5_1 : Int) := od; have q263 : x5_1 < (l0.length : Int) := od; obtain ⟨ad263, e263, hx263_0, hx263_1⟩ := at_T113 HR0.out x5_1 p263 q263; obtain rfl : ad262 = ad263 := (by injection e263)
      replace hx263_0 := (HB.out.cell (World.block_lt_of_cell? w _ hx263_0)).trans hx263_0; replace hx263_1 := (HB.out.cell (World.block_lt_of_cell? w _ hx263_1)).trans hx263_1; replace p263 := eq_true p263; replace q263 := eq_true q263
      try go_wp2
      have n0_ := Aside0.mk (Kd.S_drew HO_3.out); have n1_ := Aside0.mk (Kd.R_drew HO_262000.out); have n2_ := Aside0.mk (blk_drew BK261.out); have n3_ := Aside0.mk (below_drew1 HB.out); clear HO_3 HO_262000 BK261 HB; have HO_3 := n0_; have HO_262000 := n1_; have BK261 := n2_; have HB := n3_; clear n0_ n1_ n2_ n3_; have p275 : 0 ≤ (x5_1 : Int) := od; have q275 : x5_1 < (l0.length : Int) := od; obtain ⟨ad275, e275, hx275_0, hx275_1⟩ := at_T113 HR0.out x5_1 p275 q275; have hw275_1 := hx275_1; have hw275_0 := hx275_0; obtain rfl : ad262 = ad275 := (by injection e275)
      replace hx275_0 := (HB.out.cell (World.block_lt_of_cell? w _ hx275_0)).trans hx275_0; replace hx275_1 := (HB.out.cell (World.block_lt_of_cell? w _ hx275_1)).trans hx275_1; replace p275 := eq_true p275; replace q275 := eq_true q275; refine start_ (n := 10) (S := fun w' => w'.cell? ⟨gb261, 0, none⟩ = some (u262000) ∧ w'.cell? ⟨gb261, 1, none⟩ = some (.string x262001_1) ∧ w'.cell? (ad262.add ((x5_1).toNat * 2)) = some (.int .i64 ((rd_T113 l0 x5_1).f0)) ∧ w'.cell? ⟨(ad262.add ((x5_1).toNat * 2)).block, (ad262.add ((x5_1).toNat * 2)).off + 1, none⟩ = some (.string ((rd_T113 l0 x5_1).f1))) (ds := [9]) #[false, false, false, false, false, false, false, false, false, false] (by kernel_rfl) rfl rfl ⟨(blk_cell BK261.out 0).trans rfl, (blk_cell BK261.out 1).trans rfl, ((HB.out.cell (World.block_lt_of_cell? w _ hw275_0)).trans hw275_0), ((HB.out.cell (World.block_lt_of_cell? w _ hw275_1)).trans hw275_1)⟩ (fun hHeld => ?_); refine with_tabW bulletinref14_cut.tab11 bulletinref14_cut.bits11 (fun HT_ HW_ => ?_)
      generalize wr.drew = w27 at HO_3 HO_262000 BK261 HB hx275_0 hx275_1 hHeld ⊢
      refine pure_ (i := 0) (N := some 40) (v := ?_) (a' := ?_) (bitsL 10 1) rfl rfl (any_of HT_.out (by kernel_rfl)) (fun _ _ _ h => h) (Or.inl ⟨by rfl, ?_⟩) ?_ ?_; rotate_left
      ·intro w'; go_simp; with_reducible rfl
      rotate_left
      ·simp only [Act.put, List.setIfInBounds_toArray, List.set_cons_zero, List.set_cons_succ, i64_w, i32_w]; rfl
      refine pure_ (i := 2) (N := some 42) (v := ?_) (a' := ?_) (bitsL 10 5) rfl rfl (any_of HT_.out (by kernel_rfl)) (fun _ _ _ h => h) (Or.inl ⟨by rfl, ?_⟩) ?_ ?_; rotate_left
      ·intro w'; go_simp; with_reducible rfl
      rotate_left
      ·simp only [Act.put, List.setIfInBounds_toArray, List.set_cons_zero, List.set_cons_succ, i64_w, i32_w]; rfl
      refine pure_ (i := 3) (N := some 43) (v := ?_) (a' := ?_) (bitsL 10 13) rfl rfl (any_of HT_.out (by kernel_rfl)) (fun _ _ _ h => h) (Or.inl ⟨by rfl, ?_⟩) ?_ ?_; rotate_left
      ·intro w'; go_simp; with_reducible rfl
      rotate_left
      ·simp only [Act.put, List.setIfInBounds_toArray, List.set_cons_zero, List.set_cons_succ, i64_w, i32_w]; rfl
      refine pure_ (i := 4) (N := some 44) (v := ?_) (a' := ?_) (bitsL 10 29) rfl rfl (any_of HT_.out (by kernel_rfl)) (fun _ _ _ h => h) (Or.inl ⟨by rfl, ?_⟩) ?_ ?_; rotate_left
      ·intro w'; go_simp; with_reducible rfl
      rotate_left
      ·simp only [Act.put, List.setIfInBounds_toArray, List.set_cons_zero, List.set_cons_succ, i64_w, i32_w]; rfl
      refine take_ (i := 1) (N := some 41) (v := ?_) (a' := ?_) (bitsL 10 31) rfl rfl (take_ofW HT_.out HW_.out (by kernel_rfl)) (fun _ _ _ h => h) (Or.inl ⟨by rfl, ?_⟩) hHeld ?_ ?_; rotate_left
      ·rintro w' ⟨s0, s1, s2, s3⟩; go_simp; with_reducible rfl
      rotate_left
      ·simp only [Act.put, List.setIfInBounds_toArray, List.set_cons_zero, List.set_cons_succ, i64_w, i32_w]; rfl
      refine take_ (i := 5) (N := some 45) (v := ?_) (a' := ?_) (bitsL 10 63) rfl rfl (take_ofW HT_.out HW_.out (by kernel_rfl)) (fun _ _ _ h => h) (Or.inl ⟨by rfl, ?_⟩) hHeld ?_ ?_; rotate_left
      ·rintro w' ⟨s0, s1, s2, s3⟩; go_simp; with_reducible rfl
      rotate_left
      ·simp only [Act.put, List.setIfInBounds_toArray, List.set_cons_zero, List.set_cons_succ, i64_w, i32_w]; rfl
      refine one_ (i := 6) (N := some 46) (bitsL 10 127) rfl rfl (one_of HT_.out (by kernel_rfl)) (by decide) (fun K hK => ?_); refine value_ (w1 := ?_) (v := ?_) (by rfl) rfl ?_ ?_; rotate_left 2
      ·go_simp
       constructor
       ·rfl
       rfl
      refine hK.out _ _ ⟨(blk_cell (blk_alloc BK261.out _) 0).trans rfl, (blk_cell (blk_alloc BK261.out _) 1).trans rfl, (World.cell?_alloc_lt _ _ _ (World.block_lt_of_cell? _ _ (((HB.out.cell (World.block_lt_of_cell? w _ hw275_0)).trans hw275_0)))).trans (((HB.out.cell (World.block_lt_of_cell? w _ hw275_0)).trans hw275_0)), (World.cell?_alloc_lt _ _ _ (World.block_lt_of_cell? _ _ (((HB.out.cell (World.block_lt_of_cell? w _ hw275_1)).trans hw275_1)))).trans (((HB.out.cell (World.block_lt_of_cell? w _ hw275_1)).trans hw275_1))⟩ (fun hHeld => ?_); clear hK K; refine norm_ (a' := ?_) ?_ ?_; rotate_left
      ·show Act.put _ (some 46) _ = _
       simp only [Act.put, List.setIfInBounds_toArray, List.set_cons_zero, List.set_cons_succ, i64_w, i32_w]; rfl
      refine one_ (i := 7) (N := some 47) (bitsL 10 255) rfl rfl (one_of HT_.out (by kernel_rfl)) (by decide) (fun K hK => ?_); refine Kd.R_append_step k113 (w0 := w) w.heap.size (by rfl) (.tmp 41) (.tmp 46) 67 113 (.agg #[(.int .i64 0), (.string ⟨#[]⟩)]) 24 rfl Tryd.underlying67 info113 rfl (by decide) (by omega) u262000 x262000_1 (⟨(rd_T113 l0 x5_1).f0, (rd_T113 l0 x5_1).f1⟩ : S113) [.int .i64 ((rd_T113 l0 x5_1).f0), .string ((rd_T113 l0 x5_1).f1)] (fun _ => True) (fun _ => False) rfl rfl ?aP (fun _ hk => hk.elim) ?aF ?aO ?aB ?aS ?aL ?_
      (case aP => exact k113_mkM _ _ _ (⟨(rd_T113 l0 x5_1).f0, (rd_T113 l0 x5_1).f1⟩ : S113))
      (case aB => exact bwS)
      (case aF => exact (fun _ _ => trivial))
      (case aO => exact (ra HO_262000.out))
      (case aS => exact (below_size bwS))
      (case aL => have := LMc26.out; omega)
      intro v277 w28 ho hb hg hat; rw [← Ny276.out] at ho; have n0_ := Aside0.mk (Kd.S_after (ok := (fun k_ => k_ ≠ gb261)) (by (with_reducible repeat (first | apply Kd.S_alloc | apply Kd.S_drewN | apply Kd.S_drew)); exact Kd.S_mono HO_3.out (fun _ hk => ⟨hk.2, hk.1⟩)) hg hat); have n1_ := Aside0.mk (blk_grown (g := gb261) (o := .cells #[u262000, .string x262001_1] 73 (0, 0)) bk hg (Kd.R_ne HO_262000.out BK261.out (by decide))); have n2_ := Aside0.mk (hb); have n3_ := Aside0.mk (ho); clear HO_3 BK261 HB HO_262000; have HO_3 := n0_; have BK261 := n1_; have HB := n2_; have HO278 := n3_; clear n0_ n1_ n2_ n3_ ho hb hg hat; obtain ⟨Ao29, co29, eo29⟩ := Kd.R_slice HO278.out
      (first | subst eo29 | (injection eo29 with f1_ f2_ f3_; have f4_ := f1_.symm; have f5_ := f3_.symm; clear f1_ f2_ f3_; subst f4_; subst f5_))
      refine hK.out _ _ ⟨(blk_cell BK261.out 0).trans rfl, (blk_cell BK261.out 1).trans rfl, ((HB.out.cell (World.block_lt_of_cell? w _ hw275_0)).trans hw275_0), ((HB.out.cell (World.block_lt_of_cell? w _ hw275_1)).trans hw275_1)⟩ (fun hHeld => ?_); clear hK K; refine norm_ (a' := ?_) ?_ ?_; rotate_left
      ·show Act.put _ (some 47) _ = _
       simp only [Act.put, List.setIfInBounds_toArray, List.set_cons_zero, List.set_cons_succ, i64_w, i32_w]; rfl
      refine pure_ (i := 8) (N := some 48) (v := ?_) (a' := ?_) (bitsL 10 511) rfl rfl (any_of HT_.out (by kernel_rfl)) (fun _ _ _ h => h) (Or.inl ⟨by rfl, ?_⟩) ?_ ?_; rotate_left
      ·intro w'; go_simp; with_reducible rfl
      rotate_left
      ·simp only [Act.put, List.setIfInBounds_toArray, List.set_cons_zero, List.set_cons_succ, i64_w, i32_w]; rfl
      refine last_ (i := 9) (N := none) (bitsL 10 1023) rfl rfl (one_of HT_.out (by kernel_rfl)) (by decide) (fun K hK => ?_); have hs30 : w28.cell? ⟨gb261, 0, none⟩ = some (u262000) := (blk_cell BK261.out 0).trans rfl; have hfs30 := blk_frozen BK261.out 0; refine skip_ (w1 := ?_) (by rfl) rfl ?_ ?_; rotate_left
      ·go_simp; rfl
      refine hK.out _ _ ?_; clear hK K; refine done_ (done_of HT_.out (by kernel_rfl)) ?_
      try go_wp2
      go_roundg k1
      case measure => have := HK1.out; omega
      case rel => exact ⟨(x3_1), (wrap64 (x5_1 + 1)), (y276), (x262001_1), (.slice Ao29 y276.length co29), cl, H', ⟨by have := HK1.out; omega⟩, ⟨by (with_reducible repeat (first | apply Kd.S_alloc | apply Kd.S_drewN | apply Kd.S_drew)); exact Kd.S_mono (Kd.S_far (p := ⟨gb261, 0, none⟩) (Kd.S_mono HO_3.out (fun k_ hk => (⟨hk, hk.1⟩ : _ ∧ k_ ≠ gb261))) (fun _ hk => hk.2) (.slice Ao29 y276.length co29)) (fun _ hk => ⟨hk.1.2, hk.1.1⟩)⟩, ⟨by (with_reducible repeat (first | apply Kd.R_alloc | apply Kd.R_drewN | apply Kd.R_drew)); exact Kd.R_mono (Kd.R_far (p := ⟨gb261, 0, none⟩) (Kd.R_types HO278.out BK261.out (by decide)) (fun _ hk => hk.2) (.slice Ao29 y276.length co29)) (fun _ hk => trivial)⟩, ⟨by (with_reducible repeat (first | refine blk_drewN ?_ _ | refine blk_drew ?_ | refine blk_alloc ?_ _)); exact blk_put (cs := #[u262000, .string x262001_1]) bk 0 _ rfl⟩, ⟨bwS⟩⟩
     rw [if_neg c26] at H; exact absurd H (by simp)
    rw [if_neg c5] at H; exact absurd H (by simp)
   rw [if_neg c4] at H; have c4b0 := decide_eq_false c4; clear c4
   by_cases c31 : x3_1.length < 3518437208883
   ·rw [if_pos c31] at H; have LMc31 := Aside0.mk c31; clear c31; obtain ⟨y279, hy279⟩ : ∃ y_ : List (S73), y_ = (x3_1 ++ [(⟨x262000_1, x262001_1⟩ : S73)]) := ⟨_, rfl⟩
    replace H : (some y279) = some r := by first | (rw [hy279]; with_reducible exact H) | (have H2_ := (Option.bind_some _ _).symm.trans H; rw [hy279]; with_reducible exact H2_) | (have H2_ := (Option.bind_some _ _).symm.trans H; with_reducible exact H2_) | with_reducible exact H | (rw [hy279]; exact H) | exact H
    have Ny279 := Aside0.mk hy279; clear hy279; obtain rfl := Option.some.inj H; obtain ⟨hcz32_0, hcz32_1, hfz32_0, hfz32_1⟩ := bk2 BK261.out; obtain ⟨Ao34, co34, eo34⟩ := Kd.R_slice HO_262000.out; subst eo34
    go_wp2_with (first | ((with_reducible refine gate_builtin (b := .append) (xs := #[.tmp 49, .tmp 51]) rfl ?_); at_builtin; refine Kd.S_append k73 (w0 := w) w.heap.size rfl (.tmp 49) (.tmp 51) 70 73 (.agg #[(.slice none 0 0), (.string ⟨#[]⟩)]) 40 rfl Tryd.underlying70 info73 rfl (by decide) (by omega) u3 x3_1 (⟨x262000_1, x262001_1⟩ : S73) [.slice Ao34 x262000_1.length co34, .string x262001_1] (fun k_ => k_ ≠ gb261) (fun k_ => some k_ = (.slice Ao34 x262000_1.length co34 : Value).ownBlock) rfl rfl ?aP (fun k_ hk_ => ((Kd.R_mono (ok' := fun k_ => ((fun k_ => k_ ≠ gb261)) k_ ∧ some k_ ≠ (u3 : Value).ownBlock) (Kd.R_types (Kd.R_apart' (HO_262000.out) (Kd.S_typed HO_3.out) (by decide)) BK261.out (by decide)) (fun k_ hk => ⟨hk.2, hk.1.2⟩))).1 k_ hk_.symm) ?aF ?aO ?aB ?aS ?aL ?_; (case aP => exact k73_mkM _ _ _ (⟨x262000_1, x262001_1⟩ : S73) (Kd.R_mono (Kd.R_tight rfl (Kd.R_mono (ok' := fun k_ => ((fun k_ => k_ ≠ gb261)) k_ ∧ some k_ ≠ (u3 : Value).ownBlock) (Kd.R_types (Kd.R_apart' (HO_262000.out) (Kd.S_typed HO_3.out) (by decide)) BK261.out (by decide)) (fun k_ hk => ⟨hk.2, hk.1.2⟩))) (fun _ h_ => h_))); (case aB => exact bwS); (case aF => exact (fun k_ hk => Kd.freshB (g := gb261) (o := .cells #[.slice Ao34 x262000_1.length co34, .string x262001_1] 73 (0, 0)) bk k_ hk)); (case aO => exact (by (with_reducible repeat (first | apply Kd.S_alloc | apply Kd.S_drewN | apply Kd.S_drew)); exact Kd.S_mono HO_3.out (fun k_ hk => ⟨hk.2, fun e_ => hk.1 e_⟩))); (case aS => exact (below_size bwS)); (case aL => have := LMc31.out; omega); intro v280 w33 ho hb hg hat; rw [← Ny279.out] at ho; have n0_ := Aside0.mk (blk_grown (g := gb261) (o := .cells #[.slice Ao34 x262000_1.length co34, .string x262001_1] 73 (0, 0)) bk hg (Kd.S_away HO_3.out (fun _ hk => hk.2))); have n1_ := Aside0.mk (hb); have n2_ := Aside0.mk (ho); clear BK261; clear HB; clear HO_3; clear HO_262000; have BK261 := n0_; have HB := n1_; have HO281 := n2_; clear n0_ n1_ n2_; clear ho hb hg hat))
    go_ret
    exact ⟨_, ew, sa (Kd.S_mono HO281.out (fun _ hk => trivial)), bwS⟩
   rw [if_neg c31] at H; exact absurd H (by simp)

def bulletinref14_words.l0 : Nat → ByteArray → Int → List (S113) → ByteArray → Option (ByteArray × Bool)
 | 0, _, _, _, _ => none
 | k + 1, x4, x5, x283000, x283001 => if x5 < (x283000.length : Int) then (if 0 ≤ x5 then (if ((rd_T113 x283000 x5).f0) = 3 then (some ((⟨#[]⟩ : ByteArray), false)) else (if x5 > 0 then (if x4.size + 1 ≤ 9223372036854775807 then (if (x4 ++ (⟨#[32]⟩ : ByteArray)).size + ((rd_T113 x283000 x5).f1).size ≤ 9223372036854775807 then (bulletinref14_words.l0 k ((x4 ++ (⟨#[32]⟩ : ByteArray)) ++ ((rd_T113 x283000 x5).f1)) (wrap64 (x5 + 1)) x283000 x283001) else (none)) else (none)) else (if x4.size + ((rd_T113 x283000 x5).f1).size ≤ 9223372036854775807 then (bulletinref14_words.l0 k (x4 ++ ((rd_T113 x283000 x5).f1)) (wrap64 (x5 + 1)) x283000 x283001) else (none)))) else (none)) else (some (x4, true))
def bulletinref14_words.f (k : Nat) (l0_0 : List (S113)) (a0_1 : ByteArray) : Option (ByteArray × Bool) := bulletinref14_words.l0 k (⟨#[]⟩ : ByteArray) 0 l0_0 a0_1
set_option maxHeartbeats 8000000 in
set_option maxRecDepth 100000 in
theorem bulletinref14_words.calls (k : Nat) (A0_0 : Option Addr) (c0_0 : Nat) (l0_0 : List (S113)) (a0_1 : ByteArray) (r1 : ByteArray) (r2 : Bool) (w : World) (hr0_0 : Kd.C k113 w A0_0 l0_0.length l0_0) (hc0_0 : l0_0.length ≤ c0_0) (h : bulletinref14_words.f k l0_0 a0_1 = some (r1, r2)) :
  Calls Tryd.prog 38 #[.agg #[.slice A0_0 l0_0.length c0_0, .string a0_1]] w fun e w' => e = .returned (.tuple #[.string r1, .bool r2]) ∧ Below w.heap.size w w' := by
 have hu73 := Tryd.underlying73; have HR0_0 := Aside0.mk hr0_0; have HC0_0 := Aside0.mk hc0_0; clear hr0_0 hc0_0; have HB := Aside0.mk (Below.refl w.heap.size w); have H : (bulletinref14_words.l0 k (⟨#[]⟩ : ByteArray) 0 l0_0 a0_1) = some (r1, r2) := h; clear h; have H' := Aside0.mk H; clear H
 go_enter Tryd.func38, Tryd.ntmps38
 go_wp2_with (first | ((with_reducible refine gate_dst (N := 1) rfl ?_); refine box_event ?hg (N := 1) ?hd (cs := #[.slice A0_0 l0_0.length c0_0, .string a0_1]) (t := 73) ?hr ?_; (case hd => rfl); (case hg => rfl); (case hr => first | (go_simp; done) | (go_simp; rfl)); intro gb282 hg w2 hbox hb; have n0_ := Aside0.mk (below_step bw hb); have n1_ := Aside0.mk (hbox); have n2_ := Aside0.mk ((by rw [hg]; exact (below_size bw) : w.heap.size ≤ gb282)); have n3_ := Aside0.mk ((by rw [hg]; exact (below_size bw) : w.heap.size ≤ gb282)); clear HB; have HB := n0_; have BK282 := n1_; have GW282 := n2_; have GE282 := n3_; clear n0_ n1_ n2_ n3_; clear hb hbox hg))
 go_loopg [4, 5] k (fun kq v4 v5 w' => ∃ (x4_1 : ByteArray) (x5_1 : Int), v4 = .string x4_1 ∧ v5 = .int .i64 x5_1 ∧ Aside0 (bulletinref14_words.l0 kq x4_1 x5_1 l0_0 a0_1 = some (r1, r2)) ∧ Aside0 (kq ≤ k) ∧ Aside0 (w'.heap[gb282]? = some (.cells #[(.slice A0_0 l0_0.length c0_0), .string a0_1] 73 (0, 0))) ∧ Aside0 (Below w.heap.size w w'))
 case atStart => exact ⟨((⟨#[]⟩ : ByteArray)), (0), cl, cl, H', ⟨Nat.le_refl _⟩, ⟨bk⟩, ⟨bwS⟩⟩
 case round =>
  clear H'
  try clear p2
  obtain ⟨x4_1, x5_1, rfl, rfl, HA, HK1, BK282, HB⟩ := hrel; cases gk with
  | zero => exact absurd HA.out (by simp [bulletinref14_words.l0])
  | succ k1 =>
   have H := HA.out; clear HA; simp only [bulletinref14_words.l0] at H
   by_cases c3 : x5_1 < (l0_0.length : Int)
   ·rw [if_pos c3] at H; have c3b0 := decide_eq_true c3; clear c3
    by_cases c4 : 0 ≤ x5_1
    ·rw [if_pos c4] at H; have c4b0 := decide_eq_true c4; clear c4
     by_cases c5 : ((rd_T113 l0_0 x5_1).f0) = 3
     ·rw [if_pos c5] at H; have c5b0 := beq_iff_eq.mpr c5; have c5b1 := bne_eq_false_iff_eq.mpr c5; clear c5; simp only [Option.some.injEq, Prod.mk.injEq] at H; obtain ⟨rfl, rfl⟩ := H; obtain ⟨hcz6_0, hcz6_1, hfz6_0, hfz6_1⟩ := bk2 BK282.out; have p283 : 0 ≤ (x5_1 : Int) := od; have q283 : x5_1 < (l0_0.length : Int) := od; obtain ⟨ad283, e283, hx283_0, hx283_1⟩ := at_T113 HR0_0.out x5_1 p283 q283; cases e283; replace hx283_0 := (HB.out.cell (World.block_lt_of_cell? w _ hx283_0)).trans hx283_0; replace hx283_1 := (HB.out.cell (World.block_lt_of_cell? w _ hx283_1)).trans hx283_1; replace p283 := eq_true p283; replace q283 := eq_true q283
      go_wp2
      go_ret2
      exact ⟨ew, bwS⟩
     rw [if_neg c5] at H; have c5b0 := beq_eq_false_iff_ne.mpr c5; have c5b1 := bne_iff_ne.mpr c5
     by_cases c7 : x5_1 > 0
     ·rw [if_pos c7] at H; have c7b0 : decide (0 < x5_1) = true := decide_eq_true c7; clear c7
      by_cases c8 : x4_1.size + 1 ≤ 9223372036854775807
      ·rw [if_pos c8] at H; have c8b0 := eq_true c8; have c8b1 := decide_eq_true c8
       try have c8b2 : (9223372036854775807 < x4_1.size + 1) = False := eq_false (Nat.not_lt.2 c8)
       by_cases c9 : (x4_1 ++ (⟨#[32]⟩ : ByteArray)).size + ((rd_T113 l0_0 x5_1).f1).size ≤ 9223372036854775807
       ·rw [if_pos c9] at H; have c9b0 := eq_true c9; have c9b1 := decide_eq_true c9
        try have c9b2 : (9223372036854775807 < (x4_1 ++ (⟨#[32]⟩ : ByteArray)).size + ((rd_T113 l0_0 x5_1).f1).size) = False := eq_false (Nat.not_lt.2 c9)
        try (have c9b3 := c9; simp only [ByteArray.size_append, size_lit, ByteArray.size_extract, List.size_toArray, List.length_cons, List.length_nil, Nat.zero_add, Nat.reduceAdd] at c9b3; have c9b4 := eq_false (Nat.not_lt.2 c9b3))
        have H' := Aside0.mk H; clear H; obtain ⟨hcz10_0, hcz10_1, hfz10_0, hfz10_1⟩ := bk2 BK282.out; have p283 : 0 ≤ (x5_1 : Int) := od; have q283 : x5_1 < (l0_0.length : Int) := od; obtain ⟨ad283, e283, hx283_0, hx283_1⟩ := at_T113 HR0_0.out x5_1 p283 q283; cases e283; replace hx283_0 := (HB.out.cell (World.block_lt_of_cell? w _ hx283_0)).trans hx283_0; replace hx283_1 := (HB.out.cell (World.block_lt_of_cell? w _ hx283_1)).trans hx283_1; replace p283 := eq_true p283; replace q283 := eq_true q283; have p284 : 0 ≤ (x5_1 : Int) := od; have q284 : x5_1 < (l0_0.length : Int) := od; obtain ⟨ad284, e284, hx284_0, hx284_1⟩ := at_T113 HR0_0.out x5_1 p284 q284; obtain rfl : ad283 = ad284 := (by injection e284)
        replace hx284_0 := (HB.out.cell (World.block_lt_of_cell? w _ hx284_0)).trans hx284_0; replace hx284_1 := (HB.out.cell (World.block_lt_of_cell? w _ hx284_1)).trans hx284_1; replace p284 := eq_true p284; replace q284 := eq_true q284
        go_wp2
        go_roundg k1
        case measure => have := HK1.out; omega
        case rel => exact ⟨((x4_1 ++ (⟨#[32]⟩ : ByteArray)) ++ ((rd_T113 l0_0 x5_1).f1)), (wrap64 (x5_1 + 1)), cl, cl, H', ⟨by have := HK1.out; omega⟩, ⟨bk⟩, ⟨bwS⟩⟩
       rw [if_neg c9] at H; exact absurd H (by simp)
      rw [if_neg c8] at H; exact absurd H (by simp)
     rw [if_neg c7] at H; have c7b0 : decide (0 < x5_1) = false := decide_eq_false c7; clear c7
     by_cases c11 : x4_1.size + ((rd_T113 l0_0 x5_1).f1).size ≤ 9223372036854775807
     ·rw [if_pos c11] at H; have c11b0 := eq_true c11; have c11b1 := decide_eq_true c11
      try have c11b2 : (9223372036854775807 < x4_1.size + ((rd_T113 l0_0 x5_1).f1).size) = False := eq_false (Nat.not_lt.2 c11)
      have H' := Aside0.mk H; clear H; obtain ⟨hcz12_0, hcz12_1, hfz12_0, hfz12_1⟩ := bk2 BK282.out; have p283 : 0 ≤ (x5_1 : Int) := od; have q283 : x5_1 < (l0_0.length : Int) := od; obtain ⟨ad283, e283, hx283_0, hx283_1⟩ := at_T113 HR0_0.out x5_1 p283 q283; cases e283; replace hx283_0 := (HB.out.cell (World.block_lt_of_cell? w _ hx283_0)).trans hx283_0; replace hx283_1 := (HB.out.cell (World.block_lt_of_cell? w _ hx283_1)).trans hx283_1; replace p283 := eq_true p283; replace q283 := eq_true q283; have p285 : 0 ≤ (x5_1 : Int) := od; have q285 : x5_1 < (l0_0.length : Int) := od; obtain ⟨ad285, e285, hx285_0, hx285_1⟩ := at_T113 HR0_0.out x5_1 p285 q285; obtain rfl : ad283 = ad285 := (by injection e285)
      replace hx285_0 := (HB.out.cell (World.block_lt_of_cell? w _ hx285_0)).trans hx285_0; replace hx285_1 := (HB.out.cell (World.block_lt_of_cell? w _ hx285_1)).trans hx285_1; replace p285 := eq_true p285; replace q285 := eq_true q285
      go_wp2
      go_roundg k1
      case measure => have := HK1.out; omega
      case rel => exact ⟨(x4_1 ++ ((rd_T113 l0_0 x5_1).f1)), (wrap64 (x5_1 + 1)), cl, cl, H', ⟨by have := HK1.out; omega⟩, ⟨bk⟩, ⟨bwS⟩⟩
     rw [if_neg c11] at H; exact absurd H (by simp)
    rw [if_neg c4] at H; exact absurd H (by simp)
   rw [if_neg c3] at H; have c3b0 := decide_eq_false c3; clear c3; simp only [Option.some.injEq, Prod.mk.injEq] at H; obtain ⟨rfl, rfl⟩ := H; obtain ⟨hcz13_0, hcz13_1, hfz13_0, hfz13_1⟩ := bk2 BK282.out
   go_wp2
   go_ret2
   exact ⟨ew, bwS⟩

end Go.Proofs.YtihabmcaplnbcaaDoor.Fn
