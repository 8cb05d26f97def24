/- A part of the proof of this sentence: the tables of unicode/utf8, of math/bits and of internal/strconv are as the program's text lays them. -/
import Derived.Test.YtoikneogdbdplaaDoorCMimeJoins1
import Derived.Shelf.Strings.BuilderRune
import Derived.BigCall
import Derived.Test.YtoikneogdbdplaaDoorCMimeJoinsWMore
import Derived.RangeFuncNested
import Derived.RangeFuncBound
import Derived.RangeFuncCalls
import Derived.RangeFuncLeaves
import Derived.Shelf.Abstract
import Derived.Shelf.RegionOpen
import Derived.WalkKit
import Derived.OwnWalkIn
import Derived.TacticsInMore
import Derived.LoopNIn
import Derived.LoopIn
import Derived.Maps.AppendAt
import Derived.Shelf.Strings.SlTrimAscii
set_option linter.unusedVariables false
set_option linter.unusedSimpArgs false
namespace Go.Proofs.YtoikneogdbdplaaDoor.Fn
open Go.RowKit Go.Proofs.YtoikneogdbdplaaDoorW.PrintWords

theorem hid {p : Prop} (h : p) : Hid p := h

theorem strings_at {w : World} {A : Option Addr} {n : Nat} {l : List ByteArray} (h : Kd.C Kd.string w A n l) (hp : 0 < n) :
    ∃ bk o, A = some ⟨bk, o, none⟩ ∧ bk < w.heap.size ∧ ∀ (j : Nat) x, l[j]? = some x → w.cell? ⟨bk, o + j, none⟩ = some (.string x) := by
  have hn : l.length = n := h.1
  obtain ⟨ad, rfl, hc⟩ := h.2.2 hp
  have hc' : ∀ (j : Nat) x, l[j]? = some x → w.cell? (ad.add j) = some (.string x) := by
    intro j x hx
    obtain ⟨c, _, hk, hu⟩ := hc j x hx
    have hk' : c = [.string x] := hk
    subst hk'
    have := hu 0 (.string x) rfl
    simpa [Kd.string, Kd.scalar] using this
  obtain ⟨b, off, spot⟩ := ad
  have h0 : ∃ x, l[0]? = some x := ⟨l[0]'(by omega), by simp⟩
  obtain ⟨x0, hx0⟩ := h0
  have e0 := hc' 0 x0 hx0
  have hspot : spot = none := by simpa [Addr.add] using World.cell?_spot e0
  subst hspot
  refine ⟨b, off, rfl, ?_, fun j x hx => ?_⟩
  · exact World.block_lt_of_cell? w ⟨b, off, none⟩ (by simpa [Addr.add] using e0)
  · rw [← Go.WideShapes.add_plain]
    exact hc' j x hx

/-! The builder's methods, over a builder that the call itself has made. -/
theorem infoByte : (Tryd.prog.info? 5).map (fun i => (i.zero, i.size, i.bytes)) = some (some (.int .u8 0), 1, 1) := by kernel_rfl
theorem sizeBuilder : (Tryd.prog.info? 118).map (·.size) = some 2 := by kernel_rfl
theorem liesBuilder : liesAt Tryd.prog Tryd.prog.depth 118 (2 / Tryd.prog.cellsOf 118) 0 118 1 = true := by kernel_rfl
def bdAt (B b : Nat) (bs : List Value) (w : World) : Prop := Lib.BuilderAtF 118 5 B b (.pointer (some ⟨b, 0, none⟩)) bs w
def isBd (B b : Nat) (bs : List Value) (w : World) : Prop := Lib.IsBuilderF 118 5 B b bs w
def kept (b : Nat) (w w' : World) : Prop := Lib.OthersKept 5 (some b) w w'
theorem bdAt.is {B b : Nat} {bs : List Value} {w : World} (h : bdAt B b bs w) : isBd B b bs w := .inr h

set_option maxRecDepth 100000 in
theorem bd_check (B b : Nat) (bs : List Value) (w : World) (h : isBd B b bs w) :
    Calls Tryd.prog 111 #[.pointer (some ⟨b, 0, none⟩)] w fun e w' => e = .returned (.tuple #[]) ∧ bdAt B b bs w' ∧ Below B w w' ∧ kept b w w' := by
  obtain ⟨j, hj, hjs⟩ := Option.map_eq_some_iff.1 sizeBuilder
  rcases h with h | h
  · have c0 := h.cell0
    have sh := h.shape
    have f0 := h.frozen0
    go_enter Tryd.func111, Tryd.ntmps111
    go_wp2
    rw [Lib.run_to_unsafe w ⟨b, 0, none⟩ Tryd.underlying115 Tryd.underlying160 hj (by rw [hjs]; decide) sh (Nat.zero_lt_succ 1)]
    simp only [Result.andThen]
    rw [Oper.upon_value]
    go_wp2
    rw [run_callFunc_extern Tryd.func140 (by kernel_rfl) (by kernel_rfl) (by kernel_rfl) (e := Extern.AbiNoEscape.same) (by kernel_rfl)]
    rw [Lib.run_noEscape]
    simp only [Result.andThen]
    rw [Oper.upon_value]
    go_wp2
    rw [Lib.run_from_unsafe w ⟨b, 0, none⟩ Tryd.underlying160 Tryd.underlying115 hj sh liesBuilder]
    simp only [Result.andThen]
    rw [Oper.upon_value]
    go_wp2
    go_end0
    exact ⟨rfl, h.used _, (Below.refl B w).setCell (p := ⟨b, 0, none⟩) h.1 _, (Lib.OthersKept.refl _ _ w).setCell ⟨b, 0, none⟩ rfl _⟩
  · have c0 := h.cell0
    go_enter Tryd.func111, Tryd.ntmps111
    go_wp2
    rw [Lib.run_neq_ptr_same w _ Tryd.underlying115 hj]
    go_wp2
    go_end0
    exact ⟨rfl, h, Below.refl B _, Lib.OthersKept.refl _ _ _⟩

set_option maxHeartbeats 2000000 in
set_option maxRecDepth 100000 in
theorem bd_byte (B b : Nat) (bs : List Value) (c : Int) (w : World) (h : isBd B b bs w) (hlen : bs.length + 1 ≤ 140737488355328) (hBw : B ≤ w.heap.size) :
    Calls Tryd.prog 101 #[.pointer (some ⟨b, 0, none⟩), .int .u8 c] w fun e w' => e = .returned .nilIface ∧ bdAt B b (bs ++ [.int .u8 c]) w' ∧ Below B w w' ∧ kept b w w' := by
  obtain ⟨i0, hi, hz0, hz1, hz2⟩ := info_parts infoByte
  go_enter Tryd.func101, Tryd.ntmps101
  go_wp2_with (go_at_call 111; refine (bd_check B b bs _ h).mono ?_)
  rintro e w1 ⟨rfl, h1, hb1, hk1⟩
  obtain ⟨hB, v, hbk, hown, hne⟩ := h1
  have c0 : w1.cell? ⟨b, 0, none⟩ = some (.pointer (some ⟨b, 0, none⟩)) := by rw [Lib.cell_of_heap hbk]; rfl
  have c1 : w1.cell? ⟨b, 1, none⟩ = some v := by rw [Lib.cell_of_heap hbk]; rfl
  go_wp2_with (at_builtin; refine wpList_append_ownF _ rfl _ _ 116 rfl B 5 i0 (.int .u8 0) 1 1 Tryd.underlying116 hi hz0 hz1 hz2 rfl (by decide) _ _ _ rfl (hown.alloc _) ⟨w1.heap.size, 0, none⟩ 1 1 [.int .u8 c] rfl rfl ?c1 ?c2 ?c3 ?c4 ?c5 ?_)
  case c1 =>
    intro j u hj
    match j, hj with
    | 0, hj => simp at hj; subst hj; simp [Addr.add]
  case c2 => intro u hu; simp at hu; subst hu; rfl
  case c3 => unfold maxLen; omega
  case c4 => omega
  case c5 => have := hb1.size; simp; omega
  intro v' w2 hown' hgrow _
  have hlt : b < w1.heap.size := by
    rcases Nat.lt_or_ge b w1.heap.size with h' | h'
    · exact h'
    · simp [Array.getElem?_eq_none h'] at hbk
  have hb2 : w2.heap[b]? = some (.cells #[.pointer (some ⟨b, 0, none⟩), v] 118 (0, 0)) := by
    rw [hgrow.block b (by simp; omega) (fun e => hne e.symm), Lib.alloc_old w1 _ b hlt]
    exact hbk
  have d0 : w2.cell? ⟨b, 0, none⟩ = some (.pointer (some ⟨b, 0, none⟩)) := by rw [Lib.cell_of_heap hb2]; rfl
  have d1 : w2.cell? ⟨b, 1, none⟩ = some v := by rw [Lib.cell_of_heap hb2]; rfl
  have f1 : w2.frozen? ⟨b, 1, none⟩ = false := Lib.frozen_of_heap hb2 1
  obtain ⟨g, cap, rfl⟩ : ∃ g cap, v' = .slice (some ⟨g, 0, none⟩) (bs.length + 1) cap := by
    rcases hown'.2 with ⟨_, h0⟩ | ⟨g, cap, cur, fz, hv, _⟩
    · omega
    · exact ⟨g, cap, hv⟩
  go_wp2
  go_ret
  refine ⟨rfl, ?_, ?_, ((hk1.alloc _).grown hgrow (Lib.ownsRowF_kind (hown.alloc _))).setCell ⟨b, 1, none⟩ rfl _⟩
  · exact Lib.BuilderAtF.put (T := 118) (e := 5) hB hb2 (bs' := bs ++ [.int .u8 c]) (by simpa using hown') (by decide)
  · exact ((hb1.alloc (by have := hb1.size; omega) _).grown hgrow (by have := hb1.size; simp; omega) (fun k hk => (hown.lt k hk).1)).setCell (p := ⟨b, 1, none⟩) hB _

set_option maxHeartbeats 2000000 in
set_option maxRecDepth 100000 in
theorem bd_string (B b : Nat) (bs : List Value) (s : ByteArray) (w : World) (h : isBd B b bs w) (hlen : bs.length + s.size ≤ 140737488355328) (hBw : B ≤ w.heap.size) :
    Calls Tryd.prog 78 #[.pointer (some ⟨b, 0, none⟩), .string s] w fun e w' => e = .returned (.tuple #[.int .i64 s.size, .nilIface]) ∧ bdAt B b (bs ++ Lib.strCells s) w' ∧ Below B w w' ∧ kept b w w' := by
  obtain ⟨i0, hi, hz0, hz1, hz2⟩ := info_parts infoByte
  go_enter Tryd.func78, Tryd.ntmps78
  go_wp2_with (go_at_call 111; refine (bd_check B b bs _ h).mono ?_)
  rintro e w1 ⟨rfl, h1, hb1, hk1⟩
  obtain ⟨hB, v, hbk, hown, hne⟩ := h1
  have c0 : w1.cell? ⟨b, 0, none⟩ = some (.pointer (some ⟨b, 0, none⟩)) := by rw [Lib.cell_of_heap hbk]; rfl
  have c1 : w1.cell? ⟨b, 1, none⟩ = some v := by rw [Lib.cell_of_heap hbk]; rfl
  go_wp2_with (at_builtin; refine Lib.wpList_append_own_stringF _ rfl _ _ 116 9 rfl B 5 i0 Tryd.underlying116 Tryd.underlying9 hi hz0 hz1 hz2 _ _ _ rfl hown s rfl ?c3 ?c4 ?c5 ?_)
  case c3 => unfold maxLen; omega
  case c4 => omega
  case c5 => have := hb1.size; omega
  intro v' w2 hown' hgrow _
  have hlt : b < w1.heap.size := by
    rcases Nat.lt_or_ge b w1.heap.size with h' | h'
    · exact h'
    · simp [Array.getElem?_eq_none h'] at hbk
  have hb2 : w2.heap[b]? = some (.cells #[.pointer (some ⟨b, 0, none⟩), v] 118 (0, 0)) := by
    rw [hgrow.block b hlt (fun e => hne e.symm)]
    exact hbk
  have d0 : w2.cell? ⟨b, 0, none⟩ = some (.pointer (some ⟨b, 0, none⟩)) := by rw [Lib.cell_of_heap hb2]; rfl
  have d1 : w2.cell? ⟨b, 1, none⟩ = some v := by rw [Lib.cell_of_heap hb2]; rfl
  have f1 : w2.frozen? ⟨b, 1, none⟩ = false := Lib.frozen_of_heap hb2 1
  obtain ⟨ao, n', cap, rfl⟩ : ∃ ao n' cap, v' = .slice ao n' cap := by
    rcases hown'.2 with ⟨hv, _⟩ | ⟨g, cap, cur, fz, hv, _⟩
    · exact ⟨_, _, _, hv⟩
    · exact ⟨_, _, _, hv⟩
  go_wp2
  go_ret2
  refine ⟨rfl, ?_, ?_, (hk1.grown hgrow (Lib.ownsRowF_kind hown)).setCell ⟨b, 1, none⟩ rfl _⟩
  · exact Lib.BuilderAtF.put (T := 118) (e := 5) hB hb2 (bs' := bs ++ Lib.strCells s) (by simpa [Lib.strCells_length] using hown') (by decide)
  · exact (hb1.grown hgrow (by have := hb1.size; omega) (fun k hk => (hown.lt k hk).1)).setCell (p := ⟨b, 1, none⟩) hB _
end Go.Proofs.YtoikneogdbdplaaDoor.Fn
set_option linter.unusedVariables false
namespace Go.Proofs.YtoikneogdbdplaaDoor.Fn
open Go.RowKit

def glyph_Fold.f (a0 : ByteArray) : Option ByteArray := if a0.size ≤ 35184372088832 then some (Pl.str (Pl.fold a0.data.toList)) else none

set_option maxHeartbeats 2000000 in
set_option maxRecDepth 100000 in
theorem glyph_Fold.calls (a0 : ByteArray) (r : ByteArray) (w : World) (h : glyph_Fold.f a0 = some r) :
    Calls Tryd.prog 64 #[.string a0] w fun e w' => e = .returned (.string r) ∧ Below w.heap.size w w' := by
  unfold glyph_Fold.f at h
  by_cases hs : a0.size ≤ 35184372088832
  · rw [if_pos hs] at h
    have HR := hid (Option.some.inj h)
    clear h
    go_enter Tryd.func64, Tryd.ntmps64
    go_wp2
    go_loopw [8] (fun v8 wr => ∃ k : Nat, k ≤ a0.size ∧ v8 = .int .i64 k ∧ isBd w.heap.size w.heap.size (Lib.byteCells (Pl.fold (a0.data.toList.take k))) wr ∧ Below w.heap.size w wr) (fun v8 _ => a0.size - (intOf v8).toNat)
    case atStart => exact ⟨0, Nat.zero_le _, rfl, Lib.IsBuilderF.of (Lib.fresh_isBuilder _ _ w), (Below.refl _ w).alloc (Nat.le_refl _) _⟩
    case round =>
      obtain ⟨k, hk, rfl, hI, hbw⟩ := hrel
      have hl : (Pl.fold (a0.data.toList.take k)).length ≤ k := by rw [Pl.fold_length]; exact List.length_take_le _ _
      have hBw := hbw.size
      by_cases hlt : k < a0.size
      · have hsn := hid (Pl.fold_snoc a0 k hlt)
        have hgo : ∀ c : Int, c = (Pl.foldB a0[k]).toNat → Lib.byteCells (Pl.fold (a0.data.toList.take k)) ++ [Value.int .u8 c] = Lib.byteCells (Pl.fold (a0.data.toList.take (k + 1))) := by
          rintro c rfl
          rw [hsn.out, Lib.byteCells_append]
          rfl
        have HG := hid hgo
        clear hgo
        by_cases hu : 65 ≤ (a0[k].toNat : Int) ∧ (a0[k].toNat : Int) ≤ 90
        · have hc := hid (Pl.foldB_up a0[k] hu)
          obtain ⟨hu1, hu2⟩ := hu
          go_wp2_with (go_at_call 101; refine (bd_byte w.heap.size w.heap.size _ _ _ hI (by rw [Lib.byteCells_length]; omega) hBw).mono ?_; rintro e W1 ⟨rfl, h1, b1, _⟩; rw [HG.out _ hc.out] at h1)
          go_roundw
          case rel => exact ⟨k + 1, by omega, by go_num, h1.is, hbw.trans b1⟩
          case measure => simp [intOf]; omega
        · have hc := hid (Pl.foldB_no a0[k] hu)
          by_cases hu1 : 65 ≤ (a0[k].toNat : Int)
          · have hu2 : 90 < (a0[k].toNat : Int) := by omega
            clear hu
            go_wp2_with (go_at_call 101; refine (bd_byte w.heap.size w.heap.size _ _ _ hI (by rw [Lib.byteCells_length]; omega) hBw).mono ?_; rintro e W1 ⟨rfl, h1, b1, _⟩; rw [HG.out _ hc.out] at h1)
            go_roundw
            case rel => exact ⟨k + 1, by omega, by go_num, h1.is, hbw.trans b1⟩
            case measure => simp [intOf]; omega
          · have hu2 : (a0[k].toNat : Int) < 65 := by omega
            clear hu hu1
            go_wp2_with (go_at_call 101; refine (bd_byte w.heap.size w.heap.size _ _ _ hI (by rw [Lib.byteCells_length]; omega) hBw).mono ?_; rintro e W1 ⟨rfl, h1, b1, _⟩; rw [HG.out _ hc.out] at h1)
            go_roundw
            case rel => exact ⟨k + 1, by omega, by go_num, h1.is, hbw.trans b1⟩
            case measure => simp [intOf]; omega
      · have hend := hid (show Pl.fold (a0.data.toList.take k) = Pl.fold a0.data.toList by rw [List.take_of_length_le (by rw [Pl.data_length]; omega)])
        go_wp2_with (go_at_call 79; refine (Tryd.Builder_String_any_k w.heap.size w.heap.size _ _ hI hBw).mono ?_; rintro e W1 ⟨rfl, _, b1, _⟩)
        go_ret
        exact ⟨by rw [← HR.out, ← hend.out]; rfl, hbw.trans b1⟩
  · rw [if_neg hs] at h
    exact absurd h (by simp)
end Go.Proofs.YtoikneogdbdplaaDoor.Fn
namespace Go.Proofs.YtoikneogdbdplaaDoor.Fn
open Go.RowKit Go.Proofs.YtoikneogdbdplaaDoorW.PrintWords Go.Proofs.YtoikneogdbdplaaDoorW.PrintLast Go.Proofs.YtoikneogdbdplaaDoorW.PrintMore
attribute [local go_sem] max2_int min2_int max_two min_two max_three min_three max_four min_four
set_option linter.unusedVariables false
set_option linter.unusedSimpArgs false

/-! ### mime_ReadType: function 27 -/
def mime_ReadType.l0 : Nat → List ByteArray → Int → Int → ByteArray → List (S104) → Option (ByteArray × (List (S104)) × Int)
 | 0, _, _, _, _, _ => none
 | k + 1, x21, x22, x23, x366000, x366001 => if x23 < x22 then (if 0 ≤ x23 then (if x23 < (x21.length : Int) then (if x23 = 0 then ((mime_kind.f k (rdOf ByteArray.empty x21 x23)).bind fun t370 => (if t370 = true then ((glyph_Fold.f (rdOf ByteArray.empty x21 x23)).bind fun t371 => (mime_ReadType.l0 k x21 x22 (wrap64 (x23 + 1)) t371 x366001)) else (some ((⟨#[]⟩ : ByteArray), ([] : List (S104)), 200)))) else ((strings_Cut.f (rdOf ByteArray.empty x21 x23) (⟨#[61]⟩ : ByteArray)).bind fun bt372 => (if bt372.2.2 = true then ((lex_IsAtom.f k bt372.1).bind fun t375 => (if t375 = true then ((glyph_Fold.f bt372.1).bind fun t376 => (if x366001.length < 4398046511104 then (mime_ReadType.l0 k x21 x22 (wrap64 (x23 + 1)) x366000 (x366001 ++ [(⟨t376, bt372.2.1⟩ : S104)])) else (none))) else (some ((⟨#[]⟩ : ByteArray), ([] : List (S104)), 200)))) else (some ((⟨#[]⟩ : ByteArray), ([] : List (S104)), 200))))) else (none)) else (none)) else (some (x366000, x366001, 0))
def mime_ReadType.f (k : Nat) (a0 : ByteArray) : Option (ByteArray × (List (S104)) × Int) := (lex_Scan.f k a0).bind fun bt361 => (if bt361.2 = 0 then ((mime_pieces.f k bt361.1).bind fun t366 => (mime_ReadType.l0 k t366 (t366.length : Int) 0 (⟨#[]⟩ : ByteArray) ([] : List (S104)))) else (some ((⟨#[]⟩ : ByteArray), ([] : List (S104)), 200)))
theorem mime_ReadType.mono_l : ∀ k, (∀ y0 y1 y2 y3 y4, LeO (mime_ReadType.l0 k y0 y1 y2 y3 y4) (mime_ReadType.l0 (k + 1) y0 y1 y2 y3 y4))
 | 0 => fun _ _ _ _ _ r h => by simp [mime_ReadType.l0] at h
 | k + 1 => by
  have ih0 := mime_ReadType.mono_l k
  ·intro y0 y1 y2 y3 y4
   unfold mime_ReadType.l0
   repeat' first
   | (with_reducible exact ih0 _ _ _ _ _)
   | (with_reducible exact lex_IsAtom.mono _ _)
   | (with_reducible exact lex_Scan.mono _ _)
   | (with_reducible exact mime_kind.mono _ _)
   | (with_reducible exact mime_pieces.mono _ _)
   | (with_reducible exact LeO.refl _)
   | (with_reducible exact LeO.none _)
   | (with_reducible refine LeO.ite ?_ ?_)
   | (with_reducible refine LeO.bind ?_ (fun _ => ?_))
   | exact ih0 _ _ _ _ _
   | exact lex_IsAtom.mono _ _
   | exact lex_Scan.mono _ _
   | exact mime_kind.mono _ _
   | exact mime_pieces.mono _ _
   | exact LeO.none _
   | refine LeO.ite ?_ ?_
   | refine LeO.bind ?_ (fun _ => ?_)
theorem mime_ReadType.mono : ∀ a0 k, LeO (mime_ReadType.f k a0) (mime_ReadType.f (k + 1) a0) := by
 intro a0 k
 have ih0 := mime_ReadType.mono_l k
 unfold mime_ReadType.f
 repeat' first
   | (with_reducible exact ih0 _ _ _ _ _)
   | (with_reducible exact lex_IsAtom.mono _ _)
   | (with_reducible exact lex_Scan.mono _ _)
   | (with_reducible exact mime_kind.mono _ _)
   | (with_reducible exact mime_pieces.mono _ _)
   | (with_reducible exact LeO.refl _)
   | (with_reducible exact LeO.none _)
   | (with_reducible refine LeO.ite ?_ ?_)
   | (with_reducible refine LeO.bind ?_ (fun _ => ?_))
   | exact ih0 _ _ _ _ _
   | exact lex_IsAtom.mono _ _
   | exact lex_Scan.mono _ _
   | exact mime_kind.mono _ _
   | exact mime_pieces.mono _ _
   | exact LeO.none _
   | refine LeO.ite ?_ ?_
   | refine LeO.bind ?_ (fun _ => ?_)
def mime_ReadType.T15 : Bool × List (List Nat × List Nat) := (true, [([], []), ([0], [0]), ([], []), ([2], [2]), ([], []), ([3, 4], [3, 4]), ([5], [5]), ([1, 6, 3], [1, 6]), ([0, 1, 2, 3, 4, 5, 6, 7], []), ([8, 7, 7, 0, 1, 2, 3, 4, 5, 6, 7], [7, 8])])
def mime_ReadType.B15 : List Nat := [0, 1, 0, 4, 0, 28, 60, 127, 255, 511]
theorem mime_ReadType.tab15 : rtab .any (opsOf Tryd.f27 15) = mime_ReadType.T15 := by kernel_rfl
theorem mime_ReadType.bits15 : waitsOk mime_ReadType.T15.2 mime_ReadType.B15 = true := by kernel_rfl
set_option maxHeartbeats 8000000 in
set_option maxRecDepth 100000 in
theorem mime_ReadType.calls (k : Nat) (a0 : ByteArray) (r1 : ByteArray) (r2 : List (S104)) (r3 : Int) (w : World) (hG : Glob w) (h : mime_ReadType.f k a0 = some (r1, r2, r3)) :
  Calls Tryd.prog 27 #[.string a0] w fun e w' => ∃ v1_ : Value, e = .returned (.tuple #[.agg #[.string r1, v1_], .int .i64 r3]) ∧ Kd.R k104 104 w' w.heap.size (fun _ => True) v1_ r2 ∧ Below w.heap.size w w' := by
 have hu51 := Tryd.underlying51
 have hu104 := Tryd.underlying104
 have HB := Aside0.mk (Below.refl w.heap.size w)
 have H : ((lex_Scan.f k a0).bind fun bt361 => (if bt361.2 = 0 then ((mime_pieces.f k bt361.1).bind fun t366 => (mime_ReadType.l0 k t366 (t366.length : Int) 0 (⟨#[]⟩ : ByteArray) ([] : List (S104)))) else (some ((⟨#[]⟩ : ByteArray), ([] : List (S104)), 200)))) = some (r1, r2, r3) := h
 clear h
 replace H := Option.bind_eq_some_iff.mp H
 obtain ⟨⟨t361, t362⟩, A20, H⟩ := H
 replace H : (if t362 = 0 then ((mime_pieces.f k t361).bind fun t366 => (mime_ReadType.l0 k t366 (t366.length : Int) 0 (⟨#[]⟩ : ByteArray) ([] : List (S104)))) else (some ((⟨#[]⟩ : ByteArray), ([] : List (S104)), 200))) = some (r1, r2, r3) := H
 have A2 := Aside0.mk A20
 clear A20
 by_cases c3 : t362 = 0
 ·rw [if_pos c3] at H
  have c3b0 : (t362 == 0) = true := beq_iff_eq.mpr c3
  have c3b1 : (t362 != 0) = false := bne_eq_false_iff_eq.mpr c3
  clear c3
  replace H := Option.bind_eq_some_iff.mp H
  obtain ⟨t366, A40, H⟩ := H
  replace H : (mime_ReadType.l0 k t366 (t366.length : Int) 0 (⟨#[]⟩ : ByteArray) ([] : List (S104))) = some (r1, r2, r3) := H
  have A4 := Aside0.mk A40
  clear A40
  have H' := Aside0.mk H
  clear H
  go_enter Tryd.func27, Tryd.ntmps27
  go_wp2_with (first | ((with_reducible refine gate_dst (N := 2) rfl ?_); refine box_event ?hg (N := 2) ?hd (cs := #[.string (⟨#[]⟩ : ByteArray), .slice none 0 0]) (t := 51) ?hr ?_; (case hd => rfl); (case hg => rfl); (case hr => first | (go_simp; done) | (go_simp; rfl)); intro gb360 hg w5 hbox hb; have n0_ := Aside0.mk (below_step bw hb); have n1_ := Aside0.mk (hbox); have n2_ := Aside0.mk ((by rw [hg]; exact (below_size bw) : w.heap.size ≤ gb360)); have n3_ := Aside0.mk ((by rw [hg]; exact (below_size bw) : w.heap.size ≤ gb360)); clear HB; have HB := n0_; have BK360 := n1_; have GW360 := n2_; have GE360 := n3_; clear n0_ n1_ n2_ n3_; clear hb hbox hg) | ((with_reducible refine gate_callee (f := 61) rfl ?_); refine goesL_ (some 14) rfl rfl Tryd.func61 (by kernel_rfl) rfl #[.string a0] rfl am ?_; (with_reducible refine (lex_Scan.calls k a0 t361 t362 _ A2.out).mono ?_); rintro e w6 ⟨v363, rfl, ho0, hb⟩; refine ⟨_, rfl, ?_⟩; have n0_ := Aside0.mk (Kd.R_lower ho0 (below_size bwS)); have n1_ := Aside0.mk (blk_below (g := gb360) (o := .cells #[.string (⟨#[]⟩ : ByteArray), .slice none 0 0] 51 (0, 0)) bk hb); have n2_ := Aside0.mk (below_step bwS hb); clear BK360; clear HB; have HO364 := n0_; have BK360 := n1_; have HB := n2_; clear n0_ n1_ n2_; (try clear hb); (try clear hb2); (try clear hk); (try clear hi); (try clear ho0)) | ((with_reducible refine gate_dst (N := 6) rfl ?_); refine box_event ?hg (N := 6) ?hd (cs := #[.string (⟨#[]⟩ : ByteArray), .slice none 0 0]) (t := 51) ?hr ?_; (case hd => rfl); (case hg => rfl); (case hr => first | (go_simp; done) | (go_simp; rfl)); intro gb365 hg w7 hbox hb; have n0_ := Aside0.mk (Kd.R_below (by (with_reducible repeat (first | apply Kd.R_alloc | apply Kd.R_drewN | apply Kd.R_drew)); exact HO364.out) hb); have n1_ := Aside0.mk (blk_below (g := gb360) (o := .cells #[.string (⟨#[]⟩ : ByteArray), .slice none 0 0] 51 (0, 0)) bk hb); have n2_ := Aside0.mk (below_step bwS hb); have n3_ := Aside0.mk (hbox); have n4_ := Aside0.mk ((by rw [hg]; exact (below_size bwS) : w.heap.size ≤ gb365)); have n5_ := Aside0.mk ((by rw [hg]; exact (below_size bwS) : w.heap.size ≤ gb365)); have n6_ := Aside0.mk ((by rw [hg]; exact Nat.ne_of_lt (blk_lt (g := gb360) (o := .cells #[.string (⟨#[]⟩ : ByteArray), .slice none 0 0] 51 (0, 0)) bk) : gb360 ≠ gb365)); have n7_ := Aside0.mk ((by rw [hg]; exact Nat.ne_of_gt (blk_lt (g := gb360) (o := .cells #[.string (⟨#[]⟩ : ByteArray), .slice none 0 0] 51 (0, 0)) bk) : gb365 ≠ gb360)); clear HO364; clear BK360; clear HB; have HO364 := n0_; have BK360 := n1_; have HB := n2_; have BK365 := n3_; have GW365 := n4_; have GE365 := n5_; have NB360_365 := n6_; have NB365_360 := n7_; clear n0_ n1_ n2_ n3_ n4_ n5_ n6_ n7_; clear hb hbox hg; obtain ⟨Ao8, co8, eo8⟩ := Kd.R_slice HO364.out; subst eo8) | ((with_reducible refine gate_callee (f := 62) rfl ?_); refine goesL_ (some 21) rfl rfl Tryd.func62 (by kernel_rfl) rfl #[.slice Ao8 t361.length co8] rfl am ?_; (with_reducible refine (mime_pieces.calls k _ _ t361 t366 _ ?side1 ?side2 A4.out).mono ?_); (case side1 => repeat (first | exact (Kd.R_reads' HO364.out).2.2 | (with_reducible refine Kd.C_alloc ?_ _) | (with_reducible refine Kd.C_drewN ?_ _) | (with_reducible refine Kd.C_drew ?_))); (case side2 => exact (Kd.R_reads' HO364.out).2.1); rintro e w9 ⟨v367, rfl, ho0, hb⟩; refine ⟨_, rfl, ?_⟩; have n0_ := Aside0.mk (Kd.R_below (by (with_reducible repeat (first | apply Kd.R_alloc | apply Kd.R_drewN | apply Kd.R_drew)); exact HO364.out) hb); have n1_ := Aside0.mk (Kd.R_lower ho0 (below_size bwS)); have n2_ := Aside0.mk (blk_below (g := gb360) (o := .cells #[.string (⟨#[]⟩ : ByteArray), .slice none 0 0] 51 (0, 0)) bk hb); have n3_ := Aside0.mk (blk_below (g := gb365) (o := .cells #[.string (⟨#[]⟩ : ByteArray), .slice none 0 0] 51 (0, 0)) bk hb); have n4_ := Aside0.mk (below_step bwS hb); clear HO364; clear BK360; clear BK365; clear HB; have HO364 := n0_; have HO368 := n1_; have BK360 := n2_; have BK365 := n3_; have HB := n4_; clear n0_ n1_ n2_ n3_ n4_; (try clear hb); (try clear hb2); (try clear hk); (try clear hi); (try clear ho0); obtain ⟨Ao10, co10, eo10⟩ := Kd.R_slice HO368.out; subst eo10))
  go_loopg [23] k (fun kq v23 w' => ∃ (x23_1 : Int) (x361000_1 : ByteArray) (x366000_1 : ByteArray) (x366001_1 : List (S104)) (u366001 : Value), v23 = .int .i64 x23_1 ∧ Aside0 (mime_ReadType.l0 kq t366 (t366.length : Int) x23_1 x366000_1 x366001_1 = some (r1, r2, r3)) ∧ Aside0 (kq ≤ k) ∧ Aside0 (Kd.R Kd.string 9 w' w.heap.size (fun _ => True) (.slice Ao10 t366.length co10) t366) ∧ Aside0 (Kd.R k104 104 w' w.heap.size (fun _ => True) u366001 x366001_1) ∧ Aside0 (w'.heap[gb360]? = some (.cells #[.string x361000_1, (.slice none 0 0)] 51 (0, 0))) ∧ Aside0 (w'.heap[gb365]? = some (.cells #[.string x366000_1, u366001] 51 (0, 0))) ∧ Aside0 (Below w.heap.size w w'))
  case atStart => exact ⟨(0), ((⟨#[]⟩ : ByteArray)), ((⟨#[]⟩ : ByteArray)), (([] : List (S104))), (.slice none 0 0), cl, H', ⟨Nat.le_refl _⟩, ⟨by (with_reducible repeat (first | apply Kd.R_alloc | apply Kd.R_drewN | apply Kd.R_drew)); exact HO368.out⟩, ⟨by first | exact Kd.R_nil _ _ _ _ _ | exact Kd.N_nil _ _ _ _ _ | exact Kd.V_nil _ _ _ _ _ | exact Kd.Q_nil _ _ _ _ _ | exact Kd.S_nil _ _ _ _ _⟩, ⟨bk⟩, ⟨bk⟩, ⟨bwS⟩⟩
  case round =>
   clear H'
   try clear c2
   try clear p2
   try clear c3
   try clear c3b0
   try clear c3b1
   try clear c6
   obtain ⟨x23_1, x361000_1, x366000_1, x366001_1, u366001, rfl, HA, HK1, HO_21, HO_366001, BK360, BK365, HB⟩ := hrel
   cases gk with
   | zero => exact absurd HA.out (by simp [mime_ReadType.l0])
   | succ k1 =>
    have H := HA.out
    clear HA
    simp only [mime_ReadType.l0] at H
    by_cases c11 : x23_1 < (t366.length : Int)
    ·rw [if_pos c11] at H
     have c11b0 : decide (x23_1 < (t366.length : Int)) = true := decide_eq_true c11
     clear c11
     by_cases c12 : 0 ≤ x23_1
     ·rw [if_pos c12] at H
      have c12b0 : decide (0 ≤ x23_1) = true := decide_eq_true c12
      clear c12
      by_cases c13 : x23_1 < (t366.length : Int)
      ·rw [if_pos c13] at H
       have c13b0 : decide (x23_1 < (t366.length : Int)) = true := decide_eq_true c13
       clear c13
       by_cases c14 : x23_1 = 0
       ·rw [if_pos c14] at H
        have c14b0 : (x23_1 == 0) = true := beq_iff_eq.mpr c14
        have c14b1 : (x23_1 != 0) = false := bne_eq_false_iff_eq.mpr c14
        clear c14
        replace H := Option.bind_eq_some_iff.mp H
        obtain ⟨t370, A150, H⟩ := H
        replace H : (if t370 = true then ((glyph_Fold.f (rdOf ByteArray.empty t366 x23_1)).bind fun t371 => (mime_ReadType.l0 k1 t366 (t366.length : Int) (wrap64 (x23_1 + 1)) t371 x366001_1)) else (some ((⟨#[]⟩ : ByteArray), ([] : List (S104)), 200))) = some (r1, r2, r3) := H
        have A15 := Aside0.mk A150
        clear A150
        by_cases c16 : t370 = true
        ·subst c16
         have H1 : ((glyph_Fold.f (rdOf ByteArray.empty t366 x23_1)).bind fun t371 => (mime_ReadType.l0 k1 t366 (t366.length : Int) (wrap64 (x23_1 + 1)) t371 x366001_1)) = some (r1, r2, r3) := by rw [if_pos rfl] at H; exact H
         clear H
         have H := H1
         clear H1
         replace H := Option.bind_eq_some_iff.mp H
         obtain ⟨t371, A170, H⟩ := H
         replace H : (mime_ReadType.l0 k1 t366 (t366.length : Int) (wrap64 (x23_1 + 1)) t371 x366001_1) = some (r1, r2, r3) := H
         have A17 := Aside0.mk A170
         clear A170
         have H' := Aside0.mk H
         clear H
         have p369 : 0 ≤ (x23_1 : Int) := od
         have q369 : x23_1 < (t366.length : Int) := od
         obtain ⟨ad369, e369, hx369_0⟩ := Kd.at_string (Kd.R_reads' HO_21.out).2.2 x23_1 p369 q369
         cases e369
         replace p369 := eq_true p369
         replace q369 := eq_true q369
         go_wp2_with (first | ((with_reducible refine gate_callee (f := 63) rfl ?_); refine goesL_ (some 31) rfl rfl Tryd.func63 (by kernel_rfl) rfl #[.string (rdOf ByteArray.empty t366 x23_1)] rfl am ?_; (with_reducible refine (mime_kind.calls (hG := by first | exact hG | exact Glob.below hG (by first | exact HB.out | (repeat (first | (with_reducible first | exact HB.out | apply below_alloc | apply pw_below_drewN | apply below_drew1 | refine below_set ?_ GE360.out | refine below_set ?_ GE365.out) | exact HB.out))) | exact Glob.drawn hG (by repeat (first | exact Drawn0.refl _ | apply Drawn0.step))) k1 (rdOf ByteArray.empty t366 x23_1) true _ A15.out).mono ?_); rintro e w18 ⟨rfl, hb⟩; refine ⟨_, rfl, ?_⟩; have n0_ := Aside0.mk (Kd.R_below (by (with_reducible repeat (first | apply Kd.R_alloc | apply Kd.R_drewN | apply Kd.R_drew)); exact HO_21.out) hb); have n1_ := Aside0.mk (Kd.R_below (by (with_reducible repeat (first | apply Kd.R_alloc | apply Kd.R_drewN | apply Kd.R_drew)); exact HO_366001.out) hb); have n2_ := Aside0.mk (blk_below (g := gb360) (o := .cells #[.string x361000_1, .slice none 0 0] 51 (0, 0)) bk hb); have n3_ := Aside0.mk (blk_below (g := gb365) (o := .cells #[.string x366000_1, u366001] 51 (0, 0)) bk hb); have n4_ := Aside0.mk (below_step bwS hb); clear HO_21; clear HO_366001; clear BK360; clear BK365; clear HB; have HO_21 := n0_; have HO_366001 := n1_; have BK360 := n2_; have BK365 := n3_; have HB := n4_; clear n0_ n1_ n2_ n3_ n4_; (try clear hb); (try clear hb2); (try clear hk); (try clear hi)) | ((with_reducible refine gate_callee (f := 64) rfl ?_); refine goesL_ (some 35) rfl rfl Tryd.func64 (by kernel_rfl) rfl #[.string (rdOf ByteArray.empty t366 x23_1)] rfl am ?_; (with_reducible refine (glyph_Fold.calls (rdOf ByteArray.empty t366 x23_1) t371 _ A17.out).mono ?_); rintro e w19 ⟨rfl, hb⟩; refine ⟨_, rfl, ?_⟩; have n0_ := Aside0.mk (Kd.R_below (by (with_reducible repeat (first | apply Kd.R_alloc | apply Kd.R_drewN | apply Kd.R_drew)); exact HO_21.out) hb); have n1_ := Aside0.mk (Kd.R_below (by (with_reducible repeat (first | apply Kd.R_alloc | apply Kd.R_drewN | apply Kd.R_drew)); exact HO_366001.out) hb); have n2_ := Aside0.mk (blk_below (g := gb360) (o := .cells #[.string x361000_1, .slice none 0 0] 51 (0, 0)) bk hb); have n3_ := Aside0.mk (blk_below (g := gb365) (o := .cells #[.string x366000_1, u366001] 51 (0, 0)) bk hb); have n4_ := Aside0.mk (below_step bwS hb); clear HO_21; clear HO_366001; clear BK360; clear BK365; clear HB; have HO_21 := n0_; have HO_366001 := n1_; have BK360 := n2_; have BK365 := n3_; have HB := n4_; clear n0_ n1_ n2_ n3_ n4_; (try clear hb); (try clear hb2); (try clear hk); (try clear hi); have hnb20 := NB365_360.out; have hnc20 := NB360_365.out; have hcz21_0 : w19.cell? ⟨gb365, 0, none⟩ = some (.string x366000_1) := (blk_cell BK365.out 0).trans rfl; have hcz21_1 : w19.cell? ⟨gb365, 1, none⟩ = some (u366001) := (blk_cell BK365.out 1).trans rfl; have hfz21_0 := blk_frozen BK365.out 0; have hfz21_1 := blk_frozen BK365.out 1))
         go_roundg k1
         case measure => have := HK1.out; omega
         case rel => exact ⟨(wrap64 (x23_1 + 1)), (x361000_1), (t371), (x366001_1), (u366001), cl, H', ⟨by have := HK1.out; omega⟩, ⟨by (with_reducible repeat (first | apply Kd.R_alloc | apply Kd.R_drewN | apply Kd.R_drew)); exact Kd.R_mono (Kd.R_far (p := ⟨gb365, 0, none⟩) (Kd.R_types HO_21.out BK365.out (by decide)) (fun _ hk => hk.2) (.string t371)) (fun _ hk => trivial)⟩, ⟨by (with_reducible repeat (first | apply Kd.R_alloc | apply Kd.R_drewN | apply Kd.R_drew)); exact Kd.R_mono (Kd.R_far (p := ⟨gb365, 0, none⟩) (Kd.R_types HO_366001.out BK365.out (by decide)) (fun _ hk => hk.2) (.string t371)) (fun _ hk => trivial)⟩, ⟨by (with_reducible repeat (first | refine blk_drewN ?_ _ | refine blk_drew ?_ | refine blk_alloc ?_ _)); refine blk_far ?_ NB360_365.out _; (with_reducible repeat (first | refine blk_drewN ?_ _ | refine blk_drew ?_ | refine blk_alloc ?_ _)); exact BK360.out⟩, ⟨by (with_reducible repeat (first | refine blk_drewN ?_ _ | refine blk_drew ?_ | refine blk_alloc ?_ _)); refine blk_put (cs := #[.string x366000_1, u366001]) ?_ 0 _ rfl; (with_reducible repeat (first | refine blk_drewN ?_ _ | refine blk_drew ?_ | refine blk_alloc ?_ _)); exact BK365.out⟩, ⟨bwS⟩⟩
        ·replace c16 := Bool.eq_false_iff.mpr c16
         subst c16
         have H1 : (some ((⟨#[]⟩ : ByteArray), ([] : List (S104)), 200)) = some (r1, r2, r3) := by rw [if_neg (show ¬ (false = true) by decide)] at H; exact H
         clear H
         have H := H1
         clear H1
         simp only [Option.some.injEq, Prod.mk.injEq] at H
         obtain ⟨rfl, rfl, rfl⟩ := H
         have p369 : 0 ≤ (x23_1 : Int) := od
         have q369 : x23_1 < (t366.length : Int) := od
         obtain ⟨ad369, e369, hx369_0⟩ := Kd.at_string (Kd.R_reads' HO_21.out).2.2 x23_1 p369 q369
         cases e369
         replace p369 := eq_true p369
         replace q369 := eq_true q369
         go_wp2_with (first | ((with_reducible refine gate_callee (f := 63) rfl ?_); refine goesL_ (some 31) rfl rfl Tryd.func63 (by kernel_rfl) rfl #[.string (rdOf ByteArray.empty t366 x23_1)] rfl am ?_; (with_reducible refine (mime_kind.calls (hG := by first | exact hG | exact Glob.below hG (by first | exact HB.out | (repeat (first | (with_reducible first | exact HB.out | apply below_alloc | apply pw_below_drewN | apply below_drew1 | refine below_set ?_ GE360.out | refine below_set ?_ GE365.out) | exact HB.out))) | exact Glob.drawn hG (by repeat (first | exact Drawn0.refl _ | apply Drawn0.step))) k1 (rdOf ByteArray.empty t366 x23_1) false _ A15.out).mono ?_); rintro e w22 ⟨rfl, hb⟩; refine ⟨_, rfl, ?_⟩; have n0_ := Aside0.mk (Kd.R_below (by (with_reducible repeat (first | apply Kd.R_alloc | apply Kd.R_drewN | apply Kd.R_drew)); exact HO_21.out) hb); have n1_ := Aside0.mk (Kd.R_below (by (with_reducible repeat (first | apply Kd.R_alloc | apply Kd.R_drewN | apply Kd.R_drew)); exact HO_366001.out) hb); have n2_ := Aside0.mk (blk_below (g := gb360) (o := .cells #[.string x361000_1, .slice none 0 0] 51 (0, 0)) bk hb); have n3_ := Aside0.mk (blk_below (g := gb365) (o := .cells #[.string x366000_1, u366001] 51 (0, 0)) bk hb); have n4_ := Aside0.mk (below_step bwS hb); clear HO_21; clear HO_366001; clear BK360; clear BK365; clear HB; have HO_21 := n0_; have HO_366001 := n1_; have BK360 := n2_; have BK365 := n3_; have HB := n4_; clear n0_ n1_ n2_ n3_ n4_; (try clear hb); (try clear hb2); (try clear hk); (try clear hi); have hnb23 := NB360_365.out; have hnc23 := NB365_360.out; have hcz24_0 : w22.cell? ⟨gb360, 0, none⟩ = some (.string x361000_1) := (blk_cell BK360.out 0).trans rfl; have hcz24_1 : w22.cell? ⟨gb360, 1, none⟩ = some (.slice none 0 0) := (blk_cell BK360.out 1).trans rfl; have hfz24_0 := blk_frozen BK360.out 0; have hfz24_1 := blk_frozen BK360.out 1))
         refine bodyPost_ret (results_ct rfl _ _ gb360 51 #[.string (⟨#[]⟩ : ByteArray), .slice none 0 0] (0, 0) _ rfl (by (with_reducible repeat (first | refine blk_drewN ?_ _ | refine blk_drew ?_ | refine blk_alloc ?_ _)); refine blk_put (cs := #[.string (⟨#[]⟩ : ByteArray), .slice none 0 0]) ?_ 1 _ rfl; (with_reducible repeat (first | refine blk_drewN ?_ _ | refine blk_drew ?_ | refine blk_alloc ?_ _)); refine blk_put (cs := #[.string x361000_1, .slice none 0 0]) ?_ 0 _ rfl; (with_reducible repeat (first | refine blk_drewN ?_ _ | refine blk_drew ?_ | refine blk_alloc ?_ _)); exact BK360.out) Tryd.underlying51 rfl (by kernel_rfl)) rfl ?_
         exact ⟨_, by first | rfl | (simp [errW_none, errW_some] <;> rfl) | (simp [*, errW_none, errW_some] <;> rfl), by first | exact Kd.R_nil _ _ _ _ _ | exact Kd.N_nil _ _ _ _ _ | exact Kd.V_nil _ _ _ _ _ | exact Kd.Q_nil _ _ _ _ _ | exact Kd.S_nil _ _ _ _ _, bwS⟩
       ·rw [if_neg c14] at H
        have c14b0 : (x23_1 == 0) = false := beq_eq_false_iff_ne.mpr c14
        have c14b1 : (x23_1 != 0) = true := bne_iff_ne.mpr c14
        replace H := Option.bind_eq_some_iff.mp H
        obtain ⟨⟨t372, t373, t374⟩, A250, H⟩ := H
        replace H : (if t374 = true then ((lex_IsAtom.f k1 t372).bind fun t375 => (if t375 = true then ((glyph_Fold.f t372).bind fun t376 => (if x366001_1.length < 4398046511104 then (mime_ReadType.l0 k1 t366 (t366.length : Int) (wrap64 (x23_1 + 1)) x366000_1 (x366001_1 ++ [(⟨t376, t373⟩ : S104)])) else (none))) else (some ((⟨#[]⟩ : ByteArray), ([] : List (S104)), 200)))) else (some ((⟨#[]⟩ : ByteArray), ([] : List (S104)), 200))) = some (r1, r2, r3) := H
        have A25 := Aside0.mk A250
        clear A250
        by_cases c26 : t374 = true
        ·subst c26
         have H1 : ((lex_IsAtom.f k1 t372).bind fun t375 => (if t375 = true then ((glyph_Fold.f t372).bind fun t376 => (if x366001_1.length < 4398046511104 then (mime_ReadType.l0 k1 t366 (t366.length : Int) (wrap64 (x23_1 + 1)) x366000_1 (x366001_1 ++ [(⟨t376, t373⟩ : S104)])) else (none))) else (some ((⟨#[]⟩ : ByteArray), ([] : List (S104)), 200)))) = some (r1, r2, r3) := by rw [if_pos rfl] at H; exact H
         clear H
         have H := H1
         clear H1
         replace H := Option.bind_eq_some_iff.mp H
         obtain ⟨t375, A270, H⟩ := H
         replace H : (if t375 = true then ((glyph_Fold.f t372).bind fun t376 => (if x366001_1.length < 4398046511104 then (mime_ReadType.l0 k1 t366 (t366.length : Int) (wrap64 (x23_1 + 1)) x366000_1 (x366001_1 ++ [(⟨t376, t373⟩ : S104)])) else (none))) else (some ((⟨#[]⟩ : ByteArray), ([] : List (S104)), 200))) = some (r1, r2, r3) := H
         have A27 := Aside0.mk A270
         clear A270
         by_cases c28 : t375 = true
         ·subst c28
          have H1 : ((glyph_Fold.f t372).bind fun t376 => (if x366001_1.length < 4398046511104 then (mime_ReadType.l0 k1 t366 (t366.length : Int) (wrap64 (x23_1 + 1)) x366000_1 (x366001_1 ++ [(⟨t376, t373⟩ : S104)])) else (none))) = some (r1, r2, r3) := by rw [if_pos rfl] at H; exact H
          clear H
          have H := H1
          clear H1
          replace H := Option.bind_eq_some_iff.mp H
          obtain ⟨t376, A290, H⟩ := H
          replace H : (if x366001_1.length < 4398046511104 then (mime_ReadType.l0 k1 t366 (t366.length : Int) (wrap64 (x23_1 + 1)) x366000_1 (x366001_1 ++ [(⟨t376, t373⟩ : S104)])) else (none)) = some (r1, r2, r3) := H
          have A29 := Aside0.mk A290
          clear A290
          by_cases c30 : x366001_1.length < 4398046511104
          ·rw [if_pos c30] at H
           have LMc30 := Aside0.mk c30
           clear c30
           obtain ⟨y377, hy377⟩ : ∃ y_ : List (S104), y_ = (x366001_1 ++ [(⟨t376, t373⟩ : S104)]) := ⟨_, rfl⟩
           replace H : (mime_ReadType.l0 k1 t366 (t366.length : Int) (wrap64 (x23_1 + 1)) x366000_1 y377) = some (r1, r2, r3) := by first | (rw [hy377]; with_reducible exact H) | (have H2_ := (Option.bind_some _ _).symm.trans H; rw [hy377]; with_reducible exact H2_) | (have H2_ := (Option.bind_some _ _).symm.trans H; with_reducible exact H2_) | with_reducible exact H | (rw [hy377]; exact H) | exact H
           have Ny377 := Aside0.mk hy377
           clear hy377
           have H' := Aside0.mk H
           clear H
           have p369 : 0 ≤ (x23_1 : Int) := od
           have q369 : x23_1 < (t366.length : Int) := od
           obtain ⟨ad369, e369, hx369_0⟩ := Kd.at_string (Kd.R_reads' HO_21.out).2.2 x23_1 p369 q369
           cases e369
           replace p369 := eq_true p369
           replace q369 := eq_true q369
           try go_wp2_with (first | ((with_reducible refine gate_callee (f := 65) rfl ?_); refine goesL_ (some 39) rfl rfl Tryd.func65 (by kernel_rfl) rfl #[.string (rdOf ByteArray.empty t366 x23_1), .string (⟨#[61]⟩ : ByteArray)] rfl am ?_; (with_reducible refine (strings_Cut.calls (hG := by first | exact hG | exact Glob.below hG (by first | exact HB.out | (repeat (first | (with_reducible first | exact HB.out | apply below_alloc | apply pw_below_drewN | apply below_drew1 | refine below_set ?_ GE360.out | refine below_set ?_ GE365.out) | exact HB.out))) | exact Glob.drawn hG (by repeat (first | exact Drawn0.refl _ | apply Drawn0.step))) (rdOf ByteArray.empty t366 x23_1) (⟨#[61]⟩ : ByteArray) t372 t373 true _ A25.out).mono ?_); rintro e w31 ⟨rfl, hb⟩; refine ⟨_, rfl, ?_⟩; have n0_ := Aside0.mk (Kd.R_below (by (with_reducible repeat (first | apply Kd.R_alloc | apply Kd.R_drewN | apply Kd.R_drew)); exact HO_21.out) hb); have n1_ := Aside0.mk (Kd.R_below (by (with_reducible repeat (first | apply Kd.R_alloc | apply Kd.R_drewN | apply Kd.R_drew)); exact HO_366001.out) hb); have n2_ := Aside0.mk (blk_below (g := gb360) (o := .cells #[.string x361000_1, .slice none 0 0] 51 (0, 0)) bk hb); have n3_ := Aside0.mk (blk_below (g := gb365) (o := .cells #[.string x366000_1, u366001] 51 (0, 0)) bk hb); have n4_ := Aside0.mk (below_step bwS hb); clear HO_21; clear HO_366001; clear BK360; clear BK365; clear HB; have HO_21 := n0_; have HO_366001 := n1_; have BK360 := n2_; have BK365 := n3_; have HB := n4_; clear n0_ n1_ n2_ n3_ n4_; (try clear hb); (try clear hb2); (try clear hk); (try clear hi)) | (go_at_call 66; (with_reducible refine (lex_IsAtom.calls k1 t372 true _ A27.out).mono ?_); rintro e w' ⟨rfl, ⟨nd, rfl⟩⟩; (try (rw [drewN_self w31]; generalize hq_ : World.drewN w31 _ = w31; have n0_ : Aside0 (Kd.R Kd.string 9 w31 w.heap.size (fun _ => True) (.slice (some ad369) t366.length co10) t366) := ⟨by rw [← hq_]; exact (by (with_reducible repeat (first | apply Kd.R_alloc | apply Kd.R_drewN | apply Kd.R_drew)); exact HO_21.out)⟩; have n1_ : Aside0 (Kd.R k104 104 w31 w.heap.size (fun _ => True) u366001 x366001_1) := ⟨by rw [← hq_]; exact (by (with_reducible repeat (first | apply Kd.R_alloc | apply Kd.R_drewN | apply Kd.R_drew)); exact HO_366001.out)⟩; have n2_ : Aside0 (w31.heap[gb360]? = some (.cells #[.string x361000_1, .slice none 0 0] 51 (0, 0))) := ⟨by rw [← hq_]; exact bk⟩; have n3_ : Aside0 (w31.heap[gb365]? = some (.cells #[.string x366000_1, u366001] 51 (0, 0))) := ⟨by rw [← hq_]; exact bk⟩; have n4_ : Aside0 (Below w.heap.size w w31) := ⟨by rw [← hq_]; exact bwS⟩; clear HO_21 HO_366001 BK360 BK365 HB hq_; have HO_21 := n0_; have HO_366001 := n1_; have BK360 := n2_; have BK365 := n3_; have HB := n4_; clear n0_ n1_ n2_ n3_ n4_))))
           have n0_ := Aside0.mk (Kd.R_drew HO_21.out)
           have n1_ := Aside0.mk (Kd.R_drew HO_366001.out)
           have n2_ := Aside0.mk (blk_drew BK360.out)
           have n3_ := Aside0.mk (blk_drew BK365.out)
           have n4_ := Aside0.mk (below_drew1 HB.out)
           clear HO_21
           clear HO_366001
           clear BK360
           clear BK365
           clear HB
           have HO_21 := n0_
           have HO_366001 := n1_
           have BK360 := n2_
           have BK365 := n3_
           have HB := n4_
           clear n0_ n1_ n2_ n3_ n4_
           refine start_ (n := 10) (S := fun w' => w'.cell? ⟨gb365, 0, none⟩ = some (.string x366000_1) ∧ w'.cell? ⟨gb365, 1, none⟩ = some (u366001)) (ds := [9]) #[false, false, false, false, false, false, false, false, false, false] (by kernel_rfl) rfl rfl ⟨(blk_cell BK365.out 0).trans rfl, (blk_cell BK365.out 1).trans rfl⟩ (fun hHeld => ?_); refine with_tabW mime_ReadType.tab15 mime_ReadType.bits15 (fun HT_ HW_ => ?_)
           generalize w31.drew = w32 at HO_21 HO_366001 BK360 BK365 HB hHeld ⊢
           refine pure_ (i := 0) (N := some 51) (v := ?_) (a' := ?_) (bitsL 10 1) rfl rfl (any_of HT_.out (by kernel_rfl)) (fun _ _ _ h => h) (Or.inl ⟨by rfl, ?_⟩) ?_ ?_
           rotate_left
           ·intro w'
            go_simp
            with_reducible rfl
           rotate_left
           ·simp only [Act.put, List.setIfInBounds_toArray, List.set_cons_zero, List.set_cons_succ, i64_w, i32_w]
            rfl
           refine pure_ (i := 2) (N := some 53) (v := ?_) (a' := ?_) (bitsL 10 5) rfl rfl (any_of HT_.out (by kernel_rfl)) (fun _ _ _ h => h) (Or.inl ⟨by rfl, ?_⟩) ?_ ?_
           rotate_left
           ·intro w'
            go_simp
            with_reducible rfl
           rotate_left
           ·simp only [Act.put, List.setIfInBounds_toArray, List.set_cons_zero, List.set_cons_succ, i64_w, i32_w]
            rfl
           refine pure_ (i := 4) (N := some 55) (v := ?_) (a' := ?_) (bitsL 10 21) rfl rfl (any_of HT_.out (by kernel_rfl)) (fun _ _ _ h => h) (Or.inl ⟨by rfl, ?_⟩) ?_ ?_
           rotate_left
           ·intro w'
            go_simp
            with_reducible rfl
           rotate_left
           ·simp only [Act.put, List.setIfInBounds_toArray, List.set_cons_zero, List.set_cons_succ, i64_w, i32_w]
            rfl
           refine take_ (i := 1) (N := some 52) (v := ?_) (a' := ?_) (bitsL 10 23) rfl rfl (take_ofW HT_.out HW_.out (by kernel_rfl)) (fun _ _ _ h => h) (Or.inl ⟨by rfl, ?_⟩) hHeld ?_ ?_
           rotate_left
           ·rintro w' ⟨s0, s1⟩
            go_simp
            with_reducible rfl
           rotate_left
           ·simp only [Act.put, List.setIfInBounds_toArray, List.set_cons_zero, List.set_cons_succ, i64_w, i32_w]
            rfl
           refine one_ (i := 3) (N := some 54) (bitsL 10 31) rfl rfl (one_of HT_.out (by kernel_rfl)) (by decide) (fun K hK => ?_)
           refine goes_ Tryd.func64 (by kernel_rfl) rfl #[.string t372] (by rfl) rfl rfl am ?_
           with_reducible refine (glyph_Fold.calls t372 t376 _ A29.out).mono ?_
           rintro e w33 ⟨rfl, hb⟩
           refine ⟨_, rfl, ?_⟩
           have n0_ := Aside0.mk (Kd.R_below (by (with_reducible repeat (first | apply Kd.R_alloc | apply Kd.R_drewN | apply Kd.R_drew)); exact HO_21.out) hb)
           have n1_ := Aside0.mk (Kd.R_below (by (with_reducible repeat (first | apply Kd.R_alloc | apply Kd.R_drewN | apply Kd.R_drew)); exact HO_366001.out) hb)
           have n2_ := Aside0.mk (blk_below (g := gb360) (o := .cells #[.string x361000_1, .slice none 0 0] 51 (0, 0)) bk hb)
           have n3_ := Aside0.mk (blk_below (g := gb365) (o := .cells #[.string x366000_1, u366001] 51 (0, 0)) bk hb)
           have n4_ := Aside0.mk (below_step bwS hb)
           clear HO_21
           clear HO_366001
           clear BK360
           clear BK365
           clear HB
           have HO_21 := n0_
           have HO_366001 := n1_
           have BK360 := n2_
           have BK365 := n3_
           have HB := n4_
           clear n0_ n1_ n2_ n3_ n4_
           (try clear hb)
           (try clear hb2)
           (try clear hk)
           (try clear hi)
           refine hK.out _ _ ⟨(blk_cell BK365.out 0).trans rfl, (blk_cell BK365.out 1).trans rfl⟩ (fun hHeld => ?_)
           clear hK K
           refine norm_ (a' := ?_) ?_ ?_
           rotate_left
           ·show Act.put _ (some 54) _ = _
            simp only [Act.put, List.setIfInBounds_toArray, List.set_cons_zero, List.set_cons_succ, i64_w, i32_w]
            rfl
           refine pure_ (i := 5) (N := some 56) (v := ?_) (a' := ?_) (bitsL 10 63) rfl rfl (any_of HT_.out (by kernel_rfl)) (fun _ _ _ h => h) (Or.inl ⟨by rfl, ?_⟩) ?_ ?_
           rotate_left
           ·intro w'
            go_simp
            with_reducible rfl
           rotate_left
           ·simp only [Act.put, List.setIfInBounds_toArray, List.set_cons_zero, List.set_cons_succ, i64_w, i32_w]
            rfl
           refine one_ (i := 6) (N := some 57) (bitsL 10 127) rfl rfl (one_of HT_.out (by kernel_rfl)) (by decide) (fun K hK => ?_)
           refine value_ (w1 := ?_) (v := ?_) (by rfl) rfl ?_ ?_
           rotate_left 2
           ·go_simp
            constructor
            ·rfl
            ·rfl
           refine hK.out _ _ ⟨(blk_cell (blk_alloc BK365.out _) 0).trans rfl, (blk_cell (blk_alloc BK365.out _) 1).trans rfl⟩ (fun hHeld => ?_)
           clear hK K
           refine norm_ (a' := ?_) ?_ ?_
           rotate_left
           ·show Act.put _ (some 57) _ = _
            simp only [Act.put, List.setIfInBounds_toArray, List.set_cons_zero, List.set_cons_succ, i64_w, i32_w]
            rfl
           refine one_ (i := 7) (N := some 58) (bitsL 10 255) rfl rfl (one_of HT_.out (by kernel_rfl)) (by decide) (fun K hK => ?_)
           refine Kd.R_append_step k104 (w0 := w) w.heap.size (by rfl) (.tmp 52) (.tmp 57) 49 104 (.agg #[(.string ⟨#[]⟩), (.string ⟨#[]⟩)]) 32 rfl Tryd.underlying49 info104 rfl (by decide) (by omega) u366001 x366001_1 (⟨t376, t373⟩ : S104) [.string t376, .string t373] (fun _ => True) (fun _ => False) rfl rfl ?aP (fun _ hk => hk.elim) ?aF ?aO ?aB ?aS ?aL ?_
           (case aP => exact k104_mkM _ _ _ (⟨t376, t373⟩ : S104))
           (case aB => exact bwS)
           (case aF => exact (fun _ _ => trivial))
           (case aO => exact (by (with_reducible repeat (first | apply Kd.R_alloc | apply Kd.R_drewN | apply Kd.R_drew)); exact HO_366001.out))
           (case aS => exact (below_size bwS))
           (case aL => have := LMc30.out; omega)
           intro v378 w34 ho hb hg hat
           rw [← Ny377.out] at ho
           have n0_ := Aside0.mk (Kd.R_over' (by (with_reducible repeat (first | apply Kd.R_alloc | apply Kd.R_drewN | apply Kd.R_drew)); exact HO_21.out) (Kd.R_typed (by (with_reducible repeat (first | apply Kd.R_alloc | apply Kd.R_drewN | apply Kd.R_drew)); exact HO_366001.out)) (by decide) hg)
           have n1_ := Aside0.mk (blk_grown (g := gb360) (o := .cells #[.string x361000_1, .slice none 0 0] 51 (0, 0)) bk hg (Kd.R_ne HO_366001.out BK360.out (by decide)))
           have n2_ := Aside0.mk (blk_grown (g := gb365) (o := .cells #[.string x366000_1, u366001] 51 (0, 0)) bk hg (Kd.R_ne HO_366001.out BK365.out (by decide)))
           have n3_ := Aside0.mk (hb)
           have n4_ := Aside0.mk (ho)
           clear HO_21
           clear BK360
           clear BK365
           clear HB
           clear HO_366001
           have HO_21 := n0_
           have BK360 := n1_
           have BK365 := n2_
           have HB := n3_
           have HO379 := n4_
           clear n0_ n1_ n2_ n3_ n4_
           clear ho hb hg hat
           obtain ⟨Ao35, co35, eo35⟩ := Kd.R_slice HO379.out
           (first | subst eo35 | (injection eo35 with f1_ f2_ f3_; have f4_ := f1_.symm; have f5_ := f3_.symm; clear f1_ f2_ f3_; subst f4_; subst f5_))
           refine hK.out _ _ ⟨(blk_cell BK365.out 0).trans rfl, (blk_cell BK365.out 1).trans rfl⟩ (fun hHeld => ?_)
           clear hK K
           refine norm_ (a' := ?_) ?_ ?_
           rotate_left
           ·show Act.put _ (some 58) _ = _
            simp only [Act.put, List.setIfInBounds_toArray, List.set_cons_zero, List.set_cons_succ, i64_w, i32_w]
            rfl
           refine pure_ (i := 8) (N := some 59) (v := ?_) (a' := ?_) (bitsL 10 511) rfl rfl (any_of HT_.out (by kernel_rfl)) (fun _ _ _ h => h) (Or.inl ⟨by rfl, ?_⟩) ?_ ?_
           rotate_left
           ·intro w'
            go_simp
            with_reducible rfl
           rotate_left
           ·simp only [Act.put, List.setIfInBounds_toArray, List.set_cons_zero, List.set_cons_succ, i64_w, i32_w]
            rfl
           refine last_ (i := 9) (N := none) (bitsL 10 1023) rfl rfl (one_of HT_.out (by kernel_rfl)) (by decide) (fun K hK => ?_)
           have hs36 : w34.cell? ⟨gb365, 1, none⟩ = some (u366001) := (blk_cell BK365.out 1).trans rfl
           have hfs36 := blk_frozen BK365.out 1
           have hns36_0 := NB360_365.out
           have hms36_0 := NB365_360.out
           refine skip_ (w1 := ?_) (by rfl) rfl ?_ ?_
           rotate_left
           ·go_simp
            rfl
           refine hK.out _ _ ?_
           clear hK K
           refine done_ (done_of HT_.out (by kernel_rfl)) ?_
           try go_wp2
           go_roundg k1
           case measure => have := HK1.out; omega
           case rel => exact ⟨(wrap64 (x23_1 + 1)), (x361000_1), (x366000_1), (y377), (.slice Ao35 y377.length co35), cl, H', ⟨by have := HK1.out; omega⟩, ⟨by (with_reducible repeat (first | apply Kd.R_alloc | apply Kd.R_drewN | apply Kd.R_drew)); exact Kd.R_mono (Kd.R_far (p := ⟨gb365, 1, none⟩) (Kd.R_types HO_21.out BK365.out (by decide)) (fun _ hk => hk.2) (.slice Ao35 y377.length co35)) (fun _ hk => trivial)⟩, ⟨by (with_reducible repeat (first | apply Kd.R_alloc | apply Kd.R_drewN | apply Kd.R_drew)); exact Kd.R_mono (Kd.R_far (p := ⟨gb365, 1, none⟩) (Kd.R_types HO379.out BK365.out (by decide)) (fun _ hk => hk.2) (.slice Ao35 y377.length co35)) (fun _ hk => trivial)⟩, ⟨by (with_reducible repeat (first | refine blk_drewN ?_ _ | refine blk_drew ?_ | refine blk_alloc ?_ _)); refine blk_far ?_ NB360_365.out _; (with_reducible repeat (first | refine blk_drewN ?_ _ | refine blk_drew ?_ | refine blk_alloc ?_ _)); exact BK360.out⟩, ⟨by (with_reducible repeat (first | refine blk_drewN ?_ _ | refine blk_drew ?_ | refine blk_alloc ?_ _)); refine blk_put (cs := #[.string x366000_1, u366001]) ?_ 1 _ rfl; (with_reducible repeat (first | refine blk_drewN ?_ _ | refine blk_drew ?_ | refine blk_alloc ?_ _)); exact BK365.out⟩, ⟨bwS⟩⟩
          ·rw [if_neg c30] at H
           exact absurd H (by simp)
         ·replace c28 := Bool.eq_false_iff.mpr c28
          subst c28
          have H1 : (some ((⟨#[]⟩ : ByteArray), ([] : List (S104)), 200)) = some (r1, r2, r3) := by rw [if_neg (show ¬ (false = true) by decide)] at H; exact H
          clear H
          have H := H1
          clear H1
          simp only [Option.some.injEq, Prod.mk.injEq] at H
          obtain ⟨rfl, rfl, rfl⟩ := H
          have p369 : 0 ≤ (x23_1 : Int) := od
          have q369 : x23_1 < (t366.length : Int) := od
          obtain ⟨ad369, e369, hx369_0⟩ := Kd.at_string (Kd.R_reads' HO_21.out).2.2 x23_1 p369 q369
          cases e369
          replace p369 := eq_true p369
          replace q369 := eq_true q369
          go_wp2_with (first | ((with_reducible refine gate_callee (f := 65) rfl ?_); refine goesL_ (some 39) rfl rfl Tryd.func65 (by kernel_rfl) rfl #[.string (rdOf ByteArray.empty t366 x23_1), .string (⟨#[61]⟩ : ByteArray)] rfl am ?_; (with_reducible refine (strings_Cut.calls (hG := by first | exact hG | exact Glob.below hG (by first | exact HB.out | (repeat (first | (with_reducible first | exact HB.out | apply below_alloc | apply pw_below_drewN | apply below_drew1 | refine below_set ?_ GE360.out | refine below_set ?_ GE365.out) | exact HB.out))) | exact Glob.drawn hG (by repeat (first | exact Drawn0.refl _ | apply Drawn0.step))) (rdOf ByteArray.empty t366 x23_1) (⟨#[61]⟩ : ByteArray) t372 t373 true _ A25.out).mono ?_); rintro e w37 ⟨rfl, hb⟩; refine ⟨_, rfl, ?_⟩; have n0_ := Aside0.mk (Kd.R_below (by (with_reducible repeat (first | apply Kd.R_alloc | apply Kd.R_drewN | apply Kd.R_drew)); exact HO_21.out) hb); have n1_ := Aside0.mk (Kd.R_below (by (with_reducible repeat (first | apply Kd.R_alloc | apply Kd.R_drewN | apply Kd.R_drew)); exact HO_366001.out) hb); have n2_ := Aside0.mk (blk_below (g := gb360) (o := .cells #[.string x361000_1, .slice none 0 0] 51 (0, 0)) bk hb); have n3_ := Aside0.mk (blk_below (g := gb365) (o := .cells #[.string x366000_1, u366001] 51 (0, 0)) bk hb); have n4_ := Aside0.mk (below_step bwS hb); clear HO_21; clear HO_366001; clear BK360; clear BK365; clear HB; have HO_21 := n0_; have HO_366001 := n1_; have BK360 := n2_; have BK365 := n3_; have HB := n4_; clear n0_ n1_ n2_ n3_ n4_; (try clear hb); (try clear hb2); (try clear hk); (try clear hi)) | (go_at_call 66; (with_reducible refine (lex_IsAtom.calls k1 t372 false _ A27.out).mono ?_); rintro e w' ⟨rfl, ⟨nd, rfl⟩⟩; (try (rw [drewN_self w37]; generalize hq_ : World.drewN w37 _ = w37; have n0_ : Aside0 (Kd.R Kd.string 9 w37 w.heap.size (fun _ => True) (.slice (some ad369) t366.length co10) t366) := ⟨by rw [← hq_]; exact (by (with_reducible repeat (first | apply Kd.R_alloc | apply Kd.R_drewN | apply Kd.R_drew)); exact HO_21.out)⟩; have n1_ : Aside0 (Kd.R k104 104 w37 w.heap.size (fun _ => True) u366001 x366001_1) := ⟨by rw [← hq_]; exact (by (with_reducible repeat (first | apply Kd.R_alloc | apply Kd.R_drewN | apply Kd.R_drew)); exact HO_366001.out)⟩; have n2_ : Aside0 (w37.heap[gb360]? = some (.cells #[.string x361000_1, .slice none 0 0] 51 (0, 0))) := ⟨by rw [← hq_]; exact bk⟩; have n3_ : Aside0 (w37.heap[gb365]? = some (.cells #[.string x366000_1, u366001] 51 (0, 0))) := ⟨by rw [← hq_]; exact bk⟩; have n4_ : Aside0 (Below w.heap.size w w37) := ⟨by rw [← hq_]; exact bwS⟩; clear HO_21 HO_366001 BK360 BK365 HB hq_; have HO_21 := n0_; have HO_366001 := n1_; have BK360 := n2_; have BK365 := n3_; have HB := n4_; clear n0_ n1_ n2_ n3_ n4_)); have hnb38 := NB360_365.out; have hnc38 := NB365_360.out; have hcz39_0 : w37.cell? ⟨gb360, 0, none⟩ = some (.string x361000_1) := (blk_cell BK360.out 0).trans rfl; have hcz39_1 : w37.cell? ⟨gb360, 1, none⟩ = some (.slice none 0 0) := (blk_cell BK360.out 1).trans rfl; have hfz39_0 := blk_frozen BK360.out 0; have hfz39_1 := blk_frozen BK360.out 1))
          refine bodyPost_ret (results_ct rfl _ _ gb360 51 #[.string (⟨#[]⟩ : ByteArray), .slice none 0 0] (0, 0) _ rfl (by (with_reducible repeat (first | refine blk_drewN ?_ _ | refine blk_drew ?_ | refine blk_alloc ?_ _)); refine blk_put (cs := #[.string (⟨#[]⟩ : ByteArray), .slice none 0 0]) ?_ 1 _ rfl; (with_reducible repeat (first | refine blk_drewN ?_ _ | refine blk_drew ?_ | refine blk_alloc ?_ _)); refine blk_put (cs := #[.string x361000_1, .slice none 0 0]) ?_ 0 _ rfl; (with_reducible repeat (first | refine blk_drewN ?_ _ | refine blk_drew ?_ | refine blk_alloc ?_ _)); exact BK360.out) Tryd.underlying51 rfl (by kernel_rfl)) rfl ?_
          exact ⟨_, by first | rfl | (simp [errW_none, errW_some] <;> rfl) | (simp [*, errW_none, errW_some] <;> rfl), by first | exact Kd.R_nil _ _ _ _ _ | exact Kd.N_nil _ _ _ _ _ | exact Kd.V_nil _ _ _ _ _ | exact Kd.Q_nil _ _ _ _ _ | exact Kd.S_nil _ _ _ _ _, bwS⟩
        ·replace c26 := Bool.eq_false_iff.mpr c26
         subst c26
         have H1 : (some ((⟨#[]⟩ : ByteArray), ([] : List (S104)), 200)) = some (r1, r2, r3) := by rw [if_neg (show ¬ (false = true) by decide)] at H; exact H
         clear H
         have H := H1
         clear H1
         simp only [Option.some.injEq, Prod.mk.injEq] at H
         obtain ⟨rfl, rfl, rfl⟩ := H
         have p369 : 0 ≤ (x23_1 : Int) := od
         have q369 : x23_1 < (t366.length : Int) := od
         obtain ⟨ad369, e369, hx369_0⟩ := Kd.at_string (Kd.R_reads' HO_21.out).2.2 x23_1 p369 q369
         cases e369
         replace p369 := eq_true p369
         replace q369 := eq_true q369
         go_wp2_with (first | ((with_reducible refine gate_callee (f := 65) rfl ?_); refine goesL_ (some 39) rfl rfl Tryd.func65 (by kernel_rfl) rfl #[.string (rdOf ByteArray.empty t366 x23_1), .string (⟨#[61]⟩ : ByteArray)] rfl am ?_; (with_reducible refine (strings_Cut.calls (hG := by first | exact hG | exact Glob.below hG (by first | exact HB.out | (repeat (first | (with_reducible first | exact HB.out | apply below_alloc | apply pw_below_drewN | apply below_drew1 | refine below_set ?_ GE360.out | refine below_set ?_ GE365.out) | exact HB.out))) | exact Glob.drawn hG (by repeat (first | exact Drawn0.refl _ | apply Drawn0.step))) (rdOf ByteArray.empty t366 x23_1) (⟨#[61]⟩ : ByteArray) t372 t373 false _ A25.out).mono ?_); rintro e w40 ⟨rfl, hb⟩; refine ⟨_, rfl, ?_⟩; have n0_ := Aside0.mk (Kd.R_below (by (with_reducible repeat (first | apply Kd.R_alloc | apply Kd.R_drewN | apply Kd.R_drew)); exact HO_21.out) hb); have n1_ := Aside0.mk (Kd.R_below (by (with_reducible repeat (first | apply Kd.R_alloc | apply Kd.R_drewN | apply Kd.R_drew)); exact HO_366001.out) hb); have n2_ := Aside0.mk (blk_below (g := gb360) (o := .cells #[.string x361000_1, .slice none 0 0] 51 (0, 0)) bk hb); have n3_ := Aside0.mk (blk_below (g := gb365) (o := .cells #[.string x366000_1, u366001] 51 (0, 0)) bk hb); have n4_ := Aside0.mk (below_step bwS hb); clear HO_21; clear HO_366001; clear BK360; clear BK365; clear HB; have HO_21 := n0_; have HO_366001 := n1_; have BK360 := n2_; have BK365 := n3_; have HB := n4_; clear n0_ n1_ n2_ n3_ n4_; (try clear hb); (try clear hb2); (try clear hk); (try clear hi); have hnb41 := NB360_365.out; have hnc41 := NB365_360.out; have hcz42_0 : w40.cell? ⟨gb360, 0, none⟩ = some (.string x361000_1) := (blk_cell BK360.out 0).trans rfl; have hcz42_1 : w40.cell? ⟨gb360, 1, none⟩ = some (.slice none 0 0) := (blk_cell BK360.out 1).trans rfl; have hfz42_0 := blk_frozen BK360.out 0; have hfz42_1 := blk_frozen BK360.out 1))
         refine bodyPost_ret (results_ct rfl _ _ gb360 51 #[.string (⟨#[]⟩ : ByteArray), .slice none 0 0] (0, 0) _ rfl (by (with_reducible repeat (first | refine blk_drewN ?_ _ | refine blk_drew ?_ | refine blk_alloc ?_ _)); refine blk_put (cs := #[.string (⟨#[]⟩ : ByteArray), .slice none 0 0]) ?_ 1 _ rfl; (with_reducible repeat (first | refine blk_drewN ?_ _ | refine blk_drew ?_ | refine blk_alloc ?_ _)); refine blk_put (cs := #[.string x361000_1, .slice none 0 0]) ?_ 0 _ rfl; (with_reducible repeat (first | refine blk_drewN ?_ _ | refine blk_drew ?_ | refine blk_alloc ?_ _)); exact BK360.out) Tryd.underlying51 rfl (by kernel_rfl)) rfl ?_
         exact ⟨_, by first | rfl | (simp [errW_none, errW_some] <;> rfl) | (simp [*, errW_none, errW_some] <;> rfl), by first | exact Kd.R_nil _ _ _ _ _ | exact Kd.N_nil _ _ _ _ _ | exact Kd.V_nil _ _ _ _ _ | exact Kd.Q_nil _ _ _ _ _ | exact Kd.S_nil _ _ _ _ _, bwS⟩
      ·rw [if_neg c13] at H
       exact absurd H (by simp)
     ·rw [if_neg c12] at H
      exact absurd H (by simp)
    ·rw [if_neg c11] at H
     have c11b0 : decide (x23_1 < (t366.length : Int)) = false := decide_eq_false c11
     clear c11
     simp only [Option.some.injEq, Prod.mk.injEq] at H
     obtain ⟨rfl, rfl, rfl⟩ := H
     have hnb43 := NB365_360.out
     have hnc43 := NB360_365.out
     have hcz44_0 : wr.cell? ⟨gb365, 0, none⟩ = some (.string x366000_1) := (blk_cell BK365.out 0).trans rfl
     have hcz44_1 : wr.cell? ⟨gb365, 1, none⟩ = some (u366001) := (blk_cell BK365.out 1).trans rfl
     have hfz44_0 := blk_frozen BK365.out 0
     have hfz44_1 := blk_frozen BK365.out 1
     have hcz45_0 : wr.cell? ⟨gb360, 0, none⟩ = some (.string x361000_1) := (blk_cell BK360.out 0).trans rfl
     have hcz45_1 : wr.cell? ⟨gb360, 1, none⟩ = some (.slice none 0 0) := (blk_cell BK360.out 1).trans rfl
     have hfz45_0 := blk_frozen BK360.out 0
     have hfz45_1 := blk_frozen BK360.out 1
     obtain ⟨Ao46, co46, eo46⟩ := Kd.R_slice HO_366001.out
     subst eo46
     go_wp2
     refine bodyPost_ret (results_ct rfl _ _ gb360 51 #[.string x366000_1, .slice Ao46 x366001_1.length co46] (0, 0) _ rfl (by (with_reducible repeat (first | refine blk_drewN ?_ _ | refine blk_drew ?_ | refine blk_alloc ?_ _)); refine blk_put (cs := #[.string x366000_1, .slice none 0 0]) ?_ 1 _ rfl; (with_reducible repeat (first | refine blk_drewN ?_ _ | refine blk_drew ?_ | refine blk_alloc ?_ _)); refine blk_put (cs := #[.string x361000_1, .slice none 0 0]) ?_ 0 _ rfl; (with_reducible repeat (first | refine blk_drewN ?_ _ | refine blk_drew ?_ | refine blk_alloc ?_ _)); exact BK360.out) Tryd.underlying51 rfl (by kernel_rfl)) rfl ?_
     exact ⟨_, by first | rfl | (simp [errW_none, errW_some] <;> rfl) | (simp [*, errW_none, errW_some] <;> rfl), by (with_reducible repeat (first | apply Kd.R_alloc | apply Kd.R_drewN | apply Kd.R_drew)); exact Kd.R_mono (Kd.R_far (p := ⟨gb360, 1, none⟩) (Kd.R_far (p := ⟨gb360, 0, none⟩) (Kd.R_types HO_366001.out BK360.out (by decide)) (fun _ hk => hk.2) (.string x366000_1)) (fun _ hk => hk.2) (.slice Ao46 x366001_1.length co46)) (fun _ hk => trivial), bwS⟩
 ·rw [if_neg c3] at H
  have c3b0 : (t362 == 0) = false := beq_eq_false_iff_ne.mpr c3
  have c3b1 : (t362 != 0) = true := bne_iff_ne.mpr c3
  simp only [Option.some.injEq, Prod.mk.injEq] at H
  obtain ⟨rfl, rfl, rfl⟩ := H
  go_enter Tryd.func27, Tryd.ntmps27
  go_wp2_with (first | ((with_reducible refine gate_dst (N := 2) rfl ?_); refine box_event ?hg (N := 2) ?hd (cs := #[.string (⟨#[]⟩ : ByteArray), .slice none 0 0]) (t := 51) ?hr ?_; (case hd => rfl); (case hg => rfl); (case hr => first | (go_simp; done) | (go_simp; rfl)); intro gb360 hg w47 hbox hb; have n0_ := Aside0.mk (below_step bw hb); have n1_ := Aside0.mk (hbox); have n2_ := Aside0.mk ((by rw [hg]; exact (below_size bw) : w.heap.size ≤ gb360)); have n3_ := Aside0.mk ((by rw [hg]; exact (below_size bw) : w.heap.size ≤ gb360)); clear HB; have HB := n0_; have BK360 := n1_; have GW360 := n2_; have GE360 := n3_; clear n0_ n1_ n2_ n3_; clear hb hbox hg) | ((with_reducible refine gate_callee (f := 61) rfl ?_); refine goesL_ (some 14) rfl rfl Tryd.func61 (by kernel_rfl) rfl #[.string a0] rfl am ?_; (with_reducible refine (lex_Scan.calls k a0 t361 t362 _ A2.out).mono ?_); rintro e w48 ⟨v363, rfl, ho0, hb⟩; refine ⟨_, rfl, ?_⟩; have n0_ := Aside0.mk (Kd.R_lower ho0 (below_size bwS)); have n1_ := Aside0.mk (blk_below (g := gb360) (o := .cells #[.string (⟨#[]⟩ : ByteArray), .slice none 0 0] 51 (0, 0)) bk hb); have n2_ := Aside0.mk (below_step bwS hb); clear BK360; clear HB; have HO364 := n0_; have BK360 := n1_; have HB := n2_; clear n0_ n1_ n2_; (try clear hb); (try clear hb2); (try clear hk); (try clear hi); (try clear ho0); have hcz49_0 : w48.cell? ⟨gb360, 0, none⟩ = some (.string (⟨#[]⟩ : ByteArray)) := (blk_cell BK360.out 0).trans rfl; have hcz49_1 : w48.cell? ⟨gb360, 1, none⟩ = some (.slice none 0 0) := (blk_cell BK360.out 1).trans rfl; have hfz49_0 := blk_frozen BK360.out 0; have hfz49_1 := blk_frozen BK360.out 1))
  refine bodyPost_ret (results_ct rfl _ _ gb360 51 #[.string (⟨#[]⟩ : ByteArray), .slice none 0 0] (0, 0) _ rfl (by (with_reducible repeat (first | refine blk_drewN ?_ _ | refine blk_drew ?_ | refine blk_alloc ?_ _)); refine blk_put (cs := #[.string (⟨#[]⟩ : ByteArray), .slice none 0 0]) ?_ 1 _ rfl; (with_reducible repeat (first | refine blk_drewN ?_ _ | refine blk_drew ?_ | refine blk_alloc ?_ _)); refine blk_put (cs := #[.string (⟨#[]⟩ : ByteArray), .slice none 0 0]) ?_ 0 _ rfl; (with_reducible repeat (first | refine blk_drewN ?_ _ | refine blk_drew ?_ | refine blk_alloc ?_ _)); exact BK360.out) Tryd.underlying51 rfl (by kernel_rfl)) rfl ?_
  exact ⟨_, by first | rfl | (simp [errW_none, errW_some] <;> rfl) | (simp [*, errW_none, errW_some] <;> rfl), by first | exact Kd.R_nil _ _ _ _ _ | exact Kd.N_nil _ _ _ _ _ | exact Kd.V_nil _ _ _ _ _ | exact Kd.Q_nil _ _ _ _ _ | exact Kd.S_nil _ _ _ _ _, bwS⟩

end Go.Proofs.YtoikneogdbdplaaDoor.Fn
namespace Go.Proofs.YtoikneogdbdplaaDoor.Fn
open Go.RowKit Go.Proofs.YtoikneogdbdplaaDoorW.PrintWords Go.Proofs.YtoikneogdbdplaaDoorW.PrintLast Go.Proofs.YtoikneogdbdplaaDoorW.PrintMore
attribute [local go_sem] max2_int min2_int max_two min_two max_three min_three max_four min_four
set_option linter.unusedVariables false
set_option linter.unusedSimpArgs false

/-! ### lex_Quote: function 107 -/
mutual
def lex_Quote.l0 : Nat → ByteArray → List Int → Int → Int → Option (ByteArray)
 | 0, _, _, _, _ => none
 | k + 1, x0, x3, x8, x9 => if x9 < x8 then (if 0 ≤ x9 then (if x9 < (x0.size : Int) then (if (bt x0 x9) = 34 then (lex_Quote.j1 k x0 x3 (bt x0 x9) x8 x9 true) else (lex_Quote.j1 k x0 x3 (bt x0 x9) x8 x9 ((bt x0 x9) == 92))) else (none)) else (none)) else (if x3.length < 140737488355328 then (some (strOfNums (x3 ++ [34]))) else (none))
def lex_Quote.j1 : Nat → ByteArray → List Int → Int → Int → Int → Bool → Option (ByteArray)
 | 0, _, _, _, _, _, _ => none
 | k + 1, x0, x3, x5, x8, x9, x15 => if x15 = true then (if x3.length < 140737488355328 then ((some (x3 ++ [92] : List Int)).bind fun y107 => (if y107.length < 140737488355328 then (lex_Quote.l0 k x0 (y107 ++ [x5]) x8 (wrap64 (x9 + 1))) else (none))) else (none)) else ((lex_text.f x5).bind fun t113 => (if t113 = true then (if x3.length < 140737488355328 then (lex_Quote.l0 k x0 (x3 ++ [x5]) x8 (wrap64 (x9 + 1))) else (none)) else (if x3.length < 140737488355328 then (lex_Quote.l0 k x0 (x3 ++ [32]) x8 (wrap64 (x9 + 1))) else (none))))
end
def lex_Quote.f (k : Nat) (a0 : ByteArray) : Option (ByteArray) := lex_Quote.l0 k a0 (([34] : List Int)) (a0.size : Int) 0
theorem lex_Quote.mono_l : ∀ k, (∀ y0 y1 y2 y3, LeO (lex_Quote.l0 k y0 y1 y2 y3) (lex_Quote.l0 (k + 1) y0 y1 y2 y3)) ∧ (∀ y0 y1 y2 y3 y4 y5, LeO (lex_Quote.j1 k y0 y1 y2 y3 y4 y5) (lex_Quote.j1 (k + 1) y0 y1 y2 y3 y4 y5))
 | 0 => ⟨fun _ _ _ _ r h => by simp [lex_Quote.l0] at h, fun _ _ _ _ _ _ r h => by simp [lex_Quote.j1] at h⟩
 | k + 1 => by
  obtain ⟨ih0, ih1⟩ := lex_Quote.mono_l k
  refine ⟨?_, ?_⟩
  ·intro y0 y1 y2 y3
   unfold lex_Quote.l0
   repeat' first
   | (with_reducible exact ih0 _ _ _ _)
   | (with_reducible exact ih1 _ _ _ _ _ _)
   | (with_reducible exact LeO.refl _)
   | (with_reducible exact LeO.none _)
   | (with_reducible refine LeO.ite ?_ ?_)
   | (with_reducible refine LeO.bind ?_ (fun _ => ?_))
   | exact ih0 _ _ _ _
   | exact ih1 _ _ _ _ _ _
   | exact LeO.none _
   | refine LeO.ite ?_ ?_
   | refine LeO.bind ?_ (fun _ => ?_)
  ·intro y0 y1 y2 y3 y4 y5
   unfold lex_Quote.j1
   repeat' first
   | (with_reducible exact ih0 _ _ _ _)
   | (with_reducible exact ih1 _ _ _ _ _ _)
   | (with_reducible exact LeO.refl _)
   | (with_reducible exact LeO.none _)
   | (with_reducible refine LeO.ite ?_ ?_)
   | (with_reducible refine LeO.bind ?_ (fun _ => ?_))
   | exact ih0 _ _ _ _
   | exact ih1 _ _ _ _ _ _
   | exact LeO.none _
   | refine LeO.ite ?_ ?_
   | refine LeO.bind ?_ (fun _ => ?_)
theorem lex_Quote.mono : ∀ a0 k, LeO (lex_Quote.f k a0) (lex_Quote.f (k + 1) a0) := by
 intro a0 k
 obtain ⟨ih0, ih1⟩ := lex_Quote.mono_l k
 unfold lex_Quote.f
 repeat' first
   | (with_reducible exact ih0 _ _ _ _)
   | (with_reducible exact ih1 _ _ _ _ _ _)
   | (with_reducible exact LeO.refl _)
   | (with_reducible exact LeO.none _)
   | (with_reducible refine LeO.ite ?_ ?_)
   | (with_reducible refine LeO.bind ?_ (fun _ => ?_))
   | exact ih0 _ _ _ _
   | exact ih1 _ _ _ _ _ _
   | exact LeO.none _
   | refine LeO.ite ?_ ?_
   | refine LeO.bind ?_ (fun _ => ?_)
set_option maxHeartbeats 8000000 in
set_option maxRecDepth 100000 in
theorem lex_Quote.calls (k : Nat) (a0 : ByteArray) (r : ByteArray) (w : World) (h : lex_Quote.f k a0 = some r) :
  Calls Tryd.prog 107 #[.string a0] w fun e w' => e = .returned (.string r) ∧ Below w.heap.size w w' := by
 have HB := Aside0.mk (Below.refl w.heap.size w)
 have H : (lex_Quote.l0 k a0 (([34] : List Int)) (a0.size : Int) 0) = some r := h
 clear h
 obtain ⟨y101, hy101⟩ : ∃ y_ : List Int, y_ = (([34] : List Int)) := ⟨_, rfl⟩
 replace H : (lex_Quote.l0 k a0 y101 (a0.size : Int) 0) = some r := by first | (rw [hy101]; with_reducible exact H) | (have H2_ := (Option.bind_some _ _).symm.trans H; rw [hy101]; with_reducible exact H2_) | (have H2_ := (Option.bind_some _ _).symm.trans H; with_reducible exact H2_) | with_reducible exact H | (rw [hy101]; exact H) | exact H
 have Ny101 := Aside0.mk hy101
 clear hy101
 have H' := Aside0.mk H
 clear H
 go_enter Tryd.func107, Tryd.ntmps107
 go_wp2_with (first | ((with_reducible refine gate_dst (N := 6) rfl ?_); refine Kd.R_lit (Kd.int .u8) _ 5 ?hg (N := 6) ?hd (xs := ([34] : List Int)) (inner := [.int .u8 34]) (ok := fun _ => True) (okp := fun _ => True) ?hr ?hp (fun _ hk => hk) trivial (Below.refl _ _) (Nat.le_refl _) (by simp) ?_; (case hd => rfl); (case hg => rfl); (case hr => first | (go_simp; done) | (go_simp; rfl)); (case hp => exact (Reps.one (show Kd.M (Kd.int .u8) _ _ _ 34 [.int .u8 34] from rfl) (Reps.none _ _))); intro v102 w2 ho3 hb hg_ hnew_; clear hg_ hnew_; (first | rw [← Ny101.out] at ho3 | (simp only [Int.reduceToNat] at ho3; rw [← Ny101.out] at ho3)); have n0_ := Aside0.mk (Kd.R_lower ho3 (below_size bw)); have n1_ := Aside0.mk (below_step bw hb); clear HB; have HO103 := n0_; have HB := n1_; clear n0_ n1_; clear hb ho3))
 go_loopg [3, 9] k (fun kq v3 v9 w' => ∃ (x3_1 : List Int) (x9_1 : Int), v9 = .int .i64 x9_1 ∧ Aside0 (lex_Quote.l0 kq a0 x3_1 (a0.size : Int) x9_1 = some r) ∧ Aside0 (kq ≤ k) ∧ Aside0 (Kd.R (Kd.int .u8) 5 w' w.heap.size (fun _ => True) v3 x3_1) ∧ Aside0 (Below w.heap.size w w'))
 case atStart => exact ⟨(y101), (0), cl, H', ⟨Nat.le_refl _⟩, ⟨by (with_reducible repeat (first | apply Kd.R_alloc | apply Kd.R_drewN | apply Kd.R_drew)); exact HO103.out⟩, ⟨bw⟩⟩
 case round =>
  clear H'
  try clear c1
  try clear p2
  obtain ⟨x3_1, x9_1, rfl, HA, HK1, HO_3, HB⟩ := hrel
  cases gk with
  | zero => exact absurd HA.out (by simp [lex_Quote.l0])
  | succ k1 =>
   have H := HA.out
   clear HA
   simp only [lex_Quote.l0] at H
   by_cases c4 : x9_1 < (a0.size : Int)
   ·rw [if_pos c4] at H
    have c4b0 : decide (x9_1 < (a0.size : Int)) = true := decide_eq_true c4
    clear c4
    by_cases c5 : 0 ≤ x9_1
    ·rw [if_pos c5] at H
     have c5b0 : decide (0 ≤ x9_1) = true := decide_eq_true c5
     clear c5
     by_cases c6 : x9_1 < (a0.size : Int)
     ·rw [if_pos c6] at H
      have c6b0 : decide (x9_1 < (a0.size : Int)) = true := decide_eq_true c6
      clear c6
      have HC8 := Aside0.mk H
      clear H
      have p7 : 0 ≤ (x9_1 : Int) := od
      have q7 : x9_1 < (a0.size : Int) := od
      have hx7 := bt_at a0 x9_1
      replace p7 := eq_true p7
      replace q7 := eq_true q7
      go_upto_region 6 with (fail)
      go_cut [15] (fun v15 wc => ∃ (kq : Nat) (x15_7 : Bool), v15 = .bool x15_7 ∧ Aside0 (lex_Quote.j1 kq a0 x3_1 (bt a0 x9_1) (a0.size : Int) x9_1 x15_7 = some r) ∧ Aside0 (kq ≤ k1) ∧ Aside0 (Kd.R (Kd.int .u8) 5 wc w.heap.size (fun _ => True) u3 x3_1) ∧ Aside0 (Below w.heap.size w wc))
      case first =>
       have H := HC8.out
       clear HC8
       by_cases c9 : (bt a0 x9_1) = 34
       ·rw [if_pos c9] at H
        have c9b0 : ((bt a0 x9_1) == 34) = true := beq_iff_eq.mpr c9
        have c9b1 : ((bt a0 x9_1) != 34) = false := bne_eq_false_iff_eq.mpr c9
        clear c9
        (first | rw [c9b0] | (simp only [i64_w, i32_w]; rw [c9b0]) | skip)
        have H' := Aside0.mk H
        clear H
        go_wp2
        go_meet
        case rel => exact ⟨_, (true), cl, H', ⟨by have := HK1.out; first | omega | exact Nat.le_refl _⟩, ⟨by (with_reducible repeat (first | apply Kd.R_alloc | apply Kd.R_drewN | apply Kd.R_drew)); exact HO_3.out⟩, ⟨bw⟩⟩
       ·rw [if_neg c9] at H
        have c9b0 : ((bt a0 x9_1) == 34) = false := beq_eq_false_iff_ne.mpr c9
        have c9b1 : ((bt a0 x9_1) != 34) = true := bne_iff_ne.mpr c9
        (first | rw [c9b0] | (simp only [i64_w, i32_w]; rw [c9b0]) | skip)
        have H' := Aside0.mk H
        clear H
        go_wp2
        go_meet
        case rel => exact ⟨_, (((bt a0 x9_1) == 92)), cl, H', ⟨by have := HK1.out; first | omega | exact Nat.le_refl _⟩, ⟨by (with_reducible repeat (first | apply Kd.R_alloc | apply Kd.R_drewN | apply Kd.R_drew)); exact HO_3.out⟩, ⟨bw⟩⟩
      case rest =>
       clear HC8
       try clear c1
       try clear p2
       try clear c4
       try clear c4b0
       try clear c5
       try clear c5b0
       try clear c6
       try clear c6b0
       try clear p7
       try clear q7
       try clear hx7
       try clear c9
       try clear c9b0
       try clear c9b1
       try clear p2
       try clear p7
       try clear q7
       obtain ⟨kq, x15_7, rfl, HA, HJ7, HO_3, HB⟩ := hcut
       cases kq with
       | zero => exact absurd HA.out (by simp [lex_Quote.j1])
       | succ kj7 =>
        have H := HA.out
        clear HA
        simp only [lex_Quote.j1] at H
        by_cases c10 : x15_7 = true
        ·subst c10
         have H1 : (if x3_1.length < 140737488355328 then ((some (x3_1 ++ [92] : List Int)).bind fun y107 => (if y107.length < 140737488355328 then (lex_Quote.l0 kj7 a0 (y107 ++ [(bt a0 x9_1)]) (a0.size : Int) (wrap64 (x9_1 + 1))) else (none))) else (none)) = some r := by rw [if_pos rfl] at H; exact H
         clear H
         have H := H1
         clear H1
         by_cases c11 : x3_1.length < 140737488355328
         ·rw [if_pos c11] at H
          have LMc11 := Aside0.mk c11
          clear c11
          obtain ⟨y107, hy107⟩ : ∃ y_ : List Int, y_ = (x3_1 ++ [92]) := ⟨_, rfl⟩
          replace H : (if y107.length < 140737488355328 then (lex_Quote.l0 kj7 a0 (y107 ++ [(bt a0 x9_1)]) (a0.size : Int) (wrap64 (x9_1 + 1))) else (none)) = some r := by first | (rw [hy107]; with_reducible exact H) | (have H2_ := (Option.bind_some _ _).symm.trans H; rw [hy107]; with_reducible exact H2_) | (have H2_ := (Option.bind_some _ _).symm.trans H; with_reducible exact H2_) | with_reducible exact H | (rw [hy107]; exact H) | exact H
          have Ny107 := Aside0.mk hy107
          clear hy107
          by_cases c12 : y107.length < 140737488355328
          ·rw [if_pos c12] at H
           have LMc12 := Aside0.mk c12
           clear c12
           obtain ⟨y110, hy110⟩ : ∃ y_ : List Int, y_ = (y107 ++ [(bt a0 x9_1)]) := ⟨_, rfl⟩
           replace H : (lex_Quote.l0 kj7 a0 y110 (a0.size : Int) (wrap64 (x9_1 + 1))) = some r := by first | (rw [hy110]; with_reducible exact H) | (have H2_ := (Option.bind_some _ _).symm.trans H; rw [hy110]; with_reducible exact H2_) | (have H2_ := (Option.bind_some _ _).symm.trans H; with_reducible exact H2_) | with_reducible exact H | (rw [hy110]; exact H) | exact H
           have Ny110 := Aside0.mk hy110
           clear hy110
           have H' := Aside0.mk H
           clear H
           go_wp2_with (first | ((with_reducible refine gate_builtin (b := .append) (xs := #[.tmp 22, .tmp 23]) rfl ?_); at_builtin; refine Kd.R_append (Kd.int .u8) (w0 := w) w.heap.size rfl (.tmp 22) (.tmp 23) 116 5 (.int .u8 0) 1 rfl Tryd.underlying116 info5 rfl (by decide) (by omega) u3 x3_1 92 [.int .u8 92] (fun _ => True) (fun _ => False) rfl rfl ?aP (fun _ hk => hk.elim) ?aF ?aO ?aB ?aS ?aL ?_; (case aP => exact rfl); (case aB => exact bw); (case aF => exact (fun _ _ => trivial)); (case aO => exact (by (with_reducible repeat (first | apply Kd.R_alloc | apply Kd.R_drewN | apply Kd.R_drew)); exact HO_3.out)); (case aS => exact (below_size bw)); (case aL => have := LMc11.out; omega); intro v108 w13 ho hb hg hat; rw [← Ny107.out] at ho; have n0_ := Aside0.mk (hb); have n1_ := Aside0.mk (ho); clear HB; clear HO_3; have HB := n0_; have HO109 := n1_; clear n0_ n1_; clear ho hb hg hat) | ((with_reducible refine gate_builtin (b := .append) (xs := #[.tmp 29, .tmp 31]) rfl ?_); at_builtin; refine Kd.R_append (Kd.int .u8) (w0 := w) w.heap.size rfl (.tmp 29) (.tmp 31) 116 5 (.int .u8 0) 1 rfl Tryd.underlying116 info5 rfl (by decide) (by omega) v108 y107 (bt a0 x9_1) [.int .u8 (bt a0 x9_1)] (fun _ => True) (fun _ => False) rfl rfl ?aP (fun _ hk => hk.elim) ?aF ?aO ?aB ?aS ?aL ?_; (case aP => exact rfl); (case aB => exact bw); (case aF => exact (fun _ _ => trivial)); (case aO => exact (by (with_reducible repeat (first | apply Kd.R_alloc | apply Kd.R_drewN | apply Kd.R_drew)); exact HO109.out)); (case aS => exact (below_size bw)); (case aL => have := LMc12.out; omega); intro v111 w14 ho hb hg hat; rw [← Ny110.out] at ho; have n0_ := Aside0.mk (hb); have n1_ := Aside0.mk (ho); clear HB; clear HO109; have HB := n0_; have HO112 := n1_; clear n0_ n1_; clear ho hb hg hat))
           go_roundg kj7
           case measure => have := HK1.out; have := HJ7.out; omega
           case rel => exact ⟨(y110), (wrap64 (x9_1 + 1)), cl, H', ⟨by have := HK1.out; have := HJ7.out; omega⟩, ⟨by (with_reducible repeat (first | apply Kd.R_alloc | apply Kd.R_drewN | apply Kd.R_drew)); exact HO112.out⟩, ⟨bw⟩⟩
          ·rw [if_neg c12] at H
           exact absurd H (by simp)
         ·rw [if_neg c11] at H
          exact absurd H (by simp)
        ·replace c10 := Bool.eq_false_iff.mpr c10
         subst c10
         have H1 : ((lex_text.f (bt a0 x9_1)).bind fun t113 => (if t113 = true then (if x3_1.length < 140737488355328 then (lex_Quote.l0 kj7 a0 (x3_1 ++ [(bt a0 x9_1)]) (a0.size : Int) (wrap64 (x9_1 + 1))) else (none)) else (if x3_1.length < 140737488355328 then (lex_Quote.l0 kj7 a0 (x3_1 ++ [32]) (a0.size : Int) (wrap64 (x9_1 + 1))) else (none)))) = some r := by rw [if_neg (show ¬ (false = true) by decide)] at H; exact H
         clear H
         have H := H1
         clear H1
         replace H := Option.bind_eq_some_iff.mp H
         obtain ⟨t113, A150, H⟩ := H
         replace H : (if t113 = true then (if x3_1.length < 140737488355328 then (lex_Quote.l0 kj7 a0 (x3_1 ++ [(bt a0 x9_1)]) (a0.size : Int) (wrap64 (x9_1 + 1))) else (none)) else (if x3_1.length < 140737488355328 then (lex_Quote.l0 kj7 a0 (x3_1 ++ [32]) (a0.size : Int) (wrap64 (x9_1 + 1))) else (none))) = some r := H
         have A15 := Aside0.mk A150
         clear A150
         by_cases c16 : t113 = true
         ·subst c16
          have H1 : (if x3_1.length < 140737488355328 then (lex_Quote.l0 kj7 a0 (x3_1 ++ [(bt a0 x9_1)]) (a0.size : Int) (wrap64 (x9_1 + 1))) else (none)) = some r := by rw [if_pos rfl] at H; exact H
          clear H
          have H := H1
          clear H1
          by_cases c17 : x3_1.length < 140737488355328
          ·rw [if_pos c17] at H
           have LMc17 := Aside0.mk c17
           clear c17
           obtain ⟨y114, hy114⟩ : ∃ y_ : List Int, y_ = (x3_1 ++ [(bt a0 x9_1)]) := ⟨_, rfl⟩
           replace H : (lex_Quote.l0 kj7 a0 y114 (a0.size : Int) (wrap64 (x9_1 + 1))) = some r := by first | (rw [hy114]; with_reducible exact H) | (have H2_ := (Option.bind_some _ _).symm.trans H; rw [hy114]; with_reducible exact H2_) | (have H2_ := (Option.bind_some _ _).symm.trans H; with_reducible exact H2_) | with_reducible exact H | (rw [hy114]; exact H) | exact H
           have Ny114 := Aside0.mk hy114
           clear hy114
           have H' := Aside0.mk H
           clear H
           go_wp2_with (first | ((with_reducible refine gate_callee (f := 132) rfl ?_); refine goesL_ (some 27) rfl rfl Tryd.func132 (by kernel_rfl) rfl #[.int .u8 (bt a0 x9_1)] rfl am ?_; (with_reducible refine (lex_text.calls (bt a0 x9_1) true _ A15.out).mono ?_); rintro e w' ⟨rfl, ⟨nd, rfl⟩⟩; refine ⟨_, rfl, ?_⟩) | ((with_reducible refine gate_builtin (b := .append) (xs := #[.tmp 29, .tmp 31]) rfl ?_); at_builtin; refine Kd.R_append (Kd.int .u8) (w0 := w) w.heap.size rfl (.tmp 29) (.tmp 31) 116 5 (.int .u8 0) 1 rfl Tryd.underlying116 info5 rfl (by decide) (by omega) u3 x3_1 (bt a0 x9_1) [.int .u8 (bt a0 x9_1)] (fun _ => True) (fun _ => False) rfl rfl ?aP (fun _ hk => hk.elim) ?aF ?aO ?aB ?aS ?aL ?_; (case aP => exact rfl); (case aB => exact bw); (case aF => exact (fun _ _ => trivial)); (case aO => exact (by (with_reducible repeat (first | apply Kd.R_alloc | apply Kd.R_drewN | apply Kd.R_drew)); exact HO_3.out)); (case aS => exact (below_size bw)); (case aL => have := LMc17.out; omega); intro v115 w18 ho hb hg hat; rw [← Ny114.out] at ho; have n0_ := Aside0.mk (hb); have n1_ := Aside0.mk (ho); clear HB; clear HO_3; have HB := n0_; have HO116 := n1_; clear n0_ n1_; clear ho hb hg hat))
           go_roundg kj7
           case measure => have := HK1.out; have := HJ7.out; omega
           case rel => exact ⟨(y114), (wrap64 (x9_1 + 1)), cl, H', ⟨by have := HK1.out; have := HJ7.out; omega⟩, ⟨by (with_reducible repeat (first | apply Kd.R_alloc | apply Kd.R_drewN | apply Kd.R_drew)); exact HO116.out⟩, ⟨bw⟩⟩
          ·rw [if_neg c17] at H
           exact absurd H (by simp)
         ·replace c16 := Bool.eq_false_iff.mpr c16
          subst c16
          have H1 : (if x3_1.length < 140737488355328 then (lex_Quote.l0 kj7 a0 (x3_1 ++ [32]) (a0.size : Int) (wrap64 (x9_1 + 1))) else (none)) = some r := by rw [if_neg (show ¬ (false = true) by decide)] at H; exact H
          clear H
          have H := H1
          clear H1
          by_cases c19 : x3_1.length < 140737488355328
          ·rw [if_pos c19] at H
           have LMc19 := Aside0.mk c19
           clear c19
           obtain ⟨y117, hy117⟩ : ∃ y_ : List Int, y_ = (x3_1 ++ [32]) := ⟨_, rfl⟩
           replace H : (lex_Quote.l0 kj7 a0 y117 (a0.size : Int) (wrap64 (x9_1 + 1))) = some r := by first | (rw [hy117]; with_reducible exact H) | (have H2_ := (Option.bind_some _ _).symm.trans H; rw [hy117]; with_reducible exact H2_) | (have H2_ := (Option.bind_some _ _).symm.trans H; with_reducible exact H2_) | with_reducible exact H | (rw [hy117]; exact H) | exact H
           have Ny117 := Aside0.mk hy117
           clear hy117
           have H' := Aside0.mk H
           clear H
           go_wp2_with (first | ((with_reducible refine gate_callee (f := 132) rfl ?_); refine goesL_ (some 27) rfl rfl Tryd.func132 (by kernel_rfl) rfl #[.int .u8 (bt a0 x9_1)] rfl am ?_; (with_reducible refine (lex_text.calls (bt a0 x9_1) false _ A15.out).mono ?_); rintro e w' ⟨rfl, ⟨nd, rfl⟩⟩; refine ⟨_, rfl, ?_⟩) | ((with_reducible refine gate_builtin (b := .append) (xs := #[.tmp 29, .tmp 31]) rfl ?_); at_builtin; refine Kd.R_append (Kd.int .u8) (w0 := w) w.heap.size rfl (.tmp 29) (.tmp 31) 116 5 (.int .u8 0) 1 rfl Tryd.underlying116 info5 rfl (by decide) (by omega) u3 x3_1 32 [.int .u8 32] (fun _ => True) (fun _ => False) rfl rfl ?aP (fun _ hk => hk.elim) ?aF ?aO ?aB ?aS ?aL ?_; (case aP => exact rfl); (case aB => exact bw); (case aF => exact (fun _ _ => trivial)); (case aO => exact (by (with_reducible repeat (first | apply Kd.R_alloc | apply Kd.R_drewN | apply Kd.R_drew)); exact HO_3.out)); (case aS => exact (below_size bw)); (case aL => have := LMc19.out; omega); intro v118 w20 ho hb hg hat; rw [← Ny117.out] at ho; have n0_ := Aside0.mk (hb); have n1_ := Aside0.mk (ho); clear HB; clear HO_3; have HB := n0_; have HO119 := n1_; clear n0_ n1_; clear ho hb hg hat))
           go_roundg kj7
           case measure => have := HK1.out; have := HJ7.out; omega
           case rel => exact ⟨(y117), (wrap64 (x9_1 + 1)), cl, H', ⟨by have := HK1.out; have := HJ7.out; omega⟩, ⟨by (with_reducible repeat (first | apply Kd.R_alloc | apply Kd.R_drewN | apply Kd.R_drew)); exact HO119.out⟩, ⟨bw⟩⟩
          ·rw [if_neg c19] at H
           exact absurd H (by simp)
     ·rw [if_neg c6] at H
      exact absurd H (by simp)
    ·rw [if_neg c5] at H
     exact absurd H (by simp)
   ·rw [if_neg c4] at H
    have c4b0 : decide (x9_1 < (a0.size : Int)) = false := decide_eq_false c4
    clear c4
    by_cases c21 : x3_1.length < 140737488355328
    ·rw [if_pos c21] at H
     have LMc21 := Aside0.mk c21
     clear c21
     obtain ⟨y104, hy104⟩ : ∃ y_ : List Int, y_ = (x3_1 ++ [34]) := ⟨_, rfl⟩
     replace H : (some (strOfNums y104)) = some r := by first | (rw [hy104]; with_reducible exact H) | (have H2_ := (Option.bind_some _ _).symm.trans H; rw [hy104]; with_reducible exact H2_) | (have H2_ := (Option.bind_some _ _).symm.trans H; with_reducible exact H2_) | with_reducible exact H | (rw [hy104]; exact H) | exact H
     have Ny104 := Aside0.mk hy104
     clear hy104
     obtain rfl := Option.some.inj H
     go_wp2_with (first | ((with_reducible refine gate_builtin (b := .append) (xs := #[.tmp 34, .tmp 35]) rfl ?_); at_builtin; refine Kd.R_append (Kd.int .u8) (w0 := w) w.heap.size rfl (.tmp 34) (.tmp 35) 116 5 (.int .u8 0) 1 rfl Tryd.underlying116 info5 rfl (by decide) (by omega) u3 x3_1 34 [.int .u8 34] (fun _ => True) (fun _ => False) rfl rfl ?aP (fun _ hk => hk.elim) ?aF ?aO ?aB ?aS ?aL ?_; (case aP => exact rfl); (case aB => exact bw); (case aF => exact (fun _ _ => trivial)); (case aO => exact (by (with_reducible repeat (first | apply Kd.R_alloc | apply Kd.R_drewN | apply Kd.R_drew)); exact HO_3.out)); (case aS => exact (below_size bw)); (case aL => have := LMc21.out; omega); intro v105 w22 ho hb hg hat; rw [← Ny104.out] at ho; have n0_ := Aside0.mk (hb); have n1_ := Aside0.mk (ho); clear HB; clear HO_3; have HB := n0_; have HO106 := n1_; clear n0_ n1_; clear ho hb hg hat; have hcv23 := own_string (P := Tryd.prog) Tryd.underlying116 Tryd.underlying5 Tryd.underlying9 (Kd.own_of_R HO106.out)))
     go_ret
     exact ⟨by first | rfl | (simp [errW_none, errW_some] <;> rfl) | (simp [*, errW_none, errW_some] <;> rfl), bw⟩
    ·rw [if_neg c21] at H
     exact absurd H (by simp)

end Go.Proofs.YtoikneogdbdplaaDoor.Fn
namespace Go.Proofs.YtoikneogdbdplaaDoor.Fn
open Go.RowKit Go.Proofs.YtoikneogdbdplaaDoorW.PrintWords Go.Proofs.YtoikneogdbdplaaDoorW.PrintLast Go.Proofs.YtoikneogdbdplaaDoorW.PrintMore
attribute [local go_sem] max2_int min2_int max_two min_two max_three min_three max_four min_four
set_option linter.unusedVariables false
set_option linter.unusedSimpArgs false

/-! ### mime_word: function 71 -/
def mime_word.f (k : Nat) (a0 : ByteArray) : Option (ByteArray) := (lex_IsAtom.f k a0).bind fun t384 => (if t384 = true then ((strings_Contains.f a0 (⟨#[61]⟩ : ByteArray)).bind fun t385 => (if t385 = true then ((lex_Quote.f k a0).bind fun t386 => (some t386)) else ((strings_Contains.f a0 (⟨#[47]⟩ : ByteArray)).bind fun t387 => (if t387 = true then ((lex_Quote.f k a0).bind fun t388 => (some t388)) else ((strings_Contains.f a0 (⟨#[63]⟩ : ByteArray)).bind fun t389 => (if t389 = true then ((lex_Quote.f k a0).bind fun t390 => (some t390)) else (some a0))))))) else ((lex_Quote.f k a0).bind fun t391 => (some t391)))
theorem mime_word.mono : ∀ a0 k, LeO (mime_word.f k a0) (mime_word.f (k + 1) a0) := by
 intro a0 k
 unfold mime_word.f
 repeat' first
   | (with_reducible exact lex_IsAtom.mono _ _)
   | (with_reducible exact lex_Quote.mono _ _)
   | (with_reducible exact LeO.refl _)
   | (with_reducible exact LeO.none _)
   | (with_reducible refine LeO.ite ?_ ?_)
   | (with_reducible refine LeO.bind ?_ (fun _ => ?_))
   | exact lex_IsAtom.mono _ _
   | exact lex_Quote.mono _ _
   | exact LeO.none _
   | refine LeO.ite ?_ ?_
   | refine LeO.bind ?_ (fun _ => ?_)
set_option maxHeartbeats 8000000 in
set_option maxRecDepth 100000 in
theorem mime_word.calls (k : Nat) (a0 : ByteArray) (r : ByteArray) (w : World) (hG : Glob w) (h : mime_word.f k a0 = some r) :
  Calls Tryd.prog 71 #[.string a0] w fun e w' => e = .returned (.string r) ∧ Below w.heap.size w w' := by
 have HB := Aside0.mk (Below.refl w.heap.size w)
 have H : ((lex_IsAtom.f k a0).bind fun t384 => (if t384 = true then ((strings_Contains.f a0 (⟨#[61]⟩ : ByteArray)).bind fun t385 => (if t385 = true then ((lex_Quote.f k a0).bind fun t386 => (some t386)) else ((strings_Contains.f a0 (⟨#[47]⟩ : ByteArray)).bind fun t387 => (if t387 = true then ((lex_Quote.f k a0).bind fun t388 => (some t388)) else ((strings_Contains.f a0 (⟨#[63]⟩ : ByteArray)).bind fun t389 => (if t389 = true then ((lex_Quote.f k a0).bind fun t390 => (some t390)) else (some a0))))))) else ((lex_Quote.f k a0).bind fun t391 => (some t391)))) = some r := h
 clear h
 replace H := Option.bind_eq_some_iff.mp H
 obtain ⟨t384, A20, H⟩ := H
 replace H : (if t384 = true then ((strings_Contains.f a0 (⟨#[61]⟩ : ByteArray)).bind fun t385 => (if t385 = true then ((lex_Quote.f k a0).bind fun t386 => (some t386)) else ((strings_Contains.f a0 (⟨#[47]⟩ : ByteArray)).bind fun t387 => (if t387 = true then ((lex_Quote.f k a0).bind fun t388 => (some t388)) else ((strings_Contains.f a0 (⟨#[63]⟩ : ByteArray)).bind fun t389 => (if t389 = true then ((lex_Quote.f k a0).bind fun t390 => (some t390)) else (some a0))))))) else ((lex_Quote.f k a0).bind fun t391 => (some t391))) = some r := H
 have A2 := Aside0.mk A20
 clear A20
 by_cases c3 : t384 = true
 ·subst c3
  have H1 : ((strings_Contains.f a0 (⟨#[61]⟩ : ByteArray)).bind fun t385 => (if t385 = true then ((lex_Quote.f k a0).bind fun t386 => (some t386)) else ((strings_Contains.f a0 (⟨#[47]⟩ : ByteArray)).bind fun t387 => (if t387 = true then ((lex_Quote.f k a0).bind fun t388 => (some t388)) else ((strings_Contains.f a0 (⟨#[63]⟩ : ByteArray)).bind fun t389 => (if t389 = true then ((lex_Quote.f k a0).bind fun t390 => (some t390)) else (some a0))))))) = some r := by rw [if_pos rfl] at H; exact H
  clear H
  have H := H1
  clear H1
  replace H := Option.bind_eq_some_iff.mp H
  obtain ⟨t385, A40, H⟩ := H
  replace H : (if t385 = true then ((lex_Quote.f k a0).bind fun t386 => (some t386)) else ((strings_Contains.f a0 (⟨#[47]⟩ : ByteArray)).bind fun t387 => (if t387 = true then ((lex_Quote.f k a0).bind fun t388 => (some t388)) else ((strings_Contains.f a0 (⟨#[63]⟩ : ByteArray)).bind fun t389 => (if t389 = true then ((lex_Quote.f k a0).bind fun t390 => (some t390)) else (some a0)))))) = some r := H
  have A4 := Aside0.mk A40
  clear A40
  by_cases c5 : t385 = true
  ·subst c5
   have H1 : ((lex_Quote.f k a0).bind fun t386 => (some t386)) = some r := by rw [if_pos rfl] at H; exact H
   clear H
   have H := H1
   clear H1
   replace H := Option.bind_eq_some_iff.mp H
   obtain ⟨t386, A60, H⟩ := H
   replace H : (some t386) = some r := H
   have A6 := Aside0.mk A60
   clear A60
   obtain rfl := Option.some.inj H
   go_enter Tryd.func71, Tryd.ntmps71
   go_wp2_with (first | ((with_reducible refine gate_callee (f := 66) rfl ?_); refine goesL_ (some 4) rfl rfl Tryd.func66 (by kernel_rfl) rfl #[.string a0] rfl am ?_; (with_reducible refine (lex_IsAtom.calls k a0 true _ A2.out).mono ?_); rintro e w' ⟨rfl, ⟨nd, rfl⟩⟩; refine ⟨_, rfl, ?_⟩) | (go_at_call 100; (with_reducible refine (strings_Contains.calls (hG := by first | exact hG | exact Glob.below hG (by first | exact HB.out | (repeat (first | (with_reducible first | exact HB.out | apply below_alloc | apply pw_below_drewN | apply below_drew1) | exact HB.out))) | exact Glob.drawn hG (by repeat (first | exact Drawn0.refl _ | apply Drawn0.step))) a0 (⟨#[61]⟩ : ByteArray) true _ A4.out).mono ?_); rintro e w7 ⟨rfl, hb⟩; have n0_ := Aside0.mk (below_step bw hb); clear HB; have HB := n0_; clear n0_; (try clear hb); (try clear hb2); (try clear hk); (try clear hi)) | ((with_reducible refine gate_callee (f := 107) rfl ?_); refine goesL_ (some 22) rfl rfl Tryd.func107 (by kernel_rfl) rfl #[.string a0] rfl am ?_; (with_reducible refine (lex_Quote.calls k a0 t386 _ A6.out).mono ?_); rintro e w8 ⟨rfl, hb⟩; refine ⟨_, rfl, ?_⟩; have n0_ := Aside0.mk (below_step bw hb); clear HB; have HB := n0_; clear n0_; (try clear hb); (try clear hb2); (try clear hk); (try clear hi)))
   go_ret
   exact ⟨by first | rfl | (simp [errW_none, errW_some] <;> rfl) | (simp [*, errW_none, errW_some] <;> rfl), bw⟩
  ·replace c5 := Bool.eq_false_iff.mpr c5
   subst c5
   have H1 : ((strings_Contains.f a0 (⟨#[47]⟩ : ByteArray)).bind fun t387 => (if t387 = true then ((lex_Quote.f k a0).bind fun t388 => (some t388)) else ((strings_Contains.f a0 (⟨#[63]⟩ : ByteArray)).bind fun t389 => (if t389 = true then ((lex_Quote.f k a0).bind fun t390 => (some t390)) else (some a0))))) = some r := by rw [if_neg (show ¬ (false = true) by decide)] at H; exact H
   clear H
   have H := H1
   clear H1
   replace H := Option.bind_eq_some_iff.mp H
   obtain ⟨t387, A90, H⟩ := H
   replace H : (if t387 = true then ((lex_Quote.f k a0).bind fun t388 => (some t388)) else ((strings_Contains.f a0 (⟨#[63]⟩ : ByteArray)).bind fun t389 => (if t389 = true then ((lex_Quote.f k a0).bind fun t390 => (some t390)) else (some a0)))) = some r := H
   have A9 := Aside0.mk A90
   clear A90
   by_cases c10 : t387 = true
   ·subst c10
    have H1 : ((lex_Quote.f k a0).bind fun t388 => (some t388)) = some r := by rw [if_pos rfl] at H; exact H
    clear H
    have H := H1
    clear H1
    replace H := Option.bind_eq_some_iff.mp H
    obtain ⟨t388, A110, H⟩ := H
    replace H : (some t388) = some r := H
    have A11 := Aside0.mk A110
    clear A110
    obtain rfl := Option.some.inj H
    go_enter Tryd.func71, Tryd.ntmps71
    go_wp2_with (first | ((with_reducible refine gate_callee (f := 66) rfl ?_); refine goesL_ (some 4) rfl rfl Tryd.func66 (by kernel_rfl) rfl #[.string a0] rfl am ?_; (with_reducible refine (lex_IsAtom.calls k a0 true _ A2.out).mono ?_); rintro e w' ⟨rfl, ⟨nd, rfl⟩⟩; refine ⟨_, rfl, ?_⟩) | (go_at_call 100; (with_reducible refine (strings_Contains.calls (hG := by first | exact hG | exact Glob.below hG (by first | exact HB.out | (repeat (first | (with_reducible first | exact HB.out | apply below_alloc | apply pw_below_drewN | apply below_drew1) | exact HB.out))) | exact Glob.drawn hG (by repeat (first | exact Drawn0.refl _ | apply Drawn0.step))) a0 (⟨#[61]⟩ : ByteArray) false _ A4.out).mono ?_); rintro e w12 ⟨rfl, hb⟩; have n0_ := Aside0.mk (below_step bw hb); clear HB; have HB := n0_; clear n0_; (try clear hb); (try clear hb2); (try clear hk); (try clear hi)) | (go_at_call 100; (with_reducible refine (strings_Contains.calls (hG := by first | exact hG | exact Glob.below hG (by first | exact HB.out | (repeat (first | (with_reducible first | exact HB.out | apply below_alloc | apply pw_below_drewN | apply below_drew1) | exact HB.out))) | exact Glob.drawn hG (by repeat (first | exact Drawn0.refl _ | apply Drawn0.step))) a0 (⟨#[47]⟩ : ByteArray) true _ A9.out).mono ?_); rintro e w13 ⟨rfl, hb⟩; have n0_ := Aside0.mk (below_step bw hb); clear HB; have HB := n0_; clear n0_; (try clear hb); (try clear hb2); (try clear hk); (try clear hi)) | ((with_reducible refine gate_callee (f := 107) rfl ?_); refine goesL_ (some 22) rfl rfl Tryd.func107 (by kernel_rfl) rfl #[.string a0] rfl am ?_; (with_reducible refine (lex_Quote.calls k a0 t388 _ A11.out).mono ?_); rintro e w14 ⟨rfl, hb⟩; refine ⟨_, rfl, ?_⟩; have n0_ := Aside0.mk (below_step bw hb); clear HB; have HB := n0_; clear n0_; (try clear hb); (try clear hb2); (try clear hk); (try clear hi)))
    go_ret
    exact ⟨by first | rfl | (simp [errW_none, errW_some] <;> rfl) | (simp [*, errW_none, errW_some] <;> rfl), bw⟩
   ·replace c10 := Bool.eq_false_iff.mpr c10
    subst c10
    have H1 : ((strings_Contains.f a0 (⟨#[63]⟩ : ByteArray)).bind fun t389 => (if t389 = true then ((lex_Quote.f k a0).bind fun t390 => (some t390)) else (some a0))) = some r := by rw [if_neg (show ¬ (false = true) by decide)] at H; exact H
    clear H
    have H := H1
    clear H1
    replace H := Option.bind_eq_some_iff.mp H
    obtain ⟨t389, A150, H⟩ := H
    replace H : (if t389 = true then ((lex_Quote.f k a0).bind fun t390 => (some t390)) else (some a0)) = some r := H
    have A15 := Aside0.mk A150
    clear A150
    by_cases c16 : t389 = true
    ·subst c16
     have H1 : ((lex_Quote.f k a0).bind fun t390 => (some t390)) = some r := by rw [if_pos rfl] at H; exact H
     clear H
     have H := H1
     clear H1
     replace H := Option.bind_eq_some_iff.mp H
     obtain ⟨t390, A170, H⟩ := H
     replace H : (some t390) = some r := H
     have A17 := Aside0.mk A170
     clear A170
     obtain rfl := Option.some.inj H
     go_enter Tryd.func71, Tryd.ntmps71
     go_wp2_with (first | ((with_reducible refine gate_callee (f := 66) rfl ?_); refine goesL_ (some 4) rfl rfl Tryd.func66 (by kernel_rfl) rfl #[.string a0] rfl am ?_; (with_reducible refine (lex_IsAtom.calls k a0 true _ A2.out).mono ?_); rintro e w' ⟨rfl, ⟨nd, rfl⟩⟩; refine ⟨_, rfl, ?_⟩) | (go_at_call 100; (with_reducible refine (strings_Contains.calls (hG := by first | exact hG | exact Glob.below hG (by first | exact HB.out | (repeat (first | (with_reducible first | exact HB.out | apply below_alloc | apply pw_below_drewN | apply below_drew1) | exact HB.out))) | exact Glob.drawn hG (by repeat (first | exact Drawn0.refl _ | apply Drawn0.step))) a0 (⟨#[61]⟩ : ByteArray) false _ A4.out).mono ?_); rintro e w18 ⟨rfl, hb⟩; have n0_ := Aside0.mk (below_step bw hb); clear HB; have HB := n0_; clear n0_; (try clear hb); (try clear hb2); (try clear hk); (try clear hi)) | (go_at_call 100; (with_reducible refine (strings_Contains.calls (hG := by first | exact hG | exact Glob.below hG (by first | exact HB.out | (repeat (first | (with_reducible first | exact HB.out | apply below_alloc | apply pw_below_drewN | apply below_drew1) | exact HB.out))) | exact Glob.drawn hG (by repeat (first | exact Drawn0.refl _ | apply Drawn0.step))) a0 (⟨#[47]⟩ : ByteArray) false _ A9.out).mono ?_); rintro e w19 ⟨rfl, hb⟩; have n0_ := Aside0.mk (below_step bw hb); clear HB; have HB := n0_; clear n0_; (try clear hb); (try clear hb2); (try clear hk); (try clear hi)) | (go_at_call 100; (with_reducible refine (strings_Contains.calls (hG := by first | exact hG | exact Glob.below hG (by first | exact HB.out | (repeat (first | (with_reducible first | exact HB.out | apply below_alloc | apply pw_below_drewN | apply below_drew1) | exact HB.out))) | exact Glob.drawn hG (by repeat (first | exact Drawn0.refl _ | apply Drawn0.step))) a0 (⟨#[63]⟩ : ByteArray) true _ A15.out).mono ?_); rintro e w20 ⟨rfl, hb⟩; have n0_ := Aside0.mk (below_step bw hb); clear HB; have HB := n0_; clear n0_; (try clear hb); (try clear hb2); (try clear hk); (try clear hi)) | ((with_reducible refine gate_callee (f := 107) rfl ?_); refine goesL_ (some 22) rfl rfl Tryd.func107 (by kernel_rfl) rfl #[.string a0] rfl am ?_; (with_reducible refine (lex_Quote.calls k a0 t390 _ A17.out).mono ?_); rintro e w21 ⟨rfl, hb⟩; refine ⟨_, rfl, ?_⟩; have n0_ := Aside0.mk (below_step bw hb); clear HB; have HB := n0_; clear n0_; (try clear hb); (try clear hb2); (try clear hk); (try clear hi)))
     go_ret
     exact ⟨by first | rfl | (simp [errW_none, errW_some] <;> rfl) | (simp [*, errW_none, errW_some] <;> rfl), bw⟩
    ·replace c16 := Bool.eq_false_iff.mpr c16
     subst c16
     have H1 : (some a0) = some r := by rw [if_neg (show ¬ (false = true) by decide)] at H; exact H
     clear H
     have H := H1
     clear H1
     obtain rfl := Option.some.inj H
     go_enter Tryd.func71, Tryd.ntmps71
     go_wp2_with (first | ((with_reducible refine gate_callee (f := 66) rfl ?_); refine goesL_ (some 4) rfl rfl Tryd.func66 (by kernel_rfl) rfl #[.string a0] rfl am ?_; (with_reducible refine (lex_IsAtom.calls k a0 true _ A2.out).mono ?_); rintro e w' ⟨rfl, ⟨nd, rfl⟩⟩; refine ⟨_, rfl, ?_⟩) | (go_at_call 100; (with_reducible refine (strings_Contains.calls (hG := by first | exact hG | exact Glob.below hG (by first | exact HB.out | (repeat (first | (with_reducible first | exact HB.out | apply below_alloc | apply pw_below_drewN | apply below_drew1) | exact HB.out))) | exact Glob.drawn hG (by repeat (first | exact Drawn0.refl _ | apply Drawn0.step))) a0 (⟨#[61]⟩ : ByteArray) false _ A4.out).mono ?_); rintro e w22 ⟨rfl, hb⟩; have n0_ := Aside0.mk (below_step bw hb); clear HB; have HB := n0_; clear n0_; (try clear hb); (try clear hb2); (try clear hk); (try clear hi)) | (go_at_call 100; (with_reducible refine (strings_Contains.calls (hG := by first | exact hG | exact Glob.below hG (by first | exact HB.out | (repeat (first | (with_reducible first | exact HB.out | apply below_alloc | apply pw_below_drewN | apply below_drew1) | exact HB.out))) | exact Glob.drawn hG (by repeat (first | exact Drawn0.refl _ | apply Drawn0.step))) a0 (⟨#[47]⟩ : ByteArray) false _ A9.out).mono ?_); rintro e w23 ⟨rfl, hb⟩; have n0_ := Aside0.mk (below_step bw hb); clear HB; have HB := n0_; clear n0_; (try clear hb); (try clear hb2); (try clear hk); (try clear hi)) | (go_at_call 100; (with_reducible refine (strings_Contains.calls (hG := by first | exact hG | exact Glob.below hG (by first | exact HB.out | (repeat (first | (with_reducible first | exact HB.out | apply below_alloc | apply pw_below_drewN | apply below_drew1) | exact HB.out))) | exact Glob.drawn hG (by repeat (first | exact Drawn0.refl _ | apply Drawn0.step))) a0 (⟨#[63]⟩ : ByteArray) false _ A15.out).mono ?_); rintro e w24 ⟨rfl, hb⟩; have n0_ := Aside0.mk (below_step bw hb); clear HB; have HB := n0_; clear n0_; (try clear hb); (try clear hb2); (try clear hk); (try clear hi)))
     go_ret
     exact ⟨by first | rfl | (simp [errW_none, errW_some] <;> rfl) | (simp [*, errW_none, errW_some] <;> rfl), bw⟩
 ·replace c3 := Bool.eq_false_iff.mpr c3
  subst c3
  have H1 : ((lex_Quote.f k a0).bind fun t391 => (some t391)) = some r := by rw [if_neg (show ¬ (false = true) by decide)] at H; exact H
  clear H
  have H := H1
  clear H1
  replace H := Option.bind_eq_some_iff.mp H
  obtain ⟨t391, A250, H⟩ := H
  replace H : (some t391) = some r := H
  have A25 := Aside0.mk A250
  clear A250
  obtain rfl := Option.some.inj H
  go_enter Tryd.func71, Tryd.ntmps71
  go_wp2_with (first | ((with_reducible refine gate_callee (f := 66) rfl ?_); refine goesL_ (some 4) rfl rfl Tryd.func66 (by kernel_rfl) rfl #[.string a0] rfl am ?_; (with_reducible refine (lex_IsAtom.calls k a0 false _ A2.out).mono ?_); rintro e w' ⟨rfl, ⟨nd, rfl⟩⟩; refine ⟨_, rfl, ?_⟩) | ((with_reducible refine gate_callee (f := 107) rfl ?_); refine goesL_ (some 22) rfl rfl Tryd.func107 (by kernel_rfl) rfl #[.string a0] rfl am ?_; (with_reducible refine (lex_Quote.calls k a0 t391 _ A25.out).mono ?_); rintro e w26 ⟨rfl, hb⟩; refine ⟨_, rfl, ?_⟩; have n0_ := Aside0.mk (below_step bw hb); clear HB; have HB := n0_; clear n0_; (try clear hb); (try clear hb2); (try clear hk); (try clear hi)))
  go_ret
  exact ⟨by first | rfl | (simp [errW_none, errW_some] <;> rfl) | (simp [*, errW_none, errW_some] <;> rfl), bw⟩

end Go.Proofs.YtoikneogdbdplaaDoor.Fn
namespace Go.Proofs.YtoikneogdbdplaaDoor.Fn
open Go.RowKit Go.Proofs.YtoikneogdbdplaaDoorW.PrintWords Go.Proofs.YtoikneogdbdplaaDoorW.PrintLast Go.Proofs.YtoikneogdbdplaaDoorW.PrintMore
attribute [local go_sem] max2_int min2_int max_two min_two max_three min_three max_four min_four
set_option linter.unusedVariables false
set_option linter.unusedSimpArgs false

/-! ### mime_Type_Text: function 33 -/
def mime_Type_Text.l0 : Nat → ByteArray → List (S104) → Int → Int → Option (ByteArray)
 | 0, _, _, _, _ => none
 | k + 1, x3, x9, x10, x11 => if x11 < x10 then (if 0 ≤ x11 then (if x11 < (x9.length : Int) then (if 2 + ((rd_T104 x9 x11).f0).size ≤ 9223372036854775807 then (if ((⟨#[59, 32]⟩ : ByteArray) ++ ((rd_T104 x9 x11).f0)).size + 1 ≤ 9223372036854775807 then ((mime_word.f k ((rd_T104 x9 x11).f1)).bind fun t395 => (if (((⟨#[59, 32]⟩ : ByteArray) ++ ((rd_T104 x9 x11).f0)) ++ (⟨#[61]⟩ : ByteArray)).size + t395.size ≤ 9223372036854775807 then (if x3.size + ((((⟨#[59, 32]⟩ : ByteArray) ++ ((rd_T104 x9 x11).f0)) ++ (⟨#[61]⟩ : ByteArray)) ++ t395).size ≤ 9223372036854775807 then (mime_Type_Text.l0 k (x3 ++ ((((⟨#[59, 32]⟩ : ByteArray) ++ ((rd_T104 x9 x11).f0)) ++ (⟨#[61]⟩ : ByteArray)) ++ t395)) x9 x10 (wrap64 (x11 + 1))) else (none)) else (none))) else (none)) else (none)) else (none)) else (none)) else (some x3)
def mime_Type_Text.f (k : Nat) (a0_0 : ByteArray) (l0_1 : List (S104)) : Option (ByteArray) := mime_Type_Text.l0 k a0_0 l0_1 (l0_1.length : Int) 0
theorem mime_Type_Text.mono_l : ∀ k, (∀ y0 y1 y2 y3, LeO (mime_Type_Text.l0 k y0 y1 y2 y3) (mime_Type_Text.l0 (k + 1) y0 y1 y2 y3))
 | 0 => fun _ _ _ _ r h => by simp [mime_Type_Text.l0] at h
 | k + 1 => by
  have ih0 := mime_Type_Text.mono_l k
  ·intro y0 y1 y2 y3
   unfold mime_Type_Text.l0
   repeat' first
   | (with_reducible exact ih0 _ _ _ _)
   | (with_reducible exact mime_word.mono _ _)
   | (with_reducible exact LeO.refl _)
   | (with_reducible exact LeO.none _)
   | (with_reducible refine LeO.ite ?_ ?_)
   | (with_reducible refine LeO.bind ?_ (fun _ => ?_))
   | exact ih0 _ _ _ _
   | exact mime_word.mono _ _
   | exact LeO.none _
   | refine LeO.ite ?_ ?_
   | refine LeO.bind ?_ (fun _ => ?_)
theorem mime_Type_Text.mono : ∀ a0 a1 k, LeO (mime_Type_Text.f k a0 a1) (mime_Type_Text.f (k + 1) a0 a1) := by
 intro a0 a1 k
 have ih0 := mime_Type_Text.mono_l k
 unfold mime_Type_Text.f
 repeat' first
   | (with_reducible exact ih0 _ _ _ _)
   | (with_reducible exact mime_word.mono _ _)
   | (with_reducible exact LeO.refl _)
   | (with_reducible exact LeO.none _)
   | (with_reducible refine LeO.ite ?_ ?_)
   | (with_reducible refine LeO.bind ?_ (fun _ => ?_))
   | exact ih0 _ _ _ _
   | exact mime_word.mono _ _
   | exact LeO.none _
   | refine LeO.ite ?_ ?_
   | refine LeO.bind ?_ (fun _ => ?_)
def mime_Type_Text.T5 : Bool × List (List Nat × List Nat) := (true, [([], []), ([], []), ([1], [1]), ([2], [2]), ([3], [3]), ([], []), ([5], [5]), ([6], [6]), ([4, 7], [4, 7]), ([0, 8], [0, 8]), ([9, 7, 0, 1, 2, 3, 4, 5, 6, 7, 8, 9], [0, 9])])
def mime_Type_Text.B5 : List Nat := [0, 0, 2, 6, 14, 0, 32, 96, 254, 511, 1023]
theorem mime_Type_Text.tab5 : rtab .any (opsOf Tryd.f33 5) = mime_Type_Text.T5 := by kernel_rfl
theorem mime_Type_Text.bits5 : waitsOk mime_Type_Text.T5.2 mime_Type_Text.B5 = true := by kernel_rfl
set_option maxHeartbeats 8000000 in
set_option maxRecDepth 100000 in
theorem mime_Type_Text.calls (k : Nat) (a0_0 : ByteArray) (A0_1 : Option Addr) (c0_1 : Nat) (l0_1 : List (S104)) (r : ByteArray) (w : World) (hG : Glob w) (hr0_1 : Kd.C k104 w A0_1 l0_1.length l0_1) (hc0_1 : l0_1.length ≤ c0_1) (h : mime_Type_Text.f k a0_0 l0_1 = some r) :
  Calls Tryd.prog 33 #[.agg #[.string a0_0, .slice A0_1 l0_1.length c0_1]] w fun e w' => e = .returned (.string r) ∧ Below w.heap.size w w' := by
 have hu51 := Tryd.underlying51
 have hu104 := Tryd.underlying104
 have HR0_1 := Aside0.mk hr0_1
 have HC0_1 := Aside0.mk hc0_1
 clear hr0_1 hc0_1
 have HB := Aside0.mk (Below.refl w.heap.size w)
 have H : (mime_Type_Text.l0 k a0_0 l0_1 (l0_1.length : Int) 0) = some r := h
 clear h
 have H' := Aside0.mk H
 clear H
 go_enter Tryd.func33, Tryd.ntmps33
 go_wp2_with (first | ((with_reducible refine gate_dst (N := 1) rfl ?_); refine box_event ?hg (N := 1) ?hd (cs := #[.string a0_0, .slice A0_1 l0_1.length c0_1]) (t := 51) ?hr ?_; (case hd => rfl); (case hg => rfl); (case hr => first | (go_simp; done) | (go_simp; rfl)); intro gb392 hg w2 hbox hb; have n0_ := Aside0.mk (below_step bw hb); have n1_ := Aside0.mk (hbox); have n2_ := Aside0.mk ((by rw [hg]; exact (below_size bw) : w.heap.size ≤ gb392)); have n3_ := Aside0.mk ((by rw [hg]; exact (below_size bw) : w.heap.size ≤ gb392)); clear HB; have HB := n0_; have BK392 := n1_; have GW392 := n2_; have GE392 := n3_; clear n0_ n1_ n2_ n3_; clear hb hbox hg; have hcz3_0 : w2.cell? ⟨gb392, 0, none⟩ = some (.string a0_0) := (blk_cell BK392.out 0).trans rfl; have hcz3_1 : w2.cell? ⟨gb392, 1, none⟩ = some (.slice A0_1 l0_1.length c0_1) := (blk_cell BK392.out 1).trans rfl; have hfz3_0 := blk_frozen BK392.out 0; have hfz3_1 := blk_frozen BK392.out 1))
 go_loopg [3, 11] k (fun kq v3 v11 w' => ∃ (x3_1 : ByteArray) (x11_1 : Int), v3 = .string x3_1 ∧ v11 = .int .i64 x11_1 ∧ Aside0 (mime_Type_Text.l0 kq x3_1 l0_1 (l0_1.length : Int) x11_1 = some r) ∧ Aside0 (kq ≤ k) ∧ Aside0 (w'.heap[gb392]? = some (.cells #[.string a0_0, (.slice A0_1 l0_1.length c0_1)] 51 (0, 0))) ∧ Aside0 (Below w.heap.size w w'))
 case atStart => exact ⟨(a0_0), (0), cl, cl, H', ⟨Nat.le_refl _⟩, ⟨bk⟩, ⟨bwS⟩⟩
 case round =>
  clear H'
  try clear p2
  try clear c3
  try clear hcz3_0
  try clear hcz3_1
  try clear hfz3_0
  try clear hfz3_1
  obtain ⟨x3_1, x11_1, rfl, rfl, HA, HK1, BK392, HB⟩ := hrel
  cases gk with
  | zero => exact absurd HA.out (by simp [mime_Type_Text.l0])
  | succ k1 =>
   have H := HA.out
   clear HA
   simp only [mime_Type_Text.l0] at H
   by_cases c4 : x11_1 < (l0_1.length : Int)
   ·rw [if_pos c4] at H
    have c4b0 : decide (x11_1 < (l0_1.length : Int)) = true := decide_eq_true c4
    clear c4
    by_cases c5 : 0 ≤ x11_1
    ·rw [if_pos c5] at H
     have c5b0 : decide (0 ≤ x11_1) = true := decide_eq_true c5
     clear c5
     by_cases c6 : x11_1 < (l0_1.length : Int)
     ·rw [if_pos c6] at H
      have c6b0 : decide (x11_1 < (l0_1.length : Int)) = true := decide_eq_true c6
      clear c6
      by_cases c7 : 2 + ((rd_T104 l0_1 x11_1).f0).size ≤ 9223372036854775807
      ·rw [if_pos c7] at H
       have c7b0 := eq_true c7
       have c7b1 : decide (2 + ((rd_T104 l0_1 x11_1).f0).size ≤ 9223372036854775807) = true := decide_eq_true c7
       try have c7b2 : (9223372036854775807 < 2 + ((rd_T104 l0_1 x11_1).f0).size) = False := eq_false (Nat.not_lt.2 c7)
       by_cases c8 : ((⟨#[59, 32]⟩ : ByteArray) ++ ((rd_T104 l0_1 x11_1).f0)).size + 1 ≤ 9223372036854775807
       ·rw [if_pos c8] at H
        have c8b0 := eq_true c8
        have c8b1 : decide (((⟨#[59, 32]⟩ : ByteArray) ++ ((rd_T104 l0_1 x11_1).f0)).size + 1 ≤ 9223372036854775807) = true := decide_eq_true c8
        try have c8b2 : (9223372036854775807 < ((⟨#[59, 32]⟩ : ByteArray) ++ ((rd_T104 l0_1 x11_1).f0)).size + 1) = False := eq_false (Nat.not_lt.2 c8)
        try (have c8b3 := c8; simp only [ByteArray.size_append, size_lit, ByteArray.size_extract, List.size_toArray, List.length_cons, List.length_nil, Nat.zero_add, Nat.reduceAdd] at c8b3; have c8b4 := eq_false (Nat.not_lt.2 c8b3))
        replace H := Option.bind_eq_some_iff.mp H
        obtain ⟨t395, A90, H⟩ := H
        replace H : (if (((⟨#[59, 32]⟩ : ByteArray) ++ ((rd_T104 l0_1 x11_1).f0)) ++ (⟨#[61]⟩ : ByteArray)).size + t395.size ≤ 9223372036854775807 then (if x3_1.size + ((((⟨#[59, 32]⟩ : ByteArray) ++ ((rd_T104 l0_1 x11_1).f0)) ++ (⟨#[61]⟩ : ByteArray)) ++ t395).size ≤ 9223372036854775807 then (mime_Type_Text.l0 k1 (x3_1 ++ ((((⟨#[59, 32]⟩ : ByteArray) ++ ((rd_T104 l0_1 x11_1).f0)) ++ (⟨#[61]⟩ : ByteArray)) ++ t395)) l0_1 (l0_1.length : Int) (wrap64 (x11_1 + 1))) else (none)) else (none)) = some r := H
        have A9 := Aside0.mk A90
        clear A90
        by_cases c10 : (((⟨#[59, 32]⟩ : ByteArray) ++ ((rd_T104 l0_1 x11_1).f0)) ++ (⟨#[61]⟩ : ByteArray)).size + t395.size ≤ 9223372036854775807
        ·rw [if_pos c10] at H
         have c10b0 := eq_true c10
         have c10b1 : decide ((((⟨#[59, 32]⟩ : ByteArray) ++ ((rd_T104 l0_1 x11_1).f0)) ++ (⟨#[61]⟩ : ByteArray)).size + t395.size ≤ 9223372036854775807) = true := decide_eq_true c10
         try have c10b2 : (9223372036854775807 < (((⟨#[59, 32]⟩ : ByteArray) ++ ((rd_T104 l0_1 x11_1).f0)) ++ (⟨#[61]⟩ : ByteArray)).size + t395.size) = False := eq_false (Nat.not_lt.2 c10)
         try (have c10b3 := c10; simp only [ByteArray.size_append, size_lit, ByteArray.size_extract, List.size_toArray, List.length_cons, List.length_nil, Nat.zero_add, Nat.reduceAdd] at c10b3; have c10b4 := eq_false (Nat.not_lt.2 c10b3))
         by_cases c11 : x3_1.size + ((((⟨#[59, 32]⟩ : ByteArray) ++ ((rd_T104 l0_1 x11_1).f0)) ++ (⟨#[61]⟩ : ByteArray)) ++ t395).size ≤ 9223372036854775807
         ·rw [if_pos c11] at H
          have c11b0 := eq_true c11
          have c11b1 : decide (x3_1.size + ((((⟨#[59, 32]⟩ : ByteArray) ++ ((rd_T104 l0_1 x11_1).f0)) ++ (⟨#[61]⟩ : ByteArray)) ++ t395).size ≤ 9223372036854775807) = true := decide_eq_true c11
          try have c11b2 : (9223372036854775807 < x3_1.size + ((((⟨#[59, 32]⟩ : ByteArray) ++ ((rd_T104 l0_1 x11_1).f0)) ++ (⟨#[61]⟩ : ByteArray)) ++ t395).size) = False := eq_false (Nat.not_lt.2 c11)
          try (have c11b3 := c11; simp only [ByteArray.size_append, size_lit, ByteArray.size_extract, List.size_toArray, List.length_cons, List.length_nil, Nat.zero_add, Nat.reduceAdd] at c11b3; have c11b4 := eq_false (Nat.not_lt.2 c11b3))
          have H' := Aside0.mk H
          clear H
          have p393 : 0 ≤ (x11_1 : Int) := od
          have q393 : x11_1 < (l0_1.length : Int) := od
          obtain ⟨ad393, e393, hx393_0, hx393_1⟩ := at_T104 HR0_1.out x11_1 p393 q393
          cases e393
          replace hx393_0 := (HB.out.cell (World.block_lt_of_cell? w _ hx393_0)).trans hx393_0
          replace hx393_1 := (HB.out.cell (World.block_lt_of_cell? w _ hx393_1)).trans hx393_1
          replace p393 := eq_true p393
          replace q393 := eq_true q393
          try go_wp2_with (first | ((with_reducible refine gate_dst (N := 5) rfl ?_); refine box_event ?hg (N := 5) ?hd (cs := #[.string (⟨#[]⟩ : ByteArray), .string (⟨#[]⟩ : ByteArray)]) (t := 104) ?hr ?_; (case hd => rfl); (case hg => rfl); (case hr => first | (go_simp; done) | (go_simp; rfl)); intro gb394 hg w12 hbox hb; have n0_ := Aside0.mk (blk_below (g := gb392) (o := .cells #[.string a0_0, .slice (some ad393) l0_1.length c0_1] 51 (0, 0)) bk hb); have n1_ := Aside0.mk (below_step bwS hb); have n2_ := Aside0.mk (hbox); have n3_ := Aside0.mk ((by rw [hg]; exact (below_size bwS) : w.heap.size ≤ gb394)); have n4_ := Aside0.mk ((by rw [hg]; exact (below_size bwS) : w.heap.size ≤ gb394)); have n5_ := Aside0.mk ((by rw [hg]; exact Nat.ne_of_lt (blk_lt (g := gb392) (o := .cells #[.string a0_0, .slice (some ad393) l0_1.length c0_1] 51 (0, 0)) bk) : gb392 ≠ gb394)); have n6_ := Aside0.mk ((by rw [hg]; exact Nat.ne_of_gt (blk_lt (g := gb392) (o := .cells #[.string a0_0, .slice (some ad393) l0_1.length c0_1] 51 (0, 0)) bk) : gb394 ≠ gb392)); clear BK392; clear HB; have BK392 := n0_; have HB := n1_; have BK394 := n2_; have GW394 := n3_; have GE394 := n4_; have NB392_394 := n5_; have NB394_392 := n6_; clear n0_ n1_ n2_ n3_ n4_ n5_ n6_; clear hb hbox hg; have hnb13 := NB394_392.out; have hnc13 := NB392_394.out; have hcz14_0 : w12.cell? ⟨gb394, 0, none⟩ = some (.string (⟨#[]⟩ : ByteArray)) := (blk_cell BK394.out 0).trans rfl; have hcz14_1 : w12.cell? ⟨gb394, 1, none⟩ = some (.string (⟨#[]⟩ : ByteArray)) := (blk_cell BK394.out 1).trans rfl; have hfz14_0 := blk_frozen BK394.out 0; have hfz14_1 := blk_frozen BK394.out 1))
          have n0_ : Aside0 (((w12.setCell ⟨gb394, 0, none⟩ (.string ((rd_T104 l0_1 x11_1).f0))).setCell ⟨gb394, 1, none⟩ (.string ((rd_T104 l0_1 x11_1).f1))).heap[gb392]? = some (.cells #[.string a0_0, .slice (some ad393) l0_1.length c0_1] 51 (0, 0))) := ⟨by (with_reducible repeat (first | refine blk_drewN ?_ _ | refine blk_drew ?_ | refine blk_alloc ?_ _)); refine blk_far ?_ NB392_394.out _; (with_reducible repeat (first | refine blk_drewN ?_ _ | refine blk_drew ?_ | refine blk_alloc ?_ _)); refine blk_far ?_ NB392_394.out _; (with_reducible repeat (first | refine blk_drewN ?_ _ | refine blk_drew ?_ | refine blk_alloc ?_ _)); exact BK392.out⟩
          have n1_ : Aside0 (((w12.setCell ⟨gb394, 0, none⟩ (.string ((rd_T104 l0_1 x11_1).f0))).setCell ⟨gb394, 1, none⟩ (.string ((rd_T104 l0_1 x11_1).f1))).heap[gb394]? = some (.cells #[.string ((rd_T104 l0_1 x11_1).f0), .string ((rd_T104 l0_1 x11_1).f1)] 104 (0, 0))) := ⟨by (with_reducible repeat (first | refine blk_drewN ?_ _ | refine blk_drew ?_ | refine blk_alloc ?_ _)); refine blk_put (cs := #[.string ((rd_T104 l0_1 x11_1).f0), .string (⟨#[]⟩ : ByteArray)]) ?_ 1 _ rfl; (with_reducible repeat (first | refine blk_drewN ?_ _ | refine blk_drew ?_ | refine blk_alloc ?_ _)); refine blk_put (cs := #[.string (⟨#[]⟩ : ByteArray), .string (⟨#[]⟩ : ByteArray)]) ?_ 0 _ rfl; (with_reducible repeat (first | refine blk_drewN ?_ _ | refine blk_drew ?_ | refine blk_alloc ?_ _)); exact BK394.out⟩
          have n2_ : Aside0 (Below w.heap.size w ((w12.setCell ⟨gb394, 0, none⟩ (.string ((rd_T104 l0_1 x11_1).f0))).setCell ⟨gb394, 1, none⟩ (.string ((rd_T104 l0_1 x11_1).f1)))) := ⟨bwS⟩
          (try clear BK392)
          (try clear BK394)
          (try clear HB)
          generalize ((w12.setCell ⟨gb394, 0, none⟩ (.string ((rd_T104 l0_1 x11_1).f0))).setCell ⟨gb394, 1, none⟩ (.string ((rd_T104 l0_1 x11_1).f1))) = w15 at n0_ n1_ n2_ ⊢
          have BK392 := n0_
          have BK394 := n1_
          have HB := n2_
          clear n0_ n1_ n2_
          have n0_ := Aside0.mk (blk_drew BK392.out)
          have n1_ := Aside0.mk (blk_drew BK394.out)
          have n2_ := Aside0.mk (below_drew1 HB.out)
          clear BK392
          clear BK394
          clear HB
          have BK392 := n0_
          have BK394 := n1_
          have HB := n2_
          clear n0_ n1_ n2_
          refine start_ (n := 11) (S := fun w' => w'.cell? ⟨gb394, 0, none⟩ = some (.string ((rd_T104 l0_1 x11_1).f0)) ∧ w'.cell? ⟨gb394, 1, none⟩ = some (.string ((rd_T104 l0_1 x11_1).f1))) (ds := []) #[false, false, false, false, false, false, false, false, false, false, false] (by kernel_rfl) rfl rfl ⟨(blk_cell BK394.out 0).trans rfl, (blk_cell BK394.out 1).trans rfl⟩ (fun hHeld => ?_); refine with_tabW mime_Type_Text.tab5 mime_Type_Text.bits5 (fun HT_ HW_ => ?_)
          generalize w15.drew = w16 at BK392 BK394 HB hHeld ⊢
          refine pure_ (i := 0) (N := some 15) (v := ?_) (a' := ?_) (bitsL 11 1) rfl rfl (any_of HT_.out (by kernel_rfl)) (fun _ _ _ h => h) (Or.inl ⟨by rfl, ?_⟩) ?_ ?_
          rotate_left
          ·intro w'
           go_simp
           with_reducible rfl
          rotate_left
          ·simp only [Act.put, List.setIfInBounds_toArray, List.set_cons_zero, List.set_cons_succ, i64_w, i32_w]
           rfl
          refine pure_ (i := 1) (N := some 16) (v := ?_) (a' := ?_) (bitsL 11 3) rfl rfl (any_of HT_.out (by kernel_rfl)) (fun _ _ _ h => h) (Or.inl ⟨by rfl, ?_⟩) ?_ ?_
          rotate_left
          ·intro w'
           go_simp
           with_reducible rfl
          rotate_left
          ·simp only [Act.put, List.setIfInBounds_toArray, List.set_cons_zero, List.set_cons_succ, i64_w, i32_w]
           rfl
          refine pure_ (i := 5) (N := some 20) (v := ?_) (a' := ?_) (bitsL 11 35) rfl rfl (any_of HT_.out (by kernel_rfl)) (fun _ _ _ h => h) (Or.inl ⟨by rfl, ?_⟩) ?_ ?_
          rotate_left
          ·intro w'
           go_simp
           with_reducible rfl
          rotate_left
          ·simp only [Act.put, List.setIfInBounds_toArray, List.set_cons_zero, List.set_cons_succ, i64_w, i32_w]
           rfl
          refine take_ (i := 2) (N := some 17) (v := ?_) (a' := ?_) (bitsL 11 39) rfl rfl (take_ofW HT_.out HW_.out (by kernel_rfl)) (fun _ _ _ h => h) (Or.inl ⟨by rfl, ?_⟩) hHeld ?_ ?_
          rotate_left
          ·rintro w' ⟨s0, s1⟩
           go_simp
           with_reducible rfl
          rotate_left
          ·simp only [Act.put, List.setIfInBounds_toArray, List.set_cons_zero, List.set_cons_succ, i64_w, i32_w]
           rfl
          refine pure_ (i := 3) (N := some 18) (v := ?_) (a' := ?_) (bitsL 11 47) rfl rfl (any_of HT_.out (by kernel_rfl)) (fun _ _ _ h => h) (Or.inl ⟨by rfl, ?_⟩) ?_ ?_
          rotate_left
          ·intro w'
           go_simp
           with_reducible rfl
          rotate_left
          ·simp only [Act.put, List.setIfInBounds_toArray, List.set_cons_zero, List.set_cons_succ, i64_w, i32_w]
           rfl
          refine pure_ (i := 4) (N := some 19) (v := ?_) (a' := ?_) (bitsL 11 63) rfl rfl (any_of HT_.out (by kernel_rfl)) (fun _ _ _ h => h) (Or.inl ⟨by rfl, ?_⟩) ?_ ?_
          rotate_left
          ·intro w'
           go_simp
           with_reducible rfl
          rotate_left
          ·simp only [Act.put, List.setIfInBounds_toArray, List.set_cons_zero, List.set_cons_succ, i64_w, i32_w]
           rfl
          refine take_ (i := 6) (N := some 21) (v := ?_) (a' := ?_) (bitsL 11 127) rfl rfl (take_ofW HT_.out HW_.out (by kernel_rfl)) (fun _ _ _ h => h) (Or.inl ⟨by rfl, ?_⟩) hHeld ?_ ?_
          rotate_left
          ·rintro w' ⟨s0, s1⟩
           go_simp
           with_reducible rfl
          rotate_left
          ·simp only [Act.put, List.setIfInBounds_toArray, List.set_cons_zero, List.set_cons_succ, i64_w, i32_w]
           rfl
          refine one_ (i := 7) (N := some 22) (bitsL 11 255) rfl rfl (one_of HT_.out (by kernel_rfl)) (by decide) (fun K hK => ?_)
          refine goes_ Tryd.func71 (by kernel_rfl) rfl #[.string ((rd_T104 l0_1 x11_1).f1)] (by rfl) rfl rfl am ?_
          with_reducible refine (mime_word.calls (hG := by first | exact hG | exact Glob.below hG (by first | exact HB.out | (repeat (first | (with_reducible first | exact HB.out | apply below_alloc | apply pw_below_drewN | apply below_drew1 | refine below_set ?_ GE392.out | refine below_set ?_ GE394.out) | exact HB.out))) | exact Glob.drawn hG (by repeat (first | exact Drawn0.refl _ | apply Drawn0.step))) k1 ((rd_T104 l0_1 x11_1).f1) t395 _ A9.out).mono ?_
          rintro e w17 ⟨rfl, hb⟩
          refine ⟨_, rfl, ?_⟩
          have n0_ := Aside0.mk (blk_below (g := gb392) (o := .cells #[.string a0_0, .slice (some ad393) l0_1.length c0_1] 51 (0, 0)) bk hb)
          have n1_ := Aside0.mk (blk_below (g := gb394) (o := .cells #[.string ((rd_T104 l0_1 x11_1).f0), .string ((rd_T104 l0_1 x11_1).f1)] 104 (0, 0)) bk hb)
          have n2_ := Aside0.mk (below_step bwS hb)
          clear BK392
          clear BK394
          clear HB
          have BK392 := n0_
          have BK394 := n1_
          have HB := n2_
          clear n0_ n1_ n2_
          (try clear hb)
          (try clear hb2)
          (try clear hk)
          (try clear hi)
          refine hK.out _ _ ⟨(blk_cell BK394.out 0).trans rfl, (blk_cell BK394.out 1).trans rfl⟩ (fun hHeld => ?_)
          clear hK K
          refine norm_ (a' := ?_) ?_ ?_
          rotate_left
          ·show Act.put _ (some 22) _ = _
           simp only [Act.put, List.setIfInBounds_toArray, List.set_cons_zero, List.set_cons_succ, i64_w, i32_w]
           rfl
          refine pure_ (i := 8) (N := some 23) (v := ?_) (a' := ?_) (bitsL 11 511) rfl rfl (any_of HT_.out (by kernel_rfl)) (fun _ _ _ h => h) (Or.inl ⟨by rfl, ?_⟩) ?_ ?_
          rotate_left
          ·intro w'
           go_simp
           with_reducible rfl
          rotate_left
          ·simp only [Act.put, List.setIfInBounds_toArray, List.set_cons_zero, List.set_cons_succ, i64_w, i32_w]
           rfl
          refine pure_ (i := 9) (N := some 24) (v := ?_) (a' := ?_) (bitsL 11 1023) rfl rfl (any_of HT_.out (by kernel_rfl)) (fun _ _ _ h => h) (Or.inl ⟨by rfl, ?_⟩) ?_ ?_
          rotate_left
          ·intro w'
           go_simp
           with_reducible rfl
          rotate_left
          ·simp only [Act.put, List.setIfInBounds_toArray, List.set_cons_zero, List.set_cons_succ, i64_w, i32_w]
           rfl
          refine pure_ (i := 10) (N := some 3) (v := ?_) (a' := ?_) (bitsL 11 2047) rfl rfl (any_of HT_.out (by kernel_rfl)) (fun _ _ _ h => h) (Or.inl ⟨by rfl, ?_⟩) ?_ ?_
          rotate_left
          ·intro w'
           go_simp
           with_reducible rfl
          rotate_left
          ·simp only [Act.put, List.setIfInBounds_toArray, List.set_cons_zero, List.set_cons_succ, i64_w, i32_w]
           rfl
          refine done_ (done_of HT_.out (by kernel_rfl)) ?_
          try go_wp2
          go_roundg k1
          case measure => have := HK1.out; omega
          case rel => exact ⟨(x3_1 ++ ((((⟨#[59, 32]⟩ : ByteArray) ++ ((rd_T104 l0_1 x11_1).f0)) ++ (⟨#[61]⟩ : ByteArray)) ++ t395)), (wrap64 (x11_1 + 1)), cl, cl, H', ⟨by have := HK1.out; omega⟩, ⟨bk⟩, ⟨bwS⟩⟩
         ·rw [if_neg c11] at H
          exact absurd H (by simp)
        ·rw [if_neg c10] at H
         exact absurd H (by simp)
       ·rw [if_neg c8] at H
        exact absurd H (by simp)
      ·rw [if_neg c7] at H
       exact absurd H (by simp)
     ·rw [if_neg c6] at H
      exact absurd H (by simp)
    ·rw [if_neg c5] at H
     exact absurd H (by simp)
   ·rw [if_neg c4] at H
    have c4b0 : decide (x11_1 < (l0_1.length : Int)) = false := decide_eq_false c4
    clear c4
    obtain rfl := Option.some.inj H
    go_wp2
    go_ret
    exact ⟨by first | rfl | (simp [errW_none, errW_some] <;> rfl) | (simp [*, errW_none, errW_some] <;> rfl), bwS⟩

end Go.Proofs.YtoikneogdbdplaaDoor.Fn
namespace Go.Proofs.YtoikneogdbdplaaDoor.Fn
open Go.RowKit Go.Proofs.YtoikneogdbdplaaDoorW.PrintWords Go.Proofs.YtoikneogdbdplaaDoorW.PrintLast Go.Proofs.YtoikneogdbdplaaDoorW.PrintMore
attribute [local go_sem] max2_int min2_int max_two min_two max_three min_three max_four min_four
set_option linter.unusedVariables false
set_option linter.unusedSimpArgs false

/-! ### mime_Type_Value: function 31 -/
def mime_Type_Value.l0 : Nat → ByteArray → List (S104) → Int → Int → Option (ByteArray × Bool)
 | 0, _, _, _, _ => none
 | k + 1, x1, x9, x10, x11 => if x11 < x10 then (if 0 ≤ x11 then (if x11 < (x9.length : Int) then ((glyph_Fold.f x1).bind fun t383 => (if ((rd_T104 x9 x11).f0).toList = t383.toList then (some ((rd_T104 x9 x11).f1, true)) else (mime_Type_Value.l0 k x1 x9 x10 (wrap64 (x11 + 1))))) else (none)) else (none)) else (some ((⟨#[]⟩ : ByteArray), false))
def mime_Type_Value.f (k : Nat) (a0_0 : ByteArray) (l0_1 : List (S104)) (a1 : ByteArray) : Option (ByteArray × Bool) := mime_Type_Value.l0 k a1 l0_1 (l0_1.length : Int) 0
theorem mime_Type_Value.mono_l : ∀ k, (∀ y0 y1 y2 y3, LeO (mime_Type_Value.l0 k y0 y1 y2 y3) (mime_Type_Value.l0 (k + 1) y0 y1 y2 y3))
 | 0 => fun _ _ _ _ r h => by simp [mime_Type_Value.l0] at h
 | k + 1 => by
  have ih0 := mime_Type_Value.mono_l k
  ·intro y0 y1 y2 y3
   unfold mime_Type_Value.l0
   repeat' first
   | (with_reducible exact ih0 _ _ _ _)
   | (with_reducible exact LeO.refl _)
   | (with_reducible exact LeO.none _)
   | (with_reducible refine LeO.ite ?_ ?_)
   | (with_reducible refine LeO.bind ?_ (fun _ => ?_))
   | exact ih0 _ _ _ _
   | exact LeO.none _
   | refine LeO.ite ?_ ?_
   | refine LeO.bind ?_ (fun _ => ?_)
theorem mime_Type_Value.mono : ∀ a0 a1 a2 k, LeO (mime_Type_Value.f k a0 a1 a2) (mime_Type_Value.f (k + 1) a0 a1 a2) := by
 intro a0 a1 a2 k
 have ih0 := mime_Type_Value.mono_l k
 unfold mime_Type_Value.f
 repeat' first
   | (with_reducible exact ih0 _ _ _ _)
   | (with_reducible exact LeO.refl _)
   | (with_reducible exact LeO.none _)
   | (with_reducible refine LeO.ite ?_ ?_)
   | (with_reducible refine LeO.bind ?_ (fun _ => ?_))
   | exact ih0 _ _ _ _
   | exact LeO.none _
   | refine LeO.ite ?_ ?_
   | refine LeO.bind ?_ (fun _ => ?_)
set_option maxHeartbeats 8000000 in
set_option maxRecDepth 100000 in
theorem mime_Type_Value.calls (k : Nat) (a0_0 : ByteArray) (A0_1 : Option Addr) (c0_1 : Nat) (l0_1 : List (S104)) (a1 : ByteArray) (r1 : ByteArray) (r2 : Bool) (w : World) (hr0_1 : Kd.C k104 w A0_1 l0_1.length l0_1) (hc0_1 : l0_1.length ≤ c0_1) (h : mime_Type_Value.f k a0_0 l0_1 a1 = some (r1, r2)) :
  Calls Tryd.prog 31 #[.agg #[.string a0_0, .slice A0_1 l0_1.length c0_1], .string a1] w fun e w' => e = .returned (.tuple #[.string r1, .bool r2]) ∧ Below w.heap.size w w' := by
 have hu51 := Tryd.underlying51
 have hu104 := Tryd.underlying104
 have HR0_1 := Aside0.mk hr0_1
 have HC0_1 := Aside0.mk hc0_1
 clear hr0_1 hc0_1
 have HB := Aside0.mk (Below.refl w.heap.size w)
 have H : (mime_Type_Value.l0 k a1 l0_1 (l0_1.length : Int) 0) = some (r1, r2) := h
 clear h
 have H' := Aside0.mk H
 clear H
 go_enter Tryd.func31, Tryd.ntmps31
 go_wp2_with (first | ((with_reducible refine gate_dst (N := 2) rfl ?_); refine box_event ?hg (N := 2) ?hd (cs := #[.string a0_0, .slice A0_1 l0_1.length c0_1]) (t := 51) ?hr ?_; (case hd => rfl); (case hg => rfl); (case hr => first | (go_simp; done) | (go_simp; rfl)); intro gb380 hg w3 hbox hb; have n0_ := Aside0.mk (below_step bw hb); have n1_ := Aside0.mk (hbox); have n2_ := Aside0.mk ((by rw [hg]; exact (below_size bw) : w.heap.size ≤ gb380)); have n3_ := Aside0.mk ((by rw [hg]; exact (below_size bw) : w.heap.size ≤ gb380)); clear HB; have HB := n0_; have BK380 := n1_; have GW380 := n2_; have GE380 := n3_; clear n0_ n1_ n2_ n3_; clear hb hbox hg; have hcz4_0 : w3.cell? ⟨gb380, 0, none⟩ = some (.string a0_0) := (blk_cell BK380.out 0).trans rfl; have hcz4_1 : w3.cell? ⟨gb380, 1, none⟩ = some (.slice A0_1 l0_1.length c0_1) := (blk_cell BK380.out 1).trans rfl; have hfz4_0 := blk_frozen BK380.out 0; have hfz4_1 := blk_frozen BK380.out 1))
 go_loopg [11] k (fun kq v11 w' => ∃ (x11_1 : Int), v11 = .int .i64 x11_1 ∧ Aside0 (mime_Type_Value.l0 kq a1 l0_1 (l0_1.length : Int) x11_1 = some (r1, r2)) ∧ Aside0 (kq ≤ k) ∧ Aside0 (w'.heap[gb380]? = some (.cells #[.string a0_0, (.slice A0_1 l0_1.length c0_1)] 51 (0, 0))) ∧ Aside0 (Below w.heap.size w w'))
 case atStart => exact ⟨(0), cl, H', ⟨Nat.le_refl _⟩, ⟨bk⟩, ⟨bwS⟩⟩
 case round =>
  clear H'
  try clear p2
  try clear c3
  try clear hcz4_0
  try clear hcz4_1
  try clear hfz4_0
  try clear hfz4_1
  obtain ⟨x11_1, rfl, HA, HK1, BK380, HB⟩ := hrel
  cases gk with
  | zero => exact absurd HA.out (by simp [mime_Type_Value.l0])
  | succ k1 =>
   have H := HA.out
   clear HA
   simp only [mime_Type_Value.l0] at H
   by_cases c5 : x11_1 < (l0_1.length : Int)
   ·rw [if_pos c5] at H
    have c5b0 : decide (x11_1 < (l0_1.length : Int)) = true := decide_eq_true c5
    clear c5
    by_cases c6 : 0 ≤ x11_1
    ·rw [if_pos c6] at H
     have c6b0 : decide (0 ≤ x11_1) = true := decide_eq_true c6
     clear c6
     by_cases c7 : x11_1 < (l0_1.length : Int)
     ·rw [if_pos c7] at H
      have c7b0 : decide (x11_1 < (l0_1.length : Int)) = true := decide_eq_true c7
      clear c7
      replace H := Option.bind_eq_some_iff.mp H
      obtain ⟨t383, A80, H⟩ := H
      replace H : (if ((rd_T104 l0_1 x11_1).f0).toList = t383.toList then (some ((rd_T104 l0_1 x11_1).f1, true)) else (mime_Type_Value.l0 k1 a1 l0_1 (l0_1.length : Int) (wrap64 (x11_1 + 1)))) = some (r1, r2) := H
      have A8 := Aside0.mk A80
      clear A80
      by_cases c9 : ((rd_T104 l0_1 x11_1).f0).toList = t383.toList
      ·rw [if_pos c9] at H
       have c9b0 : (((rd_T104 l0_1 x11_1).f0).toList == t383.toList) = true := beq_iff_eq.mpr c9
       have c9b1 : (((rd_T104 l0_1 x11_1).f0).toList != t383.toList) = false := bne_eq_false_iff_eq.mpr c9
       clear c9
       simp only [Option.some.injEq, Prod.mk.injEq] at H
       obtain ⟨rfl, rfl⟩ := H
       have p381 : 0 ≤ (x11_1 : Int) := od
       have q381 : x11_1 < (l0_1.length : Int) := od
       obtain ⟨ad381, e381, hx381_0, hx381_1⟩ := at_T104 HR0_1.out x11_1 p381 q381
       cases e381
       replace hx381_0 := (HB.out.cell (World.block_lt_of_cell? w _ hx381_0)).trans hx381_0
       replace hx381_1 := (HB.out.cell (World.block_lt_of_cell? w _ hx381_1)).trans hx381_1
       replace p381 := eq_true p381
       replace q381 := eq_true q381
       try go_wp2_with (first | ((with_reducible refine gate_dst (N := 7) rfl ?_); refine box_event ?hg (N := 7) ?hd (cs := #[.string (⟨#[]⟩ : ByteArray), .string (⟨#[]⟩ : ByteArray)]) (t := 104) ?hr ?_; (case hd => rfl); (case hg => rfl); (case hr => first | (go_simp; done) | (go_simp; rfl)); intro gb382 hg w10 hbox hb; have n0_ := Aside0.mk (blk_below (g := gb380) (o := .cells #[.string a0_0, .slice (some ad381) l0_1.length c0_1] 51 (0, 0)) bk hb); have n1_ := Aside0.mk (below_step bwS hb); have n2_ := Aside0.mk (hbox); have n3_ := Aside0.mk ((by rw [hg]; exact (below_size bwS) : w.heap.size ≤ gb382)); have n4_ := Aside0.mk ((by rw [hg]; exact (below_size bwS) : w.heap.size ≤ gb382)); have n5_ := Aside0.mk ((by rw [hg]; exact Nat.ne_of_lt (blk_lt (g := gb380) (o := .cells #[.string a0_0, .slice (some ad381) l0_1.length c0_1] 51 (0, 0)) bk) : gb380 ≠ gb382)); have n6_ := Aside0.mk ((by rw [hg]; exact Nat.ne_of_gt (blk_lt (g := gb380) (o := .cells #[.string a0_0, .slice (some ad381) l0_1.length c0_1] 51 (0, 0)) bk) : gb382 ≠ gb380)); clear BK380; clear HB; have BK380 := n0_; have HB := n1_; have BK382 := n2_; have GW382 := n3_; have GE382 := n4_; have NB380_382 := n5_; have NB382_380 := n6_; clear n0_ n1_ n2_ n3_ n4_ n5_ n6_; clear hb hbox hg; have hnb11 := NB382_380.out; have hnc11 := NB380_382.out; have hcz12_0 : w10.cell? ⟨gb382, 0, none⟩ = some (.string (⟨#[]⟩ : ByteArray)) := (blk_cell BK382.out 0).trans rfl; have hcz12_1 : w10.cell? ⟨gb382, 1, none⟩ = some (.string (⟨#[]⟩ : ByteArray)) := (blk_cell BK382.out 1).trans rfl; have hfz12_0 := blk_frozen BK382.out 0; have hfz12_1 := blk_frozen BK382.out 1))
       have n0_ : Aside0 (((w10.setCell ⟨gb382, 0, none⟩ (.string ((rd_T104 l0_1 x11_1).f0))).setCell ⟨gb382, 1, none⟩ (.string ((rd_T104 l0_1 x11_1).f1))).heap[gb380]? = some (.cells #[.string a0_0, .slice (some ad381) l0_1.length c0_1] 51 (0, 0))) := ⟨by (with_reducible repeat (first | refine blk_drewN ?_ _ | refine blk_drew ?_ | refine blk_alloc ?_ _)); refine blk_far ?_ NB380_382.out _; (with_reducible repeat (first | refine blk_drewN ?_ _ | refine blk_drew ?_ | refine blk_alloc ?_ _)); refine blk_far ?_ NB380_382.out _; (with_reducible repeat (first | refine blk_drewN ?_ _ | refine blk_drew ?_ | refine blk_alloc ?_ _)); exact BK380.out⟩
       have n1_ : Aside0 (((w10.setCell ⟨gb382, 0, none⟩ (.string ((rd_T104 l0_1 x11_1).f0))).setCell ⟨gb382, 1, none⟩ (.string ((rd_T104 l0_1 x11_1).f1))).heap[gb382]? = some (.cells #[.string ((rd_T104 l0_1 x11_1).f0), .string ((rd_T104 l0_1 x11_1).f1)] 104 (0, 0))) := ⟨by (with_reducible repeat (first | refine blk_drewN ?_ _ | refine blk_drew ?_ | refine blk_alloc ?_ _)); refine blk_put (cs := #[.string ((rd_T104 l0_1 x11_1).f0), .string (⟨#[]⟩ : ByteArray)]) ?_ 1 _ rfl; (with_reducible repeat (first | refine blk_drewN ?_ _ | refine blk_drew ?_ | refine blk_alloc ?_ _)); refine blk_put (cs := #[.string (⟨#[]⟩ : ByteArray), .string (⟨#[]⟩ : ByteArray)]) ?_ 0 _ rfl; (with_reducible repeat (first | refine blk_drewN ?_ _ | refine blk_drew ?_ | refine blk_alloc ?_ _)); exact BK382.out⟩
       have n2_ : Aside0 (Below w.heap.size w ((w10.setCell ⟨gb382, 0, none⟩ (.string ((rd_T104 l0_1 x11_1).f0))).setCell ⟨gb382, 1, none⟩ (.string ((rd_T104 l0_1 x11_1).f1)))) := ⟨bwS⟩
       (try clear BK380)
       (try clear BK382)
       (try clear HB)
       generalize ((w10.setCell ⟨gb382, 0, none⟩ (.string ((rd_T104 l0_1 x11_1).f0))).setCell ⟨gb382, 1, none⟩ (.string ((rd_T104 l0_1 x11_1).f1))) = w13 at n0_ n1_ n2_ ⊢
       have BK380 := n0_
       have BK382 := n1_
       have HB := n2_
       clear n0_ n1_ n2_
       have n0_ := Aside0.mk (blk_drew BK380.out)
       have n1_ := Aside0.mk (blk_drew BK382.out)
       have n2_ := Aside0.mk (below_drew1 HB.out)
       clear BK380
       clear BK382
       clear HB
       have BK380 := n0_
       have BK382 := n1_
       have HB := n2_
       clear n0_ n1_ n2_
       refine start_ (n := 5) (S := fun w' => w'.cell? ⟨gb382, 0, none⟩ = some (.string ((rd_T104 l0_1 x11_1).f0)) ∧ w'.cell? ⟨gb382, 1, none⟩ = some (.string ((rd_T104 l0_1 x11_1).f1))) (ds := []) #[false, false, false, false, false] (by kernel_rfl) rfl rfl ⟨(blk_cell BK382.out 0).trans rfl, (blk_cell BK382.out 1).trans rfl⟩ (fun hHeld => ?_)
       generalize w13.drew = w14 at BK380 BK382 HB hHeld ⊢
       refine pure_ (i := 0) (N := some 15) (v := ?_) (a' := ?_) #[true, false, false, false, false] rfl rfl (by kernel_rfl) (fun _ _ _ h => h) (Or.inl ⟨by rfl, ?_⟩) ?_ ?_
       rotate_left
       ·intro w'
        go_simp
        with_reducible rfl
       rotate_left
       ·simp only [Act.put, List.setIfInBounds_toArray, List.set_cons_zero, List.set_cons_succ, i64_w, i32_w]
        rfl
       refine pure_ (i := 2) (N := some 17) (v := ?_) (a' := ?_) #[true, false, true, false, false] rfl rfl (by kernel_rfl) (fun _ _ _ h => h) (Or.inl ⟨by rfl, ?_⟩) ?_ ?_
       rotate_left
       ·intro w'
        go_simp
        with_reducible rfl
       rotate_left
       ·simp only [Act.put, List.setIfInBounds_toArray, List.set_cons_zero, List.set_cons_succ, i64_w, i32_w]
        rfl
       refine take_ (i := 1) (N := some 16) (v := ?_) (a' := ?_) #[true, true, true, false, false] rfl rfl (by kernel_rfl) (fun _ _ _ h => h) (Or.inl ⟨by rfl, ?_⟩) hHeld ?_ ?_
       rotate_left
       ·rintro w' ⟨s0, s1⟩
        go_simp
        with_reducible rfl
       rotate_left
       ·simp only [Act.put, List.setIfInBounds_toArray, List.set_cons_zero, List.set_cons_succ, i64_w, i32_w]
        rfl
       refine one_ (i := 3) (N := some 18) #[true, true, true, true, false] rfl rfl (by kernel_rfl) (by decide) (fun K hK => ?_)
       refine goes_ Tryd.func64 (by kernel_rfl) rfl #[.string a1] (by rfl) rfl rfl am ?_
       with_reducible refine (glyph_Fold.calls a1 t383 _ A8.out).mono ?_
       rintro e w15 ⟨rfl, hb⟩
       refine ⟨_, rfl, ?_⟩
       have n0_ := Aside0.mk (blk_below (g := gb380) (o := .cells #[.string a0_0, .slice (some ad381) l0_1.length c0_1] 51 (0, 0)) bk hb)
       have n1_ := Aside0.mk (blk_below (g := gb382) (o := .cells #[.string ((rd_T104 l0_1 x11_1).f0), .string ((rd_T104 l0_1 x11_1).f1)] 104 (0, 0)) bk hb)
       have n2_ := Aside0.mk (below_step bwS hb)
       clear BK380
       clear BK382
       clear HB
       have BK380 := n0_
       have BK382 := n1_
       have HB := n2_
       clear n0_ n1_ n2_
       (try clear hb)
       (try clear hb2)
       (try clear hk)
       (try clear hi)
       refine hK.out _ _ ⟨(blk_cell BK382.out 0).trans rfl, (blk_cell BK382.out 1).trans rfl⟩ (fun hHeld => ?_)
       clear hK K
       refine norm_ (a' := ?_) ?_ ?_
       rotate_left
       ·show Act.put _ (some 18) _ = _
        simp only [Act.put, List.setIfInBounds_toArray, List.set_cons_zero, List.set_cons_succ, i64_w, i32_w]
        rfl
       refine pure_ (i := 4) (N := some 19) (v := ?_) (a' := ?_) #[true, true, true, true, true] rfl rfl (by kernel_rfl) (fun _ _ _ h => h) (Or.inl ⟨by rfl, ?_⟩) ?_ ?_
       rotate_left
       ·intro w'
        go_simp
        with_reducible rfl
       rotate_left
       ·simp only [Act.put, List.setIfInBounds_toArray, List.set_cons_zero, List.set_cons_succ, i64_w, i32_w]
        rfl
       refine done_ (by kernel_rfl) ?_
       have hcz16_0 : w15.cell? ⟨gb382, 0, none⟩ = some (.string ((rd_T104 l0_1 x11_1).f0)) := (blk_cell BK382.out 0).trans rfl
       have hcz16_1 : w15.cell? ⟨gb382, 1, none⟩ = some (.string ((rd_T104 l0_1 x11_1).f1)) := (blk_cell BK382.out 1).trans rfl
       have hfz16_0 := blk_frozen BK382.out 0
       have hfz16_1 := blk_frozen BK382.out 1
       try go_wp2
       go_ret2
       exact ⟨by first | rfl | (simp [errW_none, errW_some] <;> rfl) | (simp [*, errW_none, errW_some] <;> rfl), bwS⟩
      ·rw [if_neg c9] at H
       have c9b0 : (((rd_T104 l0_1 x11_1).f0).toList == t383.toList) = false := beq_eq_false_iff_ne.mpr c9
       have c9b1 : (((rd_T104 l0_1 x11_1).f0).toList != t383.toList) = true := bne_iff_ne.mpr c9
       have H' := Aside0.mk H
       clear H
       have p381 : 0 ≤ (x11_1 : Int) := od
       have q381 : x11_1 < (l0_1.length : Int) := od
       obtain ⟨ad381, e381, hx381_0, hx381_1⟩ := at_T104 HR0_1.out x11_1 p381 q381
       cases e381
       replace hx381_0 := (HB.out.cell (World.block_lt_of_cell? w _ hx381_0)).trans hx381_0
       replace hx381_1 := (HB.out.cell (World.block_lt_of_cell? w _ hx381_1)).trans hx381_1
       replace p381 := eq_true p381
       replace q381 := eq_true q381
       try go_wp2_with (first | ((with_reducible refine gate_dst (N := 7) rfl ?_); refine box_event ?hg (N := 7) ?hd (cs := #[.string (⟨#[]⟩ : ByteArray), .string (⟨#[]⟩ : ByteArray)]) (t := 104) ?hr ?_; (case hd => rfl); (case hg => rfl); (case hr => first | (go_simp; done) | (go_simp; rfl)); intro gb382 hg w17 hbox hb; have n0_ := Aside0.mk (blk_below (g := gb380) (o := .cells #[.string a0_0, .slice (some ad381) l0_1.length c0_1] 51 (0, 0)) bk hb); have n1_ := Aside0.mk (below_step bwS hb); have n2_ := Aside0.mk (hbox); have n3_ := Aside0.mk ((by rw [hg]; exact (below_size bwS) : w.heap.size ≤ gb382)); have n4_ := Aside0.mk ((by rw [hg]; exact (below_size bwS) : w.heap.size ≤ gb382)); have n5_ := Aside0.mk ((by rw [hg]; exact Nat.ne_of_lt (blk_lt (g := gb380) (o := .cells #[.string a0_0, .slice (some ad381) l0_1.length c0_1] 51 (0, 0)) bk) : gb380 ≠ gb382)); have n6_ := Aside0.mk ((by rw [hg]; exact Nat.ne_of_gt (blk_lt (g := gb380) (o := .cells #[.string a0_0, .slice (some ad381) l0_1.length c0_1] 51 (0, 0)) bk) : gb382 ≠ gb380)); clear BK380; clear HB; have BK380 := n0_; have HB := n1_; have BK382 := n2_; have GW382 := n3_; have GE382 := n4_; have NB380_382 := n5_; have NB382_380 := n6_; clear n0_ n1_ n2_ n3_ n4_ n5_ n6_; clear hb hbox hg; have hnb18 := NB382_380.out; have hnc18 := NB380_382.out; have hcz19_0 : w17.cell? ⟨gb382, 0, none⟩ = some (.string (⟨#[]⟩ : ByteArray)) := (blk_cell BK382.out 0).trans rfl; have hcz19_1 : w17.cell? ⟨gb382, 1, none⟩ = some (.string (⟨#[]⟩ : ByteArray)) := (blk_cell BK382.out 1).trans rfl; have hfz19_0 := blk_frozen BK382.out 0; have hfz19_1 := blk_frozen BK382.out 1))
       have n0_ : Aside0 (((w17.setCell ⟨gb382, 0, none⟩ (.string ((rd_T104 l0_1 x11_1).f0))).setCell ⟨gb382, 1, none⟩ (.string ((rd_T104 l0_1 x11_1).f1))).heap[gb380]? = some (.cells #[.string a0_0, .slice (some ad381) l0_1.length c0_1] 51 (0, 0))) := ⟨by (with_reducible repeat (first | refine blk_drewN ?_ _ | refine blk_drew ?_ | refine blk_alloc ?_ _)); refine blk_far ?_ NB380_382.out _; (with_reducible repeat (first | refine blk_drewN ?_ _ | refine blk_drew ?_ | refine blk_alloc ?_ _)); refine blk_far ?_ NB380_382.out _; (with_reducible repeat (first | refine blk_drewN ?_ _ | refine blk_drew ?_ | refine blk_alloc ?_ _)); exact BK380.out⟩
       have n1_ : Aside0 (((w17.setCell ⟨gb382, 0, none⟩ (.string ((rd_T104 l0_1 x11_1).f0))).setCell ⟨gb382, 1, none⟩ (.string ((rd_T104 l0_1 x11_1).f1))).heap[gb382]? = some (.cells #[.string ((rd_T104 l0_1 x11_1).f0), .string ((rd_T104 l0_1 x11_1).f1)] 104 (0, 0))) := ⟨by (with_reducible repeat (first | refine blk_drewN ?_ _ | refine blk_drew ?_ | refine blk_alloc ?_ _)); refine blk_put (cs := #[.string ((rd_T104 l0_1 x11_1).f0), .string (⟨#[]⟩ : ByteArray)]) ?_ 1 _ rfl; (with_reducible repeat (first | refine blk_drewN ?_ _ | refine blk_drew ?_ | refine blk_alloc ?_ _)); refine blk_put (cs := #[.string (⟨#[]⟩ : ByteArray), .string (⟨#[]⟩ : ByteArray)]) ?_ 0 _ rfl; (with_reducible repeat (first | refine blk_drewN ?_ _ | refine blk_drew ?_ | refine blk_alloc ?_ _)); exact BK382.out⟩
       have n2_ : Aside0 (Below w.heap.size w ((w17.setCell ⟨gb382, 0, none⟩ (.string ((rd_T104 l0_1 x11_1).f0))).setCell ⟨gb382, 1, none⟩ (.string ((rd_T104 l0_1 x11_1).f1)))) := ⟨bwS⟩
       (try clear BK380)
       (try clear BK382)
       (try clear HB)
       generalize ((w17.setCell ⟨gb382, 0, none⟩ (.string ((rd_T104 l0_1 x11_1).f0))).setCell ⟨gb382, 1, none⟩ (.string ((rd_T104 l0_1 x11_1).f1))) = w20 at n0_ n1_ n2_ ⊢
       have BK380 := n0_
       have BK382 := n1_
       have HB := n2_
       clear n0_ n1_ n2_
       have n0_ := Aside0.mk (blk_drew BK380.out)
       have n1_ := Aside0.mk (blk_drew BK382.out)
       have n2_ := Aside0.mk (below_drew1 HB.out)
       clear BK380
       clear BK382
       clear HB
       have BK380 := n0_
       have BK382 := n1_
       have HB := n2_
       clear n0_ n1_ n2_
       refine start_ (n := 5) (S := fun w' => w'.cell? ⟨gb382, 0, none⟩ = some (.string ((rd_T104 l0_1 x11_1).f0)) ∧ w'.cell? ⟨gb382, 1, none⟩ = some (.string ((rd_T104 l0_1 x11_1).f1))) (ds := []) #[false, false, false, false, false] (by kernel_rfl) rfl rfl ⟨(blk_cell BK382.out 0).trans rfl, (blk_cell BK382.out 1).trans rfl⟩ (fun hHeld => ?_)
       generalize w20.drew = w21 at BK380 BK382 HB hHeld ⊢
       refine pure_ (i := 0) (N := some 15) (v := ?_) (a' := ?_) #[true, false, false, false, false] rfl rfl (by kernel_rfl) (fun _ _ _ h => h) (Or.inl ⟨by rfl, ?_⟩) ?_ ?_
       rotate_left
       ·intro w'
        go_simp
        with_reducible rfl
       rotate_left
       ·simp only [Act.put, List.setIfInBounds_toArray, List.set_cons_zero, List.set_cons_succ, i64_w, i32_w]
        rfl
       refine pure_ (i := 2) (N := some 17) (v := ?_) (a' := ?_) #[true, false, true, false, false] rfl rfl (by kernel_rfl) (fun _ _ _ h => h) (Or.inl ⟨by rfl, ?_⟩) ?_ ?_
       rotate_left
       ·intro w'
        go_simp
        with_reducible rfl
       rotate_left
       ·simp only [Act.put, List.setIfInBounds_toArray, List.set_cons_zero, List.set_cons_succ, i64_w, i32_w]
        rfl
       refine take_ (i := 1) (N := some 16) (v := ?_) (a' := ?_) #[true, true, true, false, false] rfl rfl (by kernel_rfl) (fun _ _ _ h => h) (Or.inl ⟨by rfl, ?_⟩) hHeld ?_ ?_
       rotate_left
       ·rintro w' ⟨s0, s1⟩
        go_simp
        with_reducible rfl
       rotate_left
       ·simp only [Act.put, List.setIfInBounds_toArray, List.set_cons_zero, List.set_cons_succ, i64_w, i32_w]
        rfl
       refine one_ (i := 3) (N := some 18) #[true, true, true, true, false] rfl rfl (by kernel_rfl) (by decide) (fun K hK => ?_)
       refine goes_ Tryd.func64 (by kernel_rfl) rfl #[.string a1] (by rfl) rfl rfl am ?_
       with_reducible refine (glyph_Fold.calls a1 t383 _ A8.out).mono ?_
       rintro e w22 ⟨rfl, hb⟩
       refine ⟨_, rfl, ?_⟩
       have n0_ := Aside0.mk (blk_below (g := gb380) (o := .cells #[.string a0_0, .slice (some ad381) l0_1.length c0_1] 51 (0, 0)) bk hb)
       have n1_ := Aside0.mk (blk_below (g := gb382) (o := .cells #[.string ((rd_T104 l0_1 x11_1).f0), .string ((rd_T104 l0_1 x11_1).f1)] 104 (0, 0)) bk hb)
       have n2_ := Aside0.mk (below_step bwS hb)
       clear BK380
       clear BK382
       clear HB
       have BK380 := n0_
       have BK382 := n1_
       have HB := n2_
       clear n0_ n1_ n2_
       (try clear hb)
       (try clear hb2)
       (try clear hk)
       (try clear hi)
       refine hK.out _ _ ⟨(blk_cell BK382.out 0).trans rfl, (blk_cell BK382.out 1).trans rfl⟩ (fun hHeld => ?_)
       clear hK K
       refine norm_ (a' := ?_) ?_ ?_
       rotate_left
       ·show Act.put _ (some 18) _ = _
        simp only [Act.put, List.setIfInBounds_toArray, List.set_cons_zero, List.set_cons_succ, i64_w, i32_w]
        rfl
       refine pure_ (i := 4) (N := some 19) (v := ?_) (a' := ?_) #[true, true, true, true, true] rfl rfl (by kernel_rfl) (fun _ _ _ h => h) (Or.inl ⟨by rfl, ?_⟩) ?_ ?_
       rotate_left
       ·intro w'
        go_simp
        with_reducible rfl
       rotate_left
       ·simp only [Act.put, List.setIfInBounds_toArray, List.set_cons_zero, List.set_cons_succ, i64_w, i32_w]
        rfl
       refine done_ (by kernel_rfl) ?_
       try go_wp2
       go_roundg k1
       case measure => have := HK1.out; omega
       case rel => exact ⟨(wrap64 (x11_1 + 1)), cl, H', ⟨by have := HK1.out; omega⟩, ⟨bk⟩, ⟨bwS⟩⟩
     ·rw [if_neg c7] at H
      exact absurd H (by simp)
    ·rw [if_neg c6] at H
     exact absurd H (by simp)
   ·rw [if_neg c5] at H
    have c5b0 : decide (x11_1 < (l0_1.length : Int)) = false := decide_eq_false c5
    clear c5
    simp only [Option.some.injEq, Prod.mk.injEq] at H
    obtain ⟨rfl, rfl⟩ := H
    go_wp2
    go_ret2
    exact ⟨by first | rfl | (simp [errW_none, errW_some] <;> rfl) | (simp [*, errW_none, errW_some] <;> rfl), bwS⟩

end Go.Proofs.YtoikneogdbdplaaDoor.Fn
set_option linter.unusedVariables false
namespace Go.Proofs.YtoikneogdbdplaaDoor.Pl
open Go.RowKit Go.Proofs.YtoikneogdbdplaaDoorW.PrintWords

/-! Tools for the plain laws: byte texts as lists, rounds. -/
def bs (s : ByteArray) : Bytes := s.data.toList
theorem bs_str (l : Bytes) : bs (str l) = l := str_data l
theorem str_bs (s : ByteArray) : str (bs s) = s := str_toList s
theorem bs_length (s : ByteArray) : (bs s).length = s.size := data_length s
theorem toList_bs (s : ByteArray) : s.toList = bs s := ByteArray.toList_eq s
theorem toList_str (l : Bytes) : (str l).toList = l := by rw [toList_bs, bs_str]
theorem bs_inj {a b : ByteArray} (h : bs a = bs b) : a = b := by rw [← str_bs a, ← str_bs b, h]
theorem str_app (a b : Bytes) : str a ++ str b = str (a ++ b) := by
  apply bs_inj
  simp [bs, str]
theorem bs_app (a b : ByteArray) : bs (a ++ b) = bs a ++ bs b := by simp [bs]
theorem bs_extract (s : ByteArray) (i j : Nat) : bs (s.extract i j) = ((bs s).take j).drop i := by
  simp [bs, List.extract_eq_take_drop, List.drop_take]
theorem bt_nat (s : ByteArray) (i : Nat) (h : i < s.size) : bt s (i : Int) = (s[i].toNat : Int) := by
  have := bt_at s (i : Int) (by simpa using h)
  simpa using this.symm
theorem bt_bs (s : ByteArray) (i : Nat) (h : i < (bs s).length) : bt s (i : Int) = ((bs s)[i].toNat : Int) := by
  rw [bt_nat s i (by rw [bs_length] at h; exact h)]
  rfl
theorem drop_cons {l : Bytes} {i : Nat} {c : UInt8} {r : Bytes} (h : l.drop i = c :: r) : i < l.length ∧ l[i]? = some c ∧ l.drop (i + 1) = r ∧ (l.take (i + 1)) = l.take i ++ [c] := by
  have hi : i < l.length := by
    rcases Nat.lt_or_ge i l.length with h' | h'
    · exact h'
    · rw [List.drop_of_length_le h'] at h; cases h
  have h1 : l[i]? = some c := by
    have := congrArg List.head? h
    rw [List.head?_drop] at this
    exact this
  refine ⟨hi, h1, ?_, ?_⟩
  · rw [← List.drop_drop, h]; rfl
  · rw [List.take_add_one, h1]; rfl
theorem drop_nil {l : Bytes} {i : Nat} (h : l.drop i = []) : l.length ≤ i := by
  have := congrArg List.length h
  simp at this
  omega
theorem bt_drop {s : ByteArray} {i : Nat} {c : UInt8} {r : Bytes} (h : (bs s).drop i = c :: r) : bt s (i : Int) = (c.toNat : Int) := by
  obtain ⟨h1, h2, _⟩ := drop_cons h
  rw [bt_bs s i h1]
  rw [List.getElem?_eq_getElem h1] at h2
  injection h2 with h2
  rw [h2]
theorem wrap_id {x : Int} (h0 : -9223372036854775808 ≤ x) (h1 : x ≤ 9223372036854775807) : wrap64 x = x := by
  unfold wrap64
  omega
theorem wrap_succ (i : Nat) (h : i ≤ 140737488355328) : wrap64 ((i : Int) + 1) = ((i + 1 : Nat) : Int) := by
  rw [wrap_id (by omega) (by omega)]
  omega
theorem extract_one {s : ByteArray} {i : Nat} {c : UInt8} {r : Bytes} (h : (bs s).drop i = c :: r) : s.extract i (i + 1) = str [c] := by
  apply bs_inj
  rw [bs_extract, bs_str, (drop_cons h).2.2.2, List.drop_append_of_le_length (by rw [List.length_take]; have := (drop_cons h).1; omega)]
  have := (drop_cons h).1
  simp [List.drop_eq_nil_of_le, Nat.min_eq_left (Nat.le_of_lt this)]
theorem nums_one (n : Int) : strOfNums [n] = str [UInt8.ofNat n.toNat] := rfl
end Go.Proofs.YtoikneogdbdplaaDoor.Pl
set_option linter.unusedVariables false
namespace Go.Proofs.YtoikneogdbdplaaDoor.Fn
open Go.RowKit Go.Shelf

/-! strings.SplitSeq: its iterator keeps what is left of the text in a cell of its own. -/

def cutsN (find : ByteArray → Int) (L : Nat) : Nat → ByteArray → List ByteArray
  | 0, s => [s]
  | k + 1, s => if find s < 0 then [s] else s.extract 0 (find s).toNat :: cutsN find L k (s.extract ((find s).toNat + L) s.size)
def cuts (find : ByteArray → Int) (L : Nat) (s : ByteArray) : List ByteArray := cutsN find L s.size s

structure Finds (find : ByteArray → Int) (L : Nat) : Prop where
  pos : 1 ≤ L
  fits : ∀ s, 0 ≤ find s → (find s).toNat + L ≤ s.size

theorem cutsN_more {find : ByteArray → Int} {L : Nat} (hf : Finds find L) : ∀ (k : Nat) (s : ByteArray), s.size ≤ k → cutsN find L k s = cutsN find L (k + 1) s
  | 0, s, h => by
    have : find s < 0 := by
      rcases Int.lt_or_le (find s) 0 with h0 | h0
      · exact h0
      · have := hf.fits s h0; have := hf.pos; omega
    simp [cutsN, this]
  | k + 1, s, h => by
    rw [cutsN, cutsN]
    by_cases h0 : find s < 0
    · rw [if_pos h0, if_pos h0]
    · rw [if_neg h0, if_neg h0]
      have h1 := hf.fits s (by omega)
      have h2 := hf.pos
      rw [cutsN_more hf k _ (by simp only [ByteArray.size_extract]; omega)]
theorem cutsN_enough {find : ByteArray → Int} {L : Nat} (hf : Finds find L) (k : Nat) (s : ByteArray) (h : s.size ≤ k) : cutsN find L k s = cuts find L s := by
  unfold cuts
  obtain ⟨d, rfl⟩ : ∃ d, k = s.size + d := ⟨k - s.size, by omega⟩
  clear h
  induction d with
  | zero => rfl
  | succ d ih => rw [← Nat.add_assoc, ← cutsN_more hf _ _ (by omega)]; exact ih
theorem cuts_last {find : ByteArray → Int} {L : Nat} (hf : Finds find L) (s : ByteArray) (h : find s < 0) : cuts find L s = [s] := by
  rw [← cutsN_enough hf (s.size + 1) s (by omega), cutsN, if_pos h]
theorem cuts_more {find : ByteArray → Int} {L : Nat} (hf : Finds find L) (s : ByteArray) (h : ¬ find s < 0) : cuts find L s = s.extract 0 (find s).toNat :: cuts find L (s.extract ((find s).toNat + L) s.size) := by
  have h1 := hf.fits s (by omega)
  have h2 := hf.pos
  rw [← cutsN_enough hf (s.size + 1) s (by omega), cutsN, if_neg h, cutsN_enough hf _ _ (by simp only [ByteArray.size_extract]; omega)]

def Kept (D : Nat → Prop) (A B : World) : Prop := ∀ b, D b → B.heap[b]? = A.heap[b]?
theorem Kept.refl (D : Nat → Prop) (A : World) : Kept D A A := fun _ _ => rfl
theorem Kept.trans {D : Nat → Prop} {A B C : World} (h : Kept D A B) (k : Kept D B C) : Kept D A C := fun b hb => (k b hb).trans (h b hb)
theorem Kept.cell {D : Nat → Prop} {A B : World} (h : Kept D A B) {p : Addr} (hp : D p.block) : B.cell? p = A.cell? p := World.cell?_of_block (h p.block hp)
theorem Kept.frozen {D : Nat → Prop} {A B : World} (h : Kept D A B) {p : Addr} (hp : D p.block) : B.frozen? p = A.frozen? p := World.frozen?_of_block (h p.block hp)
theorem Kept.of_below {D : Nat → Prop} {n : Nat} {A B : World} (h : Below n A B) (hD : ∀ b, D b → b < n) : Kept D A B := fun b hb => h.block b (hD b hb)
theorem KeepsOthers.of_below {A B : World} (h : Below A.heap.size A B) : KeepsOthers A B := ⟨h.size, fun k o hk _ => (h.block k (Array.getElem?_eq_some_iff.1 hk).1).trans hk⟩

def SplitGives (n : Nat) (bs : Nat) (D : Nat → Prop) (xs : List ByteArray) (w : World) : Prop :=
  ∀ (l : Nat) (J Jx : List ByteArray → World → Prop) (W : World), Below w.heap.size w W → AbidesFrom W.heap.size J → AbidesFrom W.heap.size Jx →
    (∀ s A v, J s A → J s (A.setCell ⟨bs, 0, none⟩ v)) →
    (∀ pre x W1, J pre W1 → pre.length < xs.length → pre ++ [x] <+: xs → YieldAt Fence.wide (n - 1) Tryd.prog l #[.string x] W1 fun e W' =>
      (e = .returned (.bool true) ∧ J (pre ++ [x]) W' ∧ Kept D W1 W') ∨ (e = .returned (.bool false) ∧ Jx (pre ++ [x]) W')) →
    J [] W →
    CallsIn Fence.wide n Tryd.prog 133 (#[.func (.yield l) #[] #[]] ++ #[.pointer (some ⟨bs + 1, 0, none⟩), .pointer (some ⟨bs, 0, none⟩), .pointer (some ⟨bs + 2, 0, none⟩)]) W fun e W' =>
      (∃ v, e = .returned v) ∧ (J xs W' ∨ ∃ pre, pre <+: xs ∧ Jx pre W')

attribute [local go_sem] Oper.semAt_some

def leftIn (bs : Nat) (W : World) : Nat := match W.cell? ⟨bs, 0, none⟩ with | some (.string s) => s.size + 1 | _ => 0
theorem leftIn_eq {bs : Nat} {W : World} {s : ByteArray} (h : W.cell? ⟨bs, 0, none⟩ = some (.string s)) : leftIn bs W = s.size + 1 := by simp [leftIn, h]

set_option maxRecDepth 100000 in
set_option maxHeartbeats 4000000 in
theorem split_gives (n : Nat) (hn : 1 ≤ n) (bs : Nat) (D : Nat → Prop) (hD : ∀ b, bs ≤ b → b ≤ bs + 2 → D b) (s sep : ByteArray) (find : ByteArray → Int) (hf : Finds find sep.size) (hL : sep.size < 4611686018427387904) (hs : s.size < 4611686018427387904) (w : World) (hw : ∀ b, D b → b < w.heap.size)
    (hidx : ∀ (t : ByteArray) (W : World), t.size ≤ s.size → (∀ b, D b → b ≠ bs → W.heap[b]? = w.heap[b]?) → Calls Tryd.prog 129 #[.string t, .string sep] W fun e w' => e = .returned (.int .i64 (find t)) ∧ w' = W)
    (h0 : w.cell? ⟨bs, 0, none⟩ = some (.string s)) (z0 : w.frozen? ⟨bs, 0, none⟩ = false) (h1 : w.cell? ⟨bs + 1, 0, none⟩ = some (.string sep)) (h2 : w.cell? ⟨bs + 2, 0, none⟩ = some (.int .i64 0)) :
    SplitGives n bs D (cuts find sep.size s) w := by
  intro l J Jx W hW hJ hJx hJs hY hJ0
  have kW : Kept D w W := Kept.of_below hW hw
  have c0 := (kW.cell (p := ⟨bs, 0, none⟩) (hD _ (by simp) (by simp))).trans h0
  have d0 := (kW.frozen (p := ⟨bs, 0, none⟩) (hD _ (by simp) (by simp))).trans z0
  have c1 := (kW.cell (p := ⟨bs + 1, 0, none⟩) (hD _ (by simp) (by simp))).trans h1
  have c2 := (kW.cell (p := ⟨bs + 2, 0, none⟩) (hD _ (by simp) (by simp))).trans h2
  refine callsIn_of_wp Tryd.func133 rfl trivial ?_ rfl
  simp only [Tryd.ntmps133, List.size_toArray, List.length_cons, List.length_nil, Nat.reduceAdd, Nat.reduceSub, Array.replicate_succ, Array.replicate_zero, List.push_toArray, List.append_toArray, List.nil_append, List.cons_append]
  have hpos := hf.pos
  have hsep : ((sep.size : Int) == 0) = false := by rw [beq_eq_false_iff_ne]; omega
  gi_wp2
  gi_loopw [7, 8] (fun p7 p8 wr => ∃ (pre : List ByteArray) (cur : ByteArray), cuts find sep.size s = pre ++ cuts find sep.size cur ∧ cur.size ≤ s.size ∧ J pre wr ∧ wr.cell? ⟨bs, 0, none⟩ = some (.string cur) ∧ wr.frozen? ⟨bs, 0, none⟩ = false ∧ (∀ b, D b → b ≠ bs → wr.heap[b]? = w.heap[b]?))
    (fun p7 p8 wr => leftIn bs wr)
  case atStart =>
    exact ⟨[], s, rfl, Nat.le_refl _, hJ0, c0, d0, fun b hb _ => kW b hb⟩
  case round =>
    obtain ⟨pre, cur, hcut, hcs, hJ1, e0, f0, hK⟩ := hrel
    have e1 : wr.cell? ⟨bs + 1, 0, none⟩ = some (.string sep) := (World.cell?_of_block (hK (bs + 1) (hD _ (by omega) (by omega)) (by omega))).trans h1
    have e2 : wr.cell? ⟨bs + 2, 0, none⟩ = some (.int .i64 0) := (World.cell?_of_block (hK (bs + 2) (hD _ (by omega) (by omega)) (by omega))).trans h2
    by_cases hneg : find cur < 0
    · have hcl := cuts_last hf cur hneg
      rw [hcl] at hcut
      obtain ⟨fn, tmps, assign, body, hy, hR⟩ := hY pre cur wr hJ1 (by rw [hcut]; simp) (by rw [hcut]; exact List.prefix_refl _)
      gi_wp2_with (refine ⟨trivial, ?_⟩; gi_at_call 129; refine (callsIn_wide.2 (hidx cur wr hcs hK)).mono ?_; rintro e w' ⟨rfl, rfl⟩)
      refine hR.mono ?_
      rintro e W3 (⟨rfl, hJ3, hk3⟩ | ⟨rfl, hJx3⟩)
      · gi_wp2
        go_end0
        exact ⟨⟨_, rfl⟩, .inl (by rw [hcut]; exact hJ3)⟩
      · gi_wp2
        go_end0
        exact ⟨⟨_, rfl⟩, .inr ⟨_, by rw [hcut]; exact List.prefix_refl _, hJx3⟩⟩
    · have hcl := cuts_more hf cur hneg
      rw [hcl] at hcut
      obtain ⟨N, hN⟩ : ∃ N : Nat, find cur = (N : Int) := ⟨(find cur).toNat, by omega⟩
      have hfit := hf.fits cur (by omega)
      rw [hN] at hfit
      rw [hN] at hcut
      simp only [Int.toNat_natCast] at hfit hcut
      obtain ⟨fn, tmps, assign, body, hy, hR⟩ := hY pre (cur.extract 0 N) wr hJ1 (by rw [hcut]; simp) (by rw [hcut]; exact (List.prefix_append_right_inj pre).2 (by simp))
      have x1 : wrap64 (N : Int) = N := Pl.wrap_id (by omega) (by omega)
      have x2 : wrap64 ((N : Int) + (sep.size : Int)) = ((N + sep.size : Nat) : Int) := by rw [← Int.natCast_add]; exact Pl.wrap_id (by omega) (by omega)
      have x3 : ((N : Int) < 0) = False := eq_false (by omega)
      have x4 : ((N : Int) ≤ (cur.size : Int)) = True := eq_true (by omega)
      have x5 : (0 ≤ (N : Int)) = True := eq_true (by omega)
      have x6 : (((N + sep.size : Nat) : Int) ≤ (cur.size : Int)) = True := eq_true (by omega)
      have x7 : (0 ≤ ((N + sep.size : Nat) : Int)) = True := eq_true (by omega)
      have hidx1 := hidx cur wr hcs hK
      rw [hN] at hidx1
      gi_wp2_with (refine ⟨trivial, ?_⟩; gi_at_call 129; refine (callsIn_wide.2 hidx1).mono ?_; clear hidx1; rintro e w' ⟨rfl, rfl⟩)
      refine hR.mono ?_
      rintro e W3 (⟨rfl, hJ3, hk3⟩ | ⟨rfl, hJx3⟩)
      · have g0 := (hk3.cell (p := ⟨bs, 0, none⟩) (hD _ (by simp) (by simp))).trans e0
        have g1 := (hk3.cell (p := ⟨bs + 1, 0, none⟩) (hD _ (by simp) (by simp))).trans e1
        have gz := (hk3.frozen (p := ⟨bs, 0, none⟩) (hD _ (by simp) (by simp))).trans f0
        gi_wp2
        go_roundw
        case rel =>
          refine ⟨pre ++ [cur.extract 0 N], cur.extract (N + sep.size) cur.size, by rw [hcut]; simp, by simp only [ByteArray.size_extract]; omega, hJs _ _ _ hJ3, ?_, by rw [World.frozen?_setCell]; exact gz, ?_⟩
          · exact World.cell?_setCell_same' _ _ _ (by rw [g0]; rfl)
          · intro b hb hne
            rw [Below.heap_setCell _ _ _ _ (by simpa using hne), hk3 b hb]
            exact hK b hb hne
        case measure =>
          rw [leftIn_eq (World.cell?_setCell_same' _ _ _ (by rw [g0]; rfl)), leftIn_eq e0]
          simp only [ByteArray.size_extract]
          omega
      · gi_wp2
        refine bodyPost_ret (results_none rfl _ _ _) rfl ?_
        exact ⟨⟨_, rfl⟩, .inr ⟨_, by rw [hcut]; exact (List.prefix_append_right_inj pre).2 (by simp), hJx3⟩⟩

def roundPost (D : Nat → Prop) (I : List ByteArray → World → Prop) (Ix : Code → List ByteArray → World → Prop) (xs : List ByteArray) (W : World) : Exit → Act → World → Prop
  | .normal, _, W' => KeepsOthers W W' ∧ Kept D W W' ∧ I xs W'
  | .ret, _, W' => KeepsOthers W W' ∧ Ix .ret xs W'
  | .exit id, _, W' => KeepsOthers W W' ∧ Ix (.exit id) xs W'
  | .goto t, _, W' => KeepsOthers W W' ∧ Ix (.goto t) xs W'
  | .panic _, _, _ => False
  | .outgrown, _, _ => False

set_option maxHeartbeats 2000000 in
theorem split_range {n : Nat} (h1 : 1 ≤ n) {g : Operand} {p : Tmp} {assign body : Code} {Q : Exit → Act → World → Prop} {a : Act} {w : World} {bs : Nat} {D : Nat → Prop} {xs : List ByteArray}
    (hg : a.eval g = .func (.func 133) #[] #[.pointer (some ⟨bs + 1, 0, none⟩), .pointer (some ⟨bs, 0, none⟩), .pointer (some ⟨bs + 2, 0, none⟩)])
    (hseq : SplitGives (n - 1) bs D xs w) (hD : ∀ b, D b → b < w.heap.size)
    (I : List ByteArray → World → Prop) (Ix : Code → List ByteArray → World → Prop) (hI : OwnFrom w.heap.size I) (hIx : ∀ c, OwnFrom w.heap.size (Ix c)) (hIs : ∀ s A v, I s A → I s (A.setCell ⟨bs, 0, none⟩ v)) (h0 : I [] w) (a₁ : ByteArray → Act)
    (hassign : ∀ (l : Nat) (x : ByteArray) (W : World) (K : Act → World → Prop), K (a₁ x) W →
      assign.wpIn (Fence.wide.inRound l) (n - 1 - 1) Tryd.prog (Exit.then K (fun _ _ _ => False)) { tmps := ((#[p] : Array Tmp).zip #[Value.string x]).foldl (fun t (p, v) => t.setIfInBounds p v) a.tmps, defers := [] } W)
    (hbody : ∀ (l : Nat) (pre : List ByteArray) (x : ByteArray) (W : World), I pre W → pre ++ [x] <+: xs → body.wpIn (Fence.wide.inRound l) (n - 1 - 1) Tryd.prog (roundPost D I Ix (pre ++ [x]) W) (a₁ x) W)
    (hdone : ∀ (d : Nat) (W : World), w.heap.size ≤ d → I xs W → W.heap[d]? = some (.deferred (some [])) → Q .normal { a with defers := { target := .collected d, args := #[] } :: a.defers } W)
    (hstop : ∀ (d : Nat) (c : Code) (pre : List ByteArray) (W : World), w.heap.size ≤ d → pre <+: xs → Ix c pre W → W.heap[d]? = some (.deferred (some [])) → c.wpIn Fence.wide n Tryd.prog Q { a with defers := { target := .collected d, args := #[] } :: a.defers } W) :
    (Code.rangeFunc g #[p] assign body).wpIn Fence.wide n Tryd.prog Q a w := by
  refine wpIn_rangeFunc ?_
  intro fn hfn
  -- the loop's record, by its state and its pending jump
  let R : LoopState → Option Code → Loop := fun st pe => { state := st, pending := pe, fn, tmps := a.tmps, params := #[p], assign, body, defers := w.heap.size }
  have putKept : ∀ (W : World) (l : Nat) (o : Obj), w.heap.size ≤ l → Kept D W (W.putObj l o) := fun W l o hl b hb => World.putObj_heap_other (by have := hD b hb; omega)
  let d := w.heap.size
  let W1 := (w.alloc (.deferred (some []))).alloc (.loop (R .ready none))
  have hLoop : W1.heap[d + 1]? = some (.loop (R .ready none)) := by
    have := World.alloc_heap_new (w.alloc (.deferred (some []))) (.loop (R .ready none)); rwa [World.size_alloc] at this
  have hDef : W1.heap[d]? = some (.deferred (some [])) := (Below.heap_alloc _ _ _ (by simp [d])).trans (World.alloc_heap_new w _)
  have hW1 : Below w.heap.size w W1 := ((Below.refl _ w).alloc (Nat.le_refl _) _).alloc (by simp) _
  have size1 : W1.heap.size = d + 2 := by simp [W1, d]
  refine ⟨d + 1, [{ target := .collected d, args := #[] }], W1, { target := .fn (.func 133) #[.pointer (some ⟨bs + 1, 0, none⟩), .pointer (some ⟨bs, 0, none⟩), .pointer (some ⟨bs + 2, 0, none⟩)], args := #[.func (.yield (d + 1)) #[] #[]] }, W1, 133,
    #[.func (.yield (d + 1)) #[] #[]] ++ #[.pointer (some ⟨bs + 1, 0, none⟩), .pointer (some ⟨bs, 0, none⟩), .pointer (some ⟨bs + 2, 0, none⟩)], W1, ?_, ?_, fun f' hf' => trivial, ?_, fun _ => h1, ?_⟩
  · exact run_enterLoop_outer _ _ _ _ _
  · simp only [resolve, hg]
    simp [go_sem]
  · simp [invoke, go_sem]
  · -- what the loop keeps between two rounds, and when a round has left it
    have far : ∀ {A B : World} {row : Option Nat}, (∀ r, row = some r → W1.heap.size ≤ r ∧ ∃ o : Obj, A.heap[r]? = some o ∧ o.isWalk = true) → (∀ r, row = some r → w.heap.size ≤ r ∧ ∃ o : Obj, A.heap[r]? = some o ∧ o.isCells = false) := by
      intro A B row hr r e
      obtain ⟨hB, o, ho, hw⟩ := hr r e
      exact ⟨by rw [size1] at hB; simp only [d] at hB; omega, o, ho, Obj.not_cells_of_walk hw⟩
    refine (hseq (d + 1)
      (fun pre W => I pre W ∧ W.heap[d + 1]? = some (.loop (R .ready none)) ∧ W.heap[d]? = some (.deferred (some [])))
      (fun pre W => ∃ c, Ix c pre W ∧ W.heap[d + 1]? = some (.loop (R .done (some c))) ∧ W.heap[d]? = some (.deferred (some [])))
      W1 hW1 ?abides ?abides2 ?stores ?rounds ⟨hI.alloc _ (hI.alloc _ h0), hLoop, hDef⟩).mono ?after
    case abides =>
      intro s A B row hs hg' hr
      exact ⟨hI s A B row hs.1 hg' (far (B := B) hr), (grownBy_keeps hg' (fun r e => (hr r e).2) hs.2.1 rfl).trans hs.2.1, (grownBy_keeps hg' (fun r e => (hr r e).2) hs.2.2 rfl).trans hs.2.2⟩
    case abides2 =>
      rintro s A B row ⟨c, hc, hl, hk⟩ hg' hr
      exact ⟨c, hIx c s A B row hc hg' (far (B := B) hr), (grownBy_keeps hg' (fun r e => (hr r e).2) hl rfl).trans hl, (grownBy_keeps hg' (fun r e => (hr r e).2) hk rfl).trans hk⟩
    case stores =>
      rintro s A v ⟨hi, hl, hk⟩
      exact ⟨hIs s A v hi, (KeepsOthers.setCell A _ v).same _ _ hl rfl, (KeepsOthers.setCell A _ v).same _ _ hk rfl⟩
    case rounds =>
      rintro pre x W ⟨hi, hl, hk⟩ _ hpx
      have hy := run_yield (P := Tryd.prog) (args := #[.string x]) hl rfl
      refine ⟨fn, _, assign, body, hy, roundIn_of_wpIn hfn ?_⟩
      refine hassign _ x W _ ?_
      refine ⟨_, run_beginRound hl rfl, ?_⟩
      have hlt : d + 1 < W.heap.size := (Array.getElem?_eq_some_iff.1 hl).1
      have busy : (W.putObj (d + 1) (.loop (R .busy none))).heap[d + 1]? = some (.loop (R .busy none)) := World.putObj_heap_same hlt
      have busyD : (W.putObj (d + 1) (.loop (R .busy none))).heap[d]? = some (.deferred (some [])) := (World.putObj_heap_other (by omega)).trans hk
      have kept1 : Kept D W (W.putObj (d + 1) (.loop (R .busy none))) := putKept _ _ _ (by simp only [d]; omega)
      refine wpIn_mono (hbody _ pre x _ (hI.putObj _ hi (by simp only [d]; omega) hl rfl) hpx) ?_
      have ended : ∀ (jump : Option Code) (W3 : World), KeepsOthers (W.putObj (d + 1) (.loop (R .busy none))) W3 →
          W3.heap[d + 1]? = some (.loop (R .busy none)) ∧
          (Instr.endRound (d + 1) jump).run Tryd.prog W3 = .ok (.bool jump.isNone) (W3.putObj (d + 1) (.loop (R (if jump.isNone then .ready else .done) jump))) ∧
          (W3.putObj (d + 1) (.loop (R (if jump.isNone then .ready else .done) jump))).heap[d + 1]? = some (.loop (R (if jump.isNone then .ready else .done) jump)) ∧
          (W3.putObj (d + 1) (.loop (R (if jump.isNone then .ready else .done) jump))).heap[d]? = some (.deferred (some [])) := by
        intro jump W3 hk3
        have hl3 := hk3.same _ _ busy rfl
        exact ⟨hl3, run_endRound (P := Tryd.prog) jump hl3, World.putObj_heap_same (Array.getElem?_eq_some_iff.1 hl3).1, (World.putObj_heap_other (by omega)).trans (hk3.same _ _ busyD rfl)⟩
      have left : ∀ (c : Code) (W3 : World), KeepsOthers (W.putObj (d + 1) (.loop (R .busy none))) W3 → Ix c (pre ++ [x]) W3 →
          ∃ v W4, (Instr.endRound (d + 1) (some c)).run Tryd.prog W3 = .ok v W4 ∧ (v = .bool false ∧ ∃ c', Ix c' (pre ++ [x]) W4 ∧ W4.heap[d + 1]? = some (.loop (R .done (some c'))) ∧ W4.heap[d]? = some (.deferred (some []))) := by
        intro c W3 hk3 hi3
        obtain ⟨hl3, hr, hl4, hk4⟩ := ended (some c) W3 hk3
        exact ⟨_, _, hr, rfl, c, (hIx c).putObj _ hi3 (by simp only [d]; omega) hl3 rfl, hl4, hk4⟩
      rintro e a3 W3 hp
      cases e with
      | normal =>
        obtain ⟨hk3, hkp3, hi3⟩ := hp
        obtain ⟨hl3, hr, hl4, hk4⟩ := ended none W3 hk3
        exact ⟨_, _, hr, .inl ⟨rfl, ⟨hI.putObj _ hi3 (by simp only [d]; omega) hl3 rfl, hl4, hk4⟩, (kept1.trans hkp3).trans (putKept _ _ _ (by simp only [d]; omega))⟩⟩
      | ret => 
        obtain ⟨v, W4, hr, rfl, hx⟩ := left .ret W3 hp.1 hp.2
        exact ⟨_, _, hr, .inr ⟨rfl, hx⟩⟩
      | exit id =>
        obtain ⟨v, W4, hr, rfl, hx⟩ := left (.exit id) W3 hp.1 hp.2
        exact ⟨_, _, hr, .inr ⟨rfl, hx⟩⟩
      | goto t =>
        obtain ⟨v, W4, hr, rfl, hx⟩ := left (.goto t) W3 hp.1 hp.2
        exact ⟨_, _, hr, .inr ⟨rfl, hx⟩⟩
      | panic ch => exact hp.elim
      | outgrown => exact hp.elim
    case after =>
      rintro e W2 ⟨⟨v, rfl⟩, (⟨hi, hl, hk⟩ | ⟨pre, hSp, c, hi, hl, hk⟩)⟩
      · exact ⟨none, _, run_endLoop (P := Tryd.prog) hl (by simp [R]), hdone d _ (Nat.le_refl _) (hI.putObj _ hi (by simp only [d]; omega) hl rfl) ((World.putObj_heap_other (by omega)).trans hk)⟩
      · exact ⟨some c, _, run_endLoop (P := Tryd.prog) hl (by simp [R]), hstop d c pre _ (Nat.le_refl _) hSp ((hIx c).putObj _ hi (by simp only [d]; omega) hl rfl) ((World.putObj_heap_other (by omega)).trans hk)⟩
end Go.Proofs.YtoikneogdbdplaaDoor.Fn
set_option linter.unusedVariables false
namespace Go.Proofs.YtoikneogdbdplaaDoor.Fn
open Go.RowKit Go.Shelf

theorem cell_of_new {W : World} {B : Nat} {v : Value} {t : TypeId} (h : W.heap[B]? = some (.cells #[v] t (0, 0))) : W.cell? ⟨B, 0, none⟩ = some v ∧ W.frozen? ⟨B, 0, none⟩ = false := by
  constructor <;> simp [World.cell?, World.frozen?, h]
theorem box_cell (W : World) (v : Value) (t : TypeId) : (W.alloc (.cells #[v] t)).cell? ⟨W.heap.size, 0, none⟩ = some v ∧ (W.alloc (.cells #[v] t)).frozen? ⟨W.heap.size, 0, none⟩ = false := by
  have h := World.alloc_heap_new W (.cells #[v] t)
  exact cell_of_new h
theorem cell_on {W : World} {a : Addr} {v : Value} (o : Obj) (h : W.cell? a = some v) : (W.alloc o).cell? a = some v := cell_kept h (World.grownBy_alloc W o none) (fun r e => by cases e)
theorem frozen_on {W : World} {a : Addr} {v : Value} (o : Obj) (h : W.cell? a = some v) (hf : W.frozen? a = false) : (W.alloc o).frozen? a = false := (frozen_kept h (World.grownBy_alloc W o none) (fun r e => by cases e)).trans hf

structure SplitBoxes (bs : Nat) (s sep : ByteArray) (w : World) : Prop where
  text : w.cell? ⟨bs, 0, none⟩ = some (.string s)
  free : w.frozen? ⟨bs, 0, none⟩ = false
  sep : w.cell? ⟨bs + 1, 0, none⟩ = some (.string sep)
  zero : w.cell? ⟨bs + 2, 0, none⟩ = some (.int .i64 0)

set_option maxHeartbeats 2000000 in
set_option maxRecDepth 100000 in
theorem splitSeq_calls (s sep : ByteArray) (w : World) :
    Calls Tryd.prog 108 #[.string s, .string sep, .int .i64 0] w fun e w' =>
      e = .returned (.func (.func 133) #[] #[.pointer (some ⟨w.heap.size + 1, 0, none⟩), .pointer (some ⟨w.heap.size, 0, none⟩), .pointer (some ⟨w.heap.size + 2, 0, none⟩)]) ∧
      SplitBoxes w.heap.size s sep w' ∧ w'.heap.size = w.heap.size + 3 ∧ Below w.heap.size w w' := by
  go_enter Tryd.func108, Tryd.ntmps108
  go_wp2
  go_ret
  have b0 := box_cell w (.string s) 9
  have b1 := box_cell (w.alloc (.cells #[.string s] 9)) (.string sep) 9
  have b2 := box_cell ((w.alloc (.cells #[.string s] 9)).alloc (.cells #[.string sep] 9)) (.int .i64 0) 3
  simp only [World.size_alloc] at b1 b2
  refine ⟨by simp, ⟨cell_on _ (cell_on _ b0.1), frozen_on _ (cell_on _ b0.1) (frozen_on _ b0.1 b0.2), cell_on _ b1.1, b2.1⟩, by simp, (((Below.refl _ w).alloc (Nat.le_refl _) _).alloc (by simp) _).alloc (by simp; omega) _⟩

set_option maxHeartbeats 2000000 in
set_option maxRecDepth 100000 in
theorem SplitSeq_calls (s sep : ByteArray) (w : World) :
    Calls Tryd.prog 73 #[.string s, .string sep] w fun e w' =>
      e = .returned (.func (.func 133) #[] #[.pointer (some ⟨w.heap.size + 1, 0, none⟩), .pointer (some ⟨w.heap.size, 0, none⟩), .pointer (some ⟨w.heap.size + 2, 0, none⟩)]) ∧
      SplitBoxes w.heap.size s sep w' ∧ w'.heap.size = w.heap.size + 3 ∧ Below w.heap.size w w' := by
  go_enter Tryd.func73, Tryd.ntmps73
  go_wp2_with (go_at_call 108; refine (splitSeq_calls s sep _).mono ?_; rintro e w' ⟨rfl, hb, hz, hB⟩)
  go_ret
  exact ⟨rfl, hb, hz, hB⟩

def findOne (c : UInt8) (t : ByteArray) : Int := Lib.indexByte t.data.toList c
theorem cutsN_size (find : ByteArray → Int) (L : Nat) : ∀ (k : Nat) (s x : ByteArray), x ∈ cutsN find L k s → x.size ≤ s.size
  | 0, s, x, h => by simp [cutsN] at h; rw [h]; exact Nat.le_refl _
  | k + 1, s, x, h => by
    rw [cutsN] at h
    by_cases h0 : find s < 0
    · rw [if_pos h0] at h; simp at h; rw [h]; exact Nat.le_refl _
    · rw [if_neg h0] at h
      rcases List.mem_cons.1 h with e | e
      · rw [e]; simp only [ByteArray.size_extract]; omega
      · have := cutsN_size find L k _ x e
        simp only [ByteArray.size_extract] at this
        omega
theorem cuts_size {find : ByteArray → Int} {L : Nat} {s x : ByteArray} (h : x ∈ cuts find L s) : x.size ≤ s.size := cutsN_size find L _ s x h
theorem mem_of_prefix {pre xs : List ByteArray} {x : ByteArray} (h : pre ++ [x] <+: xs) : x ∈ xs := h.subset (by simp)
end Go.Proofs.YtoikneogdbdplaaDoor.Fn
set_option linter.unusedVariables false
namespace Go.Proofs.YtoikneogdbdplaaDoor.Fn
open Go.RowKit Go.Shelf Go.Proofs.YtoikneogdbdplaaDoorW.PrintWords

/-! Rows of a call's own inside a range over a function. -/
theorem R_walk {α : Type} {d : Kd α} {e base : Nat} {ok : Nat → Prop} {A B : World} {row : Option Nat} {v : Value} {xs : List α} (h : d.R e A base ok v xs) (hg : A.grownBy B row) (hr : ∀ r, row = some r → ∃ o : Obj, A.heap[r]? = some o ∧ o.isCells = false) : d.R e B base ok v xs :=
  Kd.R_mono (Kd.R_move (Kd.R_bound h) (fun k hk => by
    obtain ⟨_, _, hlt, q, _, cells, hc⟩ := hk
    refine hg.block k hlt (fun e => ?_)
    obtain ⟨o, ho, hn⟩ := hr k e.symm
    rw [hc] at ho
    cases ho
    simp [Obj.isCells] at hn)) (fun k hk => hk.1)
theorem R_append_in {α : Type} (d : Kd α) {F : Fence} {n : Nat} {P : Program} {ops : Array Oper} {rest : List Oper} {o : Oper} {a : Act} {Q : Exit → Act → World → Prop} {w0 W : World} (base : Nat) (hgd : o.guard = none) (s x : Operand) (t e : TypeId) (z : Value) (bytes : Nat)
    (ho : o.op = .call { callee := .builtin .append, args := #[s, x], argTypes := #[t, t] })
    (ht : P.underlying t = some (.slice e)) (hinfo : (P.info? e).map (fun i => (i.zero, i.size, i.bytes)) = some (some z, d.sz, bytes)) (hz : z.cells.size = d.sz) (hs0 : 0 < d.sz) (hb0 : 0 < bytes)
    (v : Value) (xs : List α) (p : α) (cs : List Value) (ok okp : Nat → Prop) (hs : a.eval s = v) (hx : a.eval x = .slice (some ⟨W.heap.size, 0, none⟩) 1 1) (hp : d.M W base okp p cs) (hokp : ∀ k, okp k → ok k ∧ some k ≠ v.ownBlock) (hfresh : ∀ k, W.heap.size ≤ k → ok k)
    (HO : d.R e W base ok v xs) (HB : Below base w0 W) (hbase : base ≤ W.heap.size) (hl : (xs.length + 1) * bytes ≤ 140737488355328)
    (h : ∀ v1 w1, d.R e w1 base ok v1 (xs ++ [p]) → Below base w0 w1 → W.grownBy w1 v.ownBlock → (v1.ownBlock = v.ownBlock ∨ ∃ b, v1.ownBlock = some b ∧ W.heap.size ≤ b) → wpListIn F n P ops Q rest (a.put o.dst v1) w1) :
    wpListIn F n P ops Q (o :: rest) a (W.alloc (.cells cs.toArray e)) := by
  obtain ⟨h0, inner, hown, hr⟩ := HO
  obtain ⟨i0, hi, hzz⟩ := Option.map_eq_some_iff.1 hinfo
  simp only [Prod.mk.injEq] at hzz
  obtain ⟨hz0, hz1, hz2⟩ := hzz
  have hlen : xs.length + 1 ≤ 140737488355328 := Nat.le_trans (Nat.le_mul_of_pos_right _ hb0) hl
  have hys : cs.length = d.sz := d.K_len (d.K_of_M hp)
  refine wpListIn_plain hgd fun K hK => ?_
  obtain ⟨v1, w1, hrun, g1, g2, g3, g4⟩ := run_append_own_at (P := P) (w := W.alloc (.cells cs.toArray e)) base t o.type e i0 z d.sz bytes ht hi hz0 hz1 hz2 hz hs0 v xs.length inner (hown.alloc _) ⟨W.heap.size, 0, none⟩ 1 1 cs (by rw [hys]; simp)
    (by simpa using World.news_of_block (cs := cs.toArray) (t := e) (fr := (0, 0)) (heap_alloc_new W (.cells cs.toArray e))) (d.K_one (d.K_of_M hp)) (by simp only [maxLen]; omega) hl (by simp; omega)
  have g5 : v1.ownBlock = v.ownBlock ∨ ∃ b, v1.ownBlock = some b ∧ W.heap.size ≤ b := by
    rcases g4 with g4 | g4
    · exact .inl g4
    · exact .inr ⟨_, g4, by simp⟩
  have g6 : W.grownBy w1 v.ownBlock := World.grownBy.trans (World.grownBy_alloc W _ _) g2
  unfold Oper.wpIn
  refine ⟨?_, ?_⟩
  · simp [Oper.about, ho, resolve, Target.leads, Sem.run_pure]
  · rw [Oper.semAt_plain F _ _ (by rw [ho]; intro c hc'; cases hc')]
    simp [execOp, ho, resolve, invoke, builtin, hs, hx, hrun, Result.andThen]
    exact hK _ _ (h v1 w1 (Kd.R_appended h0 hr hp hokp hfresh g1 g6 g5) ((HB.alloc hbase _).grown g2 (by simp; omega) (own_base hown)) g6 g5)
theorem R_append_op {α : Type} (d : Kd α) {F : Fence} {n : Nat} {P : Program} {o : Oper} {a : Act} {K : Act → World → Prop} {Q : Exit → Act → World → Prop} {w0 W : World} (base : Nat) (s x : Operand) (t e : TypeId) (z : Value) (bytes : Nat)
    (ho : o.op = .call { callee := .builtin .append, args := #[s, x], argTypes := #[t, t] })
    (ht : P.underlying t = some (.slice e)) (hinfo : (P.info? e).map (fun i => (i.zero, i.size, i.bytes)) = some (some z, d.sz, bytes)) (hz : z.cells.size = d.sz) (hs0 : 0 < d.sz) (hb0 : 0 < bytes)
    (v : Value) (xs : List α) (p : α) (cs : List Value) (ok okp : Nat → Prop) (hs : a.eval s = v) (hx : a.eval x = .slice (some ⟨W.heap.size, 0, none⟩) 1 1) (hp : d.M W base okp p cs) (hokp : ∀ k, okp k → ok k ∧ some k ≠ v.ownBlock) (hfresh : ∀ k, W.heap.size ≤ k → ok k)
    (HO : d.R e W base ok v xs) (HB : Below base w0 W) (hbase : base ≤ W.heap.size) (hl : (xs.length + 1) * bytes ≤ 140737488355328)
    (h : ∀ v1 w1, d.R e w1 base ok v1 (xs ++ [p]) → Below base w0 w1 → W.grownBy w1 v.ownBlock → (v1.ownBlock = v.ownBlock ∨ ∃ b, v1.ownBlock = some b ∧ W.heap.size ≤ b) → K (a.put o.dst v1) w1) :
    Oper.wpIn F n P o a (W.alloc (.cells cs.toArray e)) K Q := by
  obtain ⟨h0, inner, hown, hr⟩ := HO
  obtain ⟨i0, hi, hzz⟩ := Option.map_eq_some_iff.1 hinfo
  simp only [Prod.mk.injEq] at hzz
  obtain ⟨hz0, hz1, hz2⟩ := hzz
  have hlen : xs.length + 1 ≤ 140737488355328 := Nat.le_trans (Nat.le_mul_of_pos_right _ hb0) hl
  have hys : cs.length = d.sz := d.K_len (d.K_of_M hp)
  obtain ⟨v1, w1, hrun, g1, g2, g3, g4⟩ := run_append_own_at (P := P) (w := W.alloc (.cells cs.toArray e)) base t o.type e i0 z d.sz bytes ht hi hz0 hz1 hz2 hz hs0 v xs.length inner (hown.alloc _) ⟨W.heap.size, 0, none⟩ 1 1 cs (by rw [hys]; simp)
    (by simpa using World.news_of_block (cs := cs.toArray) (t := e) (fr := (0, 0)) (heap_alloc_new W (.cells cs.toArray e))) (d.K_one (d.K_of_M hp)) (by simp only [maxLen]; omega) hl (by simp; omega)
  have g5 : v1.ownBlock = v.ownBlock ∨ ∃ b, v1.ownBlock = some b ∧ W.heap.size ≤ b := by
    rcases g4 with g4 | g4
    · exact .inl g4
    · exact .inr ⟨_, g4, by simp⟩
  have g6 : W.grownBy w1 v.ownBlock := World.grownBy.trans (World.grownBy_alloc W _ _) g2
  unfold Oper.wpIn
  refine ⟨?_, ?_⟩
  · simp [Oper.about, ho, resolve, Target.leads, Sem.run_pure]
  · rw [Oper.semAt_plain F _ _ (by rw [ho]; intro c hc'; cases hc')]
    simp [execOp, ho, resolve, invoke, builtin, hs, hx, hrun, Result.andThen]
    exact h v1 w1 (Kd.R_appended h0 hr hp hokp hfresh g1 g6 g5) ((HB.alloc hbase _).grown g2 (by simp; omega) (own_base hown)) g6 g5
end Go.Proofs.YtoikneogdbdplaaDoor.Fn
set_option linter.unusedVariables false
namespace Go.Proofs.YtoikneogdbdplaaDoor.Fn
open Go.RowKit Go.Shelf Go.Proofs.YtoikneogdbdplaaDoorW.PrintWords

/-! Two rows of texts of the call's own, neither one the other; what a step does to blocks. -/
theorem keepsOthers_grown {W W' : World} {row : Option Nat} (h : W.grownBy W' row) (hr : ∀ k, row = some k → ∃ o : Obj, W.heap[k]? = some o ∧ o.isCells = true) : KeepsOthers W W' :=
  ⟨h.size, fun k o hk hn => (h.block k (Array.getElem?_eq_some_iff.1 hk).1 (fun e => by obtain ⟨o', ho, hc⟩ := hr k e.symm; rw [hk] at ho; cases ho; rw [hc] at hn; cases hn)).trans hk⟩
theorem R_cells {α : Type} {d : Kd α} {e base : Nat} {ok : Nat → Prop} {A : World} {v : Value} {xs : List α} (h : d.R e A base ok v xs) : ∀ k, v.ownBlock = some k → ∃ o : Obj, A.heap[k]? = some o ∧ o.isCells = true := fun k hk => by
  obtain ⟨inner, ho⟩ := Kd.R_own h
  obtain ⟨cells, hc⟩ := own_typed ho k hk
  exact ⟨_, hc, rfl⟩
theorem R_base {α : Type} {d : Kd α} {e base : Nat} {ok : Nat → Prop} {A : World} {v : Value} {xs : List α} (h : d.R e A base ok v xs) : ∀ k, v.ownBlock = some k → base ≤ k := fun k hk => by
  obtain ⟨inner, ho⟩ := Kd.R_own h
  exact own_base ho k hk
theorem R_lt {α : Type} {d : Kd α} {e base : Nat} {ok : Nat → Prop} {A : World} {v : Value} {xs : List α} (h : d.R e A base ok v xs) : ∀ k, v.ownBlock = some k → k < A.heap.size := fun k hk => by
  obtain ⟨inner, ho⟩ := Kd.R_own h
  exact own_lt ho k hk
theorem two_set {W : World} {b : Nat} {x x0 y y0 : Value} (h0 : W.cell? ⟨b, 0, none⟩ = some x0) (h1 : W.cell? ⟨b + 1, 0, none⟩ = some y0) :
    ((W.setCell ⟨b, 0, none⟩ x).setCell ⟨b + 1, 0, none⟩ y).cell? ⟨b, 0, none⟩ = some x ∧ ((W.setCell ⟨b, 0, none⟩ x).setCell ⟨b + 1, 0, none⟩ y).cell? ⟨b + 1, 0, none⟩ = some y := by
  have e0 : (W.setCell ⟨b, 0, none⟩ x).cell? ⟨b, 0, none⟩ = some x := World.cell?_setCell_same' _ _ _ (by rw [h0]; rfl)
  have e1 : (W.setCell ⟨b, 0, none⟩ x).cell? ⟨b + 1, 0, none⟩ = some y0 := (World.cell?_setCell_other _ _ _ _ (by simp)).trans h1
  exact ⟨(World.cell?_setCell_other _ _ _ _ (by simp)).trans e0, World.cell?_setCell_same' _ _ _ (by rw [e1]; rfl)⟩
theorem below_two {n : Nat} {w W : World} {b : Nat} {x y : Value} (h : Below n w W) (hb : n ≤ b) : Below n w ((W.setCell ⟨b, 0, none⟩ x).setCell ⟨b + 1, 0, none⟩ y) :=
  (h.setCell (p := ⟨b, 0, none⟩) hb _).setCell (p := ⟨b + 1, 0, none⟩) (by show n ≤ b + 1; omega) _
theorem prefix_len {α : Type} {pre xs : List α} {x : α} (h : pre ++ [x] <+: xs) : pre.length + 1 ≤ xs.length := by
  have := h.length_le
  simpa using this
theorem cutsN_len (find : ByteArray → Int) (L : Nat) : ∀ (k : Nat) (s : ByteArray), (cutsN find L k s).length ≤ k + 1
  | 0, s => by simp [cutsN]
  | k + 1, s => by
    rw [cutsN]
    split
    · simp
    · have := cutsN_len find L k (s.extract ((find s).toNat + L) s.size)
      simp only [List.length_cons]
      omega
structure Two (h B : Nat) (W : World) (vo vl : Value) (out lines : List ByteArray) : Prop where
  o : Kd.R Kd.string 9 W h (fun k => B < k ∧ some k ≠ vl.ownBlock) vo out
  l : Kd.R Kd.string 9 W h (fun k => B < k ∧ some k ≠ vo.ownBlock) vl lines
theorem Two.nil (h B : Nat) (W : World) : Two h B W (.slice none 0 0) (.slice none 0 0) [] [] := ⟨Kd.R_nil _ _ _ _ _, Kd.R_nil _ _ _ _ _⟩
theorem Two.swap {h B : Nat} {W : World} {vo vl : Value} {out lines : List ByteArray} (t : Two h B W vo vl out lines) : Two h B W vl vo lines out := ⟨t.l, t.o⟩
theorem Two.below {h B : Nat} {W W' : World} {vo vl : Value} {out lines : List ByteArray} (t : Two h B W vo vl out lines) (hb : Below W.heap.size W W') : Two h B W' vo vl out lines := ⟨Kd.R_below t.o hb, Kd.R_below t.l hb⟩
theorem Two.walk {h B : Nat} {A C : World} {row : Option Nat} {vo vl : Value} {out lines : List ByteArray} (t : Two h B A vo vl out lines) (hg : A.grownBy C row) (hr : ∀ r, row = some r → ∃ o : Obj, A.heap[r]? = some o ∧ o.isCells = false) : Two h B C vo vl out lines := ⟨R_walk t.o hg hr, R_walk t.l hg hr⟩
theorem Two.set {h B : Nat} {W : World} {vo vl : Value} {out lines : List ByteArray} (t : Two h B W vo vl out lines) {p : Addr} (hp : p.block ≤ B) (u : Value) : Two h B (W.setCell p u) vo vl out lines :=
  ⟨Kd.R_far t.o (fun k hk => by have := hk.1; omega) u, Kd.R_far t.l (fun k hk => by have := hk.1; omega) u⟩
theorem Two.reset {h B : Nat} {W : World} {vo vl : Value} {out lines : List ByteArray} (t : Two h B W vo vl out lines) : Two h B W vo (.slice none 0 0) out [] :=
  ⟨Kd.R_mono t.o (fun k hk => ⟨hk.1, by simp [Value.ownBlock]⟩), Kd.R_nil _ _ _ _ _⟩
theorem Two.pushL {h B : Nat} {W W1 : World} {vo vl v1 : Value} {out lines : List ByteArray} {l1 : List ByteArray} (t : Two h B W vo vl out lines) (hR : Kd.R Kd.string 9 W1 h (fun k => B < k ∧ some k ≠ vo.ownBlock) v1 l1) (hg : W.grownBy W1 vl.ownBlock) (hat : v1.ownBlock = vl.ownBlock ∨ ∃ b, v1.ownBlock = some b ∧ W.heap.size ≤ b) : Two h B W1 vo v1 out l1 := by
  refine ⟨?_, hR⟩
  have h1 := Kd.R_move (w1 := W1) (Kd.R_bound t.o) (fun k hk => hg.block k hk.2.2.1 hk.1.2)
  refine Kd.R_mono h1 (fun k hk => ⟨hk.1.1, ?_⟩)
  rcases hat with e | ⟨b, e, hb⟩
  · rw [e]; exact hk.1.2
  · rw [e]
    intro q
    injection q with q
    have := hk.2.2.1
    omega
end Go.Proofs.YtoikneogdbdplaaDoor.Fn
set_option linter.unusedVariables false
set_option linter.unusedSimpArgs false
namespace Go.Proofs.YtoikneogdbdplaaDoor.Pl
def findCrlf (t : ByteArray) : Int := Lib.index t.data.toList [13, 10]
def linesL (s : ByteArray) : List ByteArray := Fn.cuts findCrlf 2 s
end Go.Proofs.YtoikneogdbdplaaDoor.Pl
namespace Go.Proofs.YtoikneogdbdplaaDoor.Fn
open Go.RowKit Go.Shelf Go.Proofs.YtoikneogdbdplaaDoorW.PrintWords

theorem finds_crlf : Finds Pl.findCrlf 2 := ⟨by omega, fun s h => by
  have h1 := Lib.index_room s.data.toList [13, 10] h
  have h2 : s.data.toList.length = s.size := Pl.data_length s
  have h3 : ([13, 10] : List UInt8).length = 2 := rfl
  have h4 : (Pl.findCrlf s) = Lib.index s.data.toList [13, 10] := rfl
  omega⟩
theorem split_gives_crlf (n : Nat) (hn : 1 ≤ n) (bs : Nat) (s : ByteArray) (hs : s.size < 4294967281) (w : World) (hG : Glob w) (hb : 0 < bs) (hw : bs + 3 ≤ w.heap.size) (h : SplitBoxes bs s ⟨#[13, 10]⟩ w) :
    SplitGives n bs (fun b => b = 0 ∨ (bs ≤ b ∧ b ≤ bs + 2)) (Pl.linesL s) w := by
  obtain ⟨m, hm⟩ := hG.max
  refine split_gives n hn bs _ (fun b h1 h2 => .inr ⟨h1, h2⟩) s ⟨#[13, 10]⟩ Pl.findCrlf finds_crlf (show 2 < 4611686018427387904 by decide) (by omega) w (fun b hb => by rcases hb with rfl | hb <;> omega) (fun t W ht hk => ?_) h.text h.free h.sep h.zero
  have hb2 := hk 0 (.inl rfl) (by omega)
  have hm2 : W.cell? ⟨0, 0, none⟩ = some (.int .i64 m) := (World.cell?_of_block hb2).trans hm
  exact Tryd.strings_Index t ⟨#[13, 10]⟩ m W (by omega) hm2

def onlyN (J : Act → World → Prop) : Exit → Act → World → Prop
  | .normal, a, w => J a w
  | _, _, _ => False
end Go.Proofs.YtoikneogdbdplaaDoor.Fn
namespace Go.Proofs.YtoikneogdbdplaaDoor.Fn
open Go.RowKit Go.Proofs.YtoikneogdbdplaaDoorW.PrintWords Go.Proofs.YtoikneogdbdplaaDoorW.PrintLast Go.Proofs.YtoikneogdbdplaaDoorW.PrintMore
attribute [local go_sem] max2_int min2_int max_two min_two max_three min_three max_four min_four
set_option linter.unusedVariables false
set_option linter.unusedSimpArgs false

/-! ### mime_right: function 76 -/
def mime_right.l0 : Nat → ByteArray → Int → Int → Option (Bool)
 | 0, _, _, _ => none
 | k + 1, x0, x5, x6 => if x6 < x5 then (if 0 ≤ x6 then (if x6 < (x0.size : Int) then (if (bt x0 x6) ≤ 32 then (some false) else (if (bt x0 x6) > 126 then (some false) else (mime_right.l0 k x0 x5 (wrap64 (x6 + 1))))) else (none)) else (none)) else (if x0.toList = ([] : List UInt8) then (some false) else (some (decide ((x0.size : Int) ≤ 70))))
def mime_right.f (k : Nat) (a0 : ByteArray) : Option (Bool) := mime_right.l0 k a0 (a0.size : Int) 0
set_option maxHeartbeats 8000000 in
set_option maxRecDepth 100000 in
theorem mime_right.calls (k : Nat) (a0 : ByteArray) (r : Bool) (w : World) (h : mime_right.f k a0 = some r) :
  Calls Tryd.prog 76 #[.string a0] w fun e w' => e = .returned (.bool r) ∧ Drawn0 w w' := by
 have H : (mime_right.l0 k a0 (a0.size : Int) 0) = some r := h
 clear h
 have H' := Aside0.mk H
 clear H
 go_enter Tryd.func76, Tryd.ntmps76
 go_wp2
 go_loopg [6] k (fun kq v6 w' => ∃ (x6_1 : Int), v6 = .int .i64 x6_1 ∧ Aside0 (mime_right.l0 kq a0 (a0.size : Int) x6_1 = some r) ∧ Aside0 (kq ≤ k) ∧ Drawn0 w w')
 case atStart => exact ⟨(0), cl, H', ⟨Nat.le_refl _⟩, by repeat (first | exact Drawn0.refl _ | apply Drawn0.step)⟩
 case round =>
  clear H'
  obtain ⟨x6_1, rfl, HA, HK1, ⟨m1, rfl⟩⟩ := hrel
  cases gk with
  | zero => exact absurd HA.out (by simp [mime_right.l0])
  | succ k1 =>
   have H := HA.out
   clear HA
   simp only [mime_right.l0] at H
   by_cases c2 : x6_1 < (a0.size : Int)
   ·rw [if_pos c2] at H
    have c2b0 : decide (x6_1 < (a0.size : Int)) = true := decide_eq_true c2
    clear c2
    by_cases c3 : 0 ≤ x6_1
    ·rw [if_pos c3] at H
     have c3b0 : decide (0 ≤ x6_1) = true := decide_eq_true c3
     clear c3
     by_cases c4 : x6_1 < (a0.size : Int)
     ·rw [if_pos c4] at H
      have c4b0 : decide (x6_1 < (a0.size : Int)) = true := decide_eq_true c4
      clear c4
      by_cases c6 : (bt a0 x6_1) ≤ 32
      ·rw [if_pos c6] at H
       have c6b0 : decide ((bt a0 x6_1) ≤ 32) = true := decide_eq_true c6
       clear c6
       obtain rfl := Option.some.inj H
       have p5 : 0 ≤ (x6_1 : Int) := od
       have q5 : x6_1 < (a0.size : Int) := od
       have hx5 := bt_at a0 x6_1
       replace p5 := eq_true p5
       replace q5 := eq_true q5
       go_wp2
       go_ret
       exact ⟨by first | rfl | (simp; done) | (simp [*]; done) | (simp [nil_ne]; done), by repeat (first | exact Drawn0.refl _ | apply Drawn0.step)⟩
      ·rw [if_neg c6] at H
       have c6b0 : decide ((bt a0 x6_1) ≤ 32) = false := decide_eq_false c6
       clear c6
       by_cases c8 : (bt a0 x6_1) > 126
       ·rw [if_pos c8] at H
        have c8b0 : decide (126 < (bt a0 x6_1)) = true := decide_eq_true c8
        clear c8
        obtain rfl := Option.some.inj H
        have p5 : 0 ≤ (x6_1 : Int) := od
        have q5 : x6_1 < (a0.size : Int) := od
        have hx5 := bt_at a0 x6_1
        replace p5 := eq_true p5
        replace q5 := eq_true q5
        have p7 : 0 ≤ (x6_1 : Int) := od
        have q7 : x6_1 < (a0.size : Int) := od
        have hx7 := bt_at a0 x6_1
        replace p7 := eq_true p7
        replace q7 := eq_true q7
        go_wp2
        go_ret
        exact ⟨by first | rfl | (simp; done) | (simp [*]; done) | (simp [nil_ne]; done), by repeat (first | exact Drawn0.refl _ | apply Drawn0.step)⟩
       ·rw [if_neg c8] at H
        have c8b0 : decide (126 < (bt a0 x6_1)) = false := decide_eq_false c8
        clear c8
        have H' := Aside0.mk H
        clear H
        have p5 : 0 ≤ (x6_1 : Int) := od
        have q5 : x6_1 < (a0.size : Int) := od
        have hx5 := bt_at a0 x6_1
        replace p5 := eq_true p5
        replace q5 := eq_true q5
        have p7 : 0 ≤ (x6_1 : Int) := od
        have q7 : x6_1 < (a0.size : Int) := od
        have hx7 := bt_at a0 x6_1
        replace p7 := eq_true p7
        replace q7 := eq_true q7
        go_wp2
        go_roundg k1
        case measure => have := HK1.out; omega
        case rel => exact ⟨(wrap64 (x6_1 + 1)), cl, H', ⟨by have := HK1.out; omega⟩, by repeat (first | exact Drawn0.refl _ | apply Drawn0.step)⟩
     ·rw [if_neg c4] at H
      exact absurd H (by simp)
    ·rw [if_neg c3] at H
     exact absurd H (by simp)
   ·rw [if_neg c2] at H
    have c2b0 : decide (x6_1 < (a0.size : Int)) = false := decide_eq_false c2
    clear c2
    by_cases c9 : a0.toList = ([] : List UInt8)
    ·rw [if_pos c9] at H
     have c9b0 : (a0.toList == ([] : List UInt8)) = true := beq_iff_eq.mpr c9
     have c9b1 : (a0.toList != ([] : List UInt8)) = false := bne_eq_false_iff_eq.mpr c9
     clear c9
     obtain rfl := Option.some.inj H
     go_wp2
     go_ret
     exact ⟨by first | rfl | (simp; done) | (simp [*]; done) | (simp [nil_ne]; done), by repeat (first | exact Drawn0.refl _ | apply Drawn0.step)⟩
    ·rw [if_neg c9] at H
     have c9b0 : (a0.toList == ([] : List UInt8)) = false := beq_eq_false_iff_ne.mpr c9
     have c9b1 : (a0.toList != ([] : List UInt8)) = true := bne_iff_ne.mpr c9
     obtain rfl := Option.some.inj H
     go_wp2
     go_ret
     exact ⟨by first | rfl | (simp; done) | (simp [*]; done) | (simp [nil_ne]; done), by repeat (first | exact Drawn0.refl _ | apply Drawn0.step)⟩

end Go.Proofs.YtoikneogdbdplaaDoor.Fn
set_option linter.unusedVariables false
namespace Go.Proofs.YtoikneogdbdplaaDoor.Fn
open Go.RowKit Go.Proofs.YtoikneogdbdplaaDoorW.PrintWords

def strings_TrimRight.f (a0 a1 : ByteArray) : Option ByteArray :=
  if a0.size ≤ 140737488355328 then (if a1.size ≤ 1000 then (if a1.data.toList.all (fun b => decide (b.toNat < 128)) = true then some (Pl.str (Lib.trimRightS a0.data.toList a1.data.toList)) else none) else none) else none
theorem strings_TrimRight.calls (a0 a1 r : ByteArray) (w : World) (h : strings_TrimRight.f a0 a1 = some r) :
    Calls Tryd.prog 109 #[.string a0, .string a1] w fun e w' => e = .returned (.string r) ∧ Below w.heap.size w w' := by
  unfold strings_TrimRight.f at h
  by_cases hs : a0.size ≤ 140737488355328
  · rw [if_pos hs] at h
    by_cases hc : a1.size ≤ 1000
    · rw [if_pos hc] at h
      by_cases ha : a1.data.toList.all (fun b => decide (b.toNat < 128)) = true
      · rw [if_pos ha] at h
        have HR := Option.some.inj h
        subst HR
        exact Any.strings_TrimRight_laid Tryd.lays162 (by kernel_rfl) a0 a1 w (by omega) (by omega) (ascii_of_all ha)
      · rw [if_neg ha] at h; exact absurd h (by simp)
    · rw [if_neg hc] at h; exact absurd h (by simp)
  · rw [if_neg hs] at h; exact absurd h (by simp)
end Go.Proofs.YtoikneogdbdplaaDoor.Fn
namespace Go.Proofs.YtoikneogdbdplaaDoor.Fn
open Go.RowKit Go.Proofs.YtoikneogdbdplaaDoorW.PrintWords Go.Proofs.YtoikneogdbdplaaDoorW.PrintLast Go.Proofs.YtoikneogdbdplaaDoorW.PrintMore
attribute [local go_sem] max2_int min2_int max_two min_two max_three min_three max_four min_four
set_option linter.unusedVariables false
set_option linter.unusedSimpArgs false

/-! ### mime_parts: function 74 -/
def mime_parts.f (a0 : ByteArray) (a1 : ByteArray) : Option (Bool) := (strings_TrimRight.f a0 (⟨#[32, 9]⟩ : ByteArray)).bind fun t396 => (if 2 + a1.size ≤ 9223372036854775807 then (some (t396.toList == ((⟨#[45, 45]⟩ : ByteArray) ++ a1).toList)) else (none))
set_option maxHeartbeats 8000000 in
set_option maxRecDepth 100000 in
theorem mime_parts.calls (a0 : ByteArray) (a1 : ByteArray) (r : Bool) (w : World) (h : mime_parts.f a0 a1 = some r) :
  Calls Tryd.prog 74 #[.string a0, .string a1] w fun e w' => e = .returned (.bool r) ∧ Below w.heap.size w w' := by
 have HB := Aside0.mk (Below.refl w.heap.size w)
 have H : ((strings_TrimRight.f a0 (⟨#[32, 9]⟩ : ByteArray)).bind fun t396 => (if 2 + a1.size ≤ 9223372036854775807 then (some (t396.toList == ((⟨#[45, 45]⟩ : ByteArray) ++ a1).toList)) else (none))) = some r := h
 clear h
 replace H := Option.bind_eq_some_iff.mp H
 obtain ⟨t396, A30, H⟩ := H
 replace H : (if 2 + a1.size ≤ 9223372036854775807 then (some (t396.toList == ((⟨#[45, 45]⟩ : ByteArray) ++ a1).toList)) else (none)) = some r := H
 have A3 := Aside0.mk A30
 clear A30
 by_cases c4 : 2 + a1.size ≤ 9223372036854775807
 ·rw [if_pos c4] at H
  have c4b0 := eq_true c4
  have c4b1 : decide (2 + a1.size ≤ 9223372036854775807) = true := decide_eq_true c4
  try have c4b2 : (9223372036854775807 < 2 + a1.size) = False := eq_false (Nat.not_lt.2 c4)
  obtain rfl := Option.some.inj H
  go_enter Tryd.func74, Tryd.ntmps74
  go_wp2_with (first | ((with_reducible refine gate_callee (f := 109) rfl ?_); refine goesL_ (some 6) rfl rfl Tryd.func109 (by kernel_rfl) rfl #[.string a0, .string (⟨#[32, 9]⟩ : ByteArray)] rfl am ?_; (with_reducible refine (strings_TrimRight.calls a0 (⟨#[32, 9]⟩ : ByteArray) t396 _ A3.out).mono ?_); rintro e w5 ⟨rfl, hb⟩; refine ⟨_, rfl, ?_⟩; have n0_ := Aside0.mk (below_step bw hb); clear HB; have HB := n0_; clear n0_; (try clear hb); (try clear hb2); (try clear hk); (try clear hi)))
  go_ret
  exact ⟨by first | rfl | (simp [errW_none, errW_some] <;> rfl) | (simp [*, errW_none, errW_some] <;> rfl), bw⟩
 ·rw [if_neg c4] at H
  exact absurd H (by simp)

end Go.Proofs.YtoikneogdbdplaaDoor.Fn
namespace Go.Proofs.YtoikneogdbdplaaDoor.Fn
open Go.RowKit Go.Proofs.YtoikneogdbdplaaDoorW.PrintWords Go.Proofs.YtoikneogdbdplaaDoorW.PrintLast Go.Proofs.YtoikneogdbdplaaDoorW.PrintMore
attribute [local go_sem] max2_int min2_int max_two min_two max_three min_three max_four min_four
set_option linter.unusedVariables false
set_option linter.unusedSimpArgs false

/-! ### mime_closes: function 75 -/
def mime_closes.f (a0 : ByteArray) (a1 : ByteArray) : Option (Bool) := if a1.size + 2 ≤ 9223372036854775807 then ((mime_parts.f a0 (a1 ++ (⟨#[45, 45]⟩ : ByteArray))).bind fun t397 => (some t397)) else (none)
set_option maxHeartbeats 8000000 in
set_option maxRecDepth 100000 in
theorem mime_closes.calls (a0 : ByteArray) (a1 : ByteArray) (r : Bool) (w : World) (h : mime_closes.f a0 a1 = some r) :
  Calls Tryd.prog 75 #[.string a0, .string a1] w fun e w' => e = .returned (.bool r) ∧ Below w.heap.size w w' := by
 have HB := Aside0.mk (Below.refl w.heap.size w)
 have H : (if a1.size + 2 ≤ 9223372036854775807 then ((mime_parts.f a0 (a1 ++ (⟨#[45, 45]⟩ : ByteArray))).bind fun t397 => (some t397)) else (none)) = some r := h
 clear h
 by_cases c3 : a1.size + 2 ≤ 9223372036854775807
 ·rw [if_pos c3] at H
  have c3b0 := eq_true c3
  have c3b1 : decide (a1.size + 2 ≤ 9223372036854775807) = true := decide_eq_true c3
  try have c3b2 : (9223372036854775807 < a1.size + 2) = False := eq_false (Nat.not_lt.2 c3)
  replace H := Option.bind_eq_some_iff.mp H
  obtain ⟨t397, A40, H⟩ := H
  replace H : (some t397) = some r := H
  have A4 := Aside0.mk A40
  clear A40
  obtain rfl := Option.some.inj H
  go_enter Tryd.func75, Tryd.ntmps75
  go_wp2_with (first | ((with_reducible refine gate_callee (f := 74) rfl ?_); refine goesL_ (some 8) rfl rfl Tryd.func74 (by kernel_rfl) rfl #[.string a0, .string (a1 ++ (⟨#[45, 45]⟩ : ByteArray))] rfl am ?_; (with_reducible refine (mime_parts.calls a0 (a1 ++ (⟨#[45, 45]⟩ : ByteArray)) t397 _ A4.out).mono ?_); rintro e w5 ⟨rfl, hb⟩; refine ⟨_, rfl, ?_⟩; have n0_ := Aside0.mk (below_step bw hb); clear HB; have HB := n0_; clear n0_; (try clear hb); (try clear hb2); (try clear hk); (try clear hi)))
  go_ret
  exact ⟨by first | rfl | (simp [errW_none, errW_some] <;> rfl) | (simp [*, errW_none, errW_some] <;> rfl), bw⟩
 ·rw [if_neg c3] at H
  exact absurd H (by simp)

end Go.Proofs.YtoikneogdbdplaaDoor.Fn
set_option linter.unusedVariables false
set_option linter.unusedSimpArgs false
namespace Go.Proofs.YtoikneogdbdplaaDoor.Pl
open Go.RowKit Go.Proofs.YtoikneogdbdplaaDoorW.PrintWords Go.Proofs.YtoikneogdbdplaaDoor.Fn

/-! Layer 20: the parts of a body. -/
def bndB (c : UInt8) : Bool := decide (33 ≤ c.toNat) && decide (c.toNat ≤ 126)
def rightBd (l : Bytes) : Bool := l.all bndB && (!decide (l = []) && decide (l.length ≤ 70))
theorem mimeright_l0 (s : ByteArray) (hs : s.size ≤ 1000000000) : ∀ (l : Bytes) (k i : Nat), (bs s).drop i = l → i ≤ s.size → l.length < k → mime_right.l0 k s (s.size : Int) (i : Int) = some (l.all bndB && (!decide (bs s = []) && decide ((bs s).length ≤ 70)))
  | [], k, i, hd, hi, hk => by
    obtain ⟨k, rfl⟩ : ∃ j, k = j + 1 := ⟨k - 1, by simp at hk; omega⟩
    have := drop_nil hd
    rw [bs_length] at this
    rw [mime_right.l0, if_neg (by omega), toList_bs]
    by_cases h : bs s = []
    · rw [if_pos h]; simp [h]
    · rw [if_neg h, bs_length]
      have : decide ((s.size : Int) ≤ 70) = decide (s.size ≤ 70) := by rw [decide_eq_decide]; omega
      rw [this]; simp [h]
  | c :: l, k, i, hd, hi, hk => by
    obtain ⟨k, rfl⟩ : ∃ j, k = j + 1 := ⟨k - 1, by simp at hk; omega⟩
    obtain ⟨h1, h2, h3, h4⟩ := drop_cons hd
    rw [bs_length] at h1
    simp only [List.length_cons] at hk
    rw [mime_right.l0, if_pos (by omega), if_pos (by omega), if_pos (by omega), bt_drop hd]
    by_cases h5 : (c.toNat : Int) ≤ 32
    · have : bndB c = false := by unfold bndB; rw [decide_eq_false (by omega)]; rfl
      rw [if_pos h5, List.all_cons, this]; rfl
    · rw [if_neg h5]
      by_cases h6 : (c.toNat : Int) > 126
      · have : bndB c = false := by unfold bndB; rw [decide_eq_false (show ¬ c.toNat ≤ 126 by omega), Bool.and_false]
        rw [if_pos h6, List.all_cons, this]; rfl
      · have : bndB c = true := by unfold bndB; rw [decide_eq_true (by omega), decide_eq_true (by omega)]; rfl
        rw [if_neg h6, wrap_succ i (by omega), mimeright_l0 s hs l k (i + 1) h3 (by omega) (by omega), List.all_cons, this]; rfl
theorem mimeright_is (s : ByteArray) (hs : s.size ≤ 1000000000) (k : Nat) (hk : s.size < k) : mime_right.f k s = some (rightBd (bs s)) := by
  unfold mime_right.f rightBd
  exact mimeright_l0 s hs (bs s) k 0 rfl (Nat.zero_le _) (by rw [bs_length]; exact hk)
def trimR (x : ByteArray) : Bytes := Lib.trimRightS (bs x) [32, 9]
def whatP (x b : ByteArray) : Bool := trimR x == 45 :: 45 :: bs b
def whatC (x b : ByteArray) : Bool := trimR x == 45 :: 45 :: (bs b ++ [45, 45])
theorem trimRight_is (x : ByteArray) (hx : x.size ≤ 1000000000) : strings_TrimRight.f x (⟨#[32, 9]⟩ : ByteArray) = some (str (trimR x)) := by
  unfold strings_TrimRight.f
  rw [if_pos (by omega), if_pos (by decide), if_pos (by decide)]
  rfl
theorem mimeparts_is (x b : ByteArray) (hx : x.size ≤ 1000000000) (hb : b.size ≤ 2000000000) : mime_parts.f x b = some (whatP x b) := by
  unfold mime_parts.f
  rw [trimRight_is x hx, Option.bind_some, if_pos (by omega), toList_str, toList_bs, bs_app]
  rfl
theorem mimecloses_is (x b : ByteArray) (hx : x.size ≤ 1000000000) (hb : b.size ≤ 1000000000) : mime_closes.f x b = some (whatC x b) := by
  unfold mime_closes.f
  rw [if_pos (by omega), mimeparts_is x _ hx (by rw [ByteArray.size_append]; show b.size + 2 ≤ _; omega), Option.bind_some]
  unfold whatP whatC
  rw [bs_app]
  rfl
abbrev MS := List ByteArray × List ByteArray × Bool
abbrev crlfB : ByteArray := ⟨#[13, 10]⟩
def mout (s : MS) : List ByteArray := if s.2.2 = true then s.1 ++ [join s.2.1 crlfB] else s.1
def mstep (b : ByteArray) (s : MS) (x : ByteArray) : MS ⊕ (List ByteArray × Int) :=
  if whatP x b = false ∧ whatC x b = false then .inl (s.1, s.2.1 ++ [x], s.2.2)
  else if whatC x b = true then (if s.2.2 = true then .inr (mout s, 0) else .inr ([], 6))
  else if (mout s).length = 20 then .inr ([], 8) else .inl (mout s, [], true)
def mrun (b : ByteArray) : List ByteArray → MS → MS ⊕ (List ByteArray × Int)
  | [], s => .inl s
  | x :: l, s => match mstep b s x with
    | .inl t => mrun b l t
    | .inr r => .inr r
theorem mrun_snoc (b : ByteArray) : ∀ (l : List ByteArray) (s : MS) (x : ByteArray), mrun b (l ++ [x]) s = match mrun b l s with
    | .inl t => mstep b t x
    | .inr r => .inr r
  | [], s, x => by
    show mrun b [x] s = mstep b s x
    rw [mrun]
    cases h : mstep b s x with
    | inl t => rfl
    | inr r => rfl
  | y :: l, s, x => by
    rw [List.cons_append, mrun, mrun]
    cases h : mstep b s y with
    | inl t => exact mrun_snoc b l t x
    | inr r => rfl
theorem mrun_prefix {b : ByteArray} {pre xs : List ByteArray} {s : MS} {r : List ByteArray × Int} (hp : pre <+: xs) (h : mrun b pre s = .inr r) : mrun b xs s = .inr r := by
  obtain ⟨t, rfl⟩ := hp
  induction pre generalizing s with
  | nil => cases h
  | cons y l ih =>
    rw [List.cons_append]
    rw [mrun] at h ⊢
    cases hm : mstep b s y with
    | inl t' => rw [hm] at h; exact ih h
    | inr r' => rw [hm] at h; exact h
theorem mout_len (s : MS) : (mout s).length ≤ s.1.length + 1 := by
  unfold mout
  split <;> simp
theorem mstep_lines {b : ByteArray} {s t : MS} {x : ByteArray} (h : mstep b s x = .inl t) : t.1.length ≤ s.1.length + 1 ∧ t.2.1.length ≤ s.2.1.length + 1 ∧ ∀ y ∈ t.2.1, y ∈ s.2.1 ∨ y = x := by
  have hm := mout_len s
  unfold mstep at h
  split at h
  · cases h
    refine ⟨Nat.le_succ _, by simp, fun y hy => ?_⟩
    rcases List.mem_append.1 hy with h1 | h1
    · exact .inl h1
    · exact .inr (by simpa using h1)
  · split at h
    · split at h <;> cases h
    · split at h
      · cases h
      · cases h
        exact ⟨hm, by simp, fun y hy => by simp at hy⟩
theorem mrun_lines {b : ByteArray} : ∀ {l : List ByteArray} {s t : MS}, mrun b l s = .inl t → t.1.length ≤ s.1.length + l.length ∧ t.2.1.length ≤ s.2.1.length + l.length ∧ ∀ y ∈ t.2.1, y ∈ s.2.1 ∨ y ∈ l
  | [], s, t, h => by cases h; exact ⟨Nat.le_refl _, Nat.le_refl _, fun y hy => .inl hy⟩
  | x :: l, s, t, h => by
    rw [mrun] at h
    cases hm : mstep b s x with
    | inr r => rw [hm] at h; cases h
    | inl u =>
      rw [hm] at h
      obtain ⟨h0, h1, h2⟩ := mstep_lines hm
      obtain ⟨h5, h3, h4⟩ := mrun_lines h
      refine ⟨by simp only [List.length_cons]; omega, by simp only [List.length_cons]; omega, fun y hy => ?_⟩
      rcases h4 y hy with h | h
      · rcases h2 y h with h | rfl
        · exact .inl h
        · exact .inr (by simp)
      · exact .inr (by simp [h])
def splitR (b : ByteArray) (l : List ByteArray) : List ByteArray × Int := match mrun b l ([], [], false) with
  | .inr r => r
  | .inl s => if s.2.2 = true then ([], 9) else ([], 6)
def mimeSplit (body b : ByteArray) : List ByteArray × Int := if rightBd (bs b) = true then splitR b (linesL body) else ([], 200)
theorem joinB_len (sep : Bytes) (m : Nat) : ∀ l : List Bytes, (∀ x ∈ l, x.length ≤ m) → (Lib.join l sep).length ≤ l.length * (m + sep.length)
  | [], _ => by simp [Lib.join_nil]
  | [x], h => by
    have := h x (by simp)
    rw [Lib.join_one, List.length_singleton]
    omega
  | x :: y :: l, h => by
    have ih := joinB_len sep m (y :: l) (fun z hz => h z (by simp [hz]))
    have hx := h x (by simp)
    have e : Lib.join (x :: y :: l) sep = x ++ (sep ++ Lib.join (y :: l) sep) := by simp [Lib.join, List.intercalate]
    rw [e, List.length_append, List.length_append]
    have : (x :: y :: l).length * (m + sep.length) = (y :: l).length * (m + sep.length) + (m + sep.length) := by simp only [List.length_cons, Nat.add_mul, Nat.one_mul]
    omega
theorem join_size {l : List ByteArray} {m : Nat} (h : ∀ x ∈ l, x.size ≤ m) : (join l crlfB).size ≤ l.length * (m + 2) := by
  unfold join
  rw [str_size]
  have := joinB_len [13, 10] m (l.map fun x => x.data.toList) (fun x hx => by
    obtain ⟨y, hy, rfl⟩ := List.mem_map.1 hx
    rw [data_length]
    exact h y hy)
  rw [List.length_map] at this
  exact this
end Go.Proofs.YtoikneogdbdplaaDoor.Pl
set_option linter.unusedVariables false
namespace Go.Proofs.YtoikneogdbdplaaDoor.Fn
open Go.RowKit Go.Proofs.YtoikneogdbdplaaDoorW.PrintWords

def strings_Join.f (l0 : List ByteArray) (a1 : ByteArray) : Option ByteArray :=
  if l0.length ≤ 140737488355328 then (if (Pl.join l0 a1).size ≤ 140737488355328 then some (Pl.join l0 a1) else none) else none

theorem strings_Join.calls (A0 : Option Addr) (c0 : Nat) (l0 : List ByteArray) (a1 : ByteArray) (r : ByteArray) (w : World) (hr0 : Kd.C Kd.string w A0 l0.length l0) (hc0 : l0.length ≤ c0) (h : strings_Join.f l0 a1 = some r) :
    Calls Tryd.prog 77 #[.slice A0 l0.length c0, .string a1] w fun e w' => e = .returned (.string r) ∧ Below w.heap.size w w' := by
  unfold strings_Join.f at h
  by_cases hs : l0.length ≤ 140737488355328
  · rw [if_pos hs] at h
    by_cases hn : (Pl.join l0 a1).size ≤ 140737488355328
    · rw [if_pos hn] at h
      have HR := Option.some.inj h
      clear h
      subst HR
      by_cases h0 : l0.length = 0
      · have e0 : l0 = [] := List.eq_nil_of_length_eq_zero h0
        subst e0
        refine (Tryd.strings_Join_none A0 c0 a1 w).mono ?_
        rintro e w' ⟨rfl, rfl⟩
        exact ⟨rfl, Below.refl _ _⟩
      · obtain ⟨bk, o, rfl, hbk, hcells⟩ := strings_at hr0 (by omega)
        exact Tryd.strings_Join bk o c0 l0 a1 w hcells hbk hs hc0 (by have e := Pl.str_size (Lib.join (l0.map fun x => x.data.toList) a1.data.toList); unfold Pl.join at hn; omega)
    · rw [if_neg hn] at h
      exact absurd h (by simp)
  · rw [if_neg hs] at h
    exact absurd h (by simp)
end Go.Proofs.YtoikneogdbdplaaDoor.Fn
set_option linter.unusedVariables false
set_option linter.unusedSimpArgs false
namespace Go.Proofs.YtoikneogdbdplaaDoor.Fn
open Go.RowKit Go.Shelf Go.Proofs.YtoikneogdbdplaaDoorW.PrintWords

def mime_Split.f (a0 a1 : ByteArray) : Option (List ByteArray × Int) := if a0.size ≤ 1000000 then (if a1.size ≤ 1000000 then some (Pl.mimeSplit a0 a1) else none) else none

structure MC (b0 b1 b2 b3 b4 b5 : Nat) (a1 : ByteArray) (W : World) (vr : Value) (rc : Int) (vo vl : Value) (bg : Bool) : Prop where
  ord : b0 < b1 ∧ b1 < b2 ∧ b2 < b3 ∧ b3 < b4 ∧ b4 < b5
  c0 : W.cell? ⟨b0, 0, none⟩ = some (.string a1)
  c1 : W.cell? ⟨b1, 0, none⟩ = some vr
  f1 : W.frozen? ⟨b1, 0, none⟩ = false
  c2 : W.cell? ⟨b2, 0, none⟩ = some (.int .i64 rc)
  f2 : W.frozen? ⟨b2, 0, none⟩ = false
  c3 : W.cell? ⟨b3, 0, none⟩ = some vo
  f3 : W.frozen? ⟨b3, 0, none⟩ = false
  c4 : W.cell? ⟨b4, 0, none⟩ = some vl
  f4 : W.frozen? ⟨b4, 0, none⟩ = false
  c5 : W.cell? ⟨b5, 0, none⟩ = some (.bool bg)
  f5 : W.frozen? ⟨b5, 0, none⟩ = false
section
variable {b0 b1 b2 b3 b4 b5 : Nat} {a1 : ByteArray} {W W' : World} {vr vo vl : Value} {rc : Int} {bg : Bool}
theorem MC.move (m : MC b0 b1 b2 b3 b4 b5 a1 W vr rc vo vl bg) (hm : ∀ b, b0 ≤ b → b ≤ b5 → W'.heap[b]? = W.heap[b]?) : MC b0 b1 b2 b3 b4 b5 a1 W' vr rc vo vl bg := by
  have o := m.ord
  have k : ∀ b, b0 ≤ b → b ≤ b5 → W'.cell? ⟨b, 0, none⟩ = W.cell? ⟨b, 0, none⟩ ∧ W'.frozen? ⟨b, 0, none⟩ = W.frozen? ⟨b, 0, none⟩ := fun b h1 h2 => ⟨World.cell?_of_block (hm b h1 h2), World.frozen?_of_block (hm b h1 h2)⟩
  exact ⟨o, (k b0 (by omega) (by omega)).1.trans m.c0, (k b1 (by omega) (by omega)).1.trans m.c1, (k b1 (by omega) (by omega)).2.trans m.f1, (k b2 (by omega) (by omega)).1.trans m.c2, (k b2 (by omega) (by omega)).2.trans m.f2, (k b3 (by omega) (by omega)).1.trans m.c3, (k b3 (by omega) (by omega)).2.trans m.f3, (k b4 (by omega) (by omega)).1.trans m.c4, (k b4 (by omega) (by omega)).2.trans m.f4, (k b5 (by omega) (by omega)).1.trans m.c5, (k b5 (by omega) (by omega)).2.trans m.f5⟩
theorem MC.lt (m : MC b0 b1 b2 b3 b4 b5 a1 W vr rc vo vl bg) : b5 < W.heap.size := cell_inside m.c5
theorem MC.below (m : MC b0 b1 b2 b3 b4 b5 a1 W vr rc vo vl bg) (hb : Below W.heap.size W W') : MC b0 b1 b2 b3 b4 b5 a1 W' vr rc vo vl bg := m.move (fun b _ h2 => hb.block b (by have := m.lt; omega))
theorem MC.grown (m : MC b0 b1 b2 b3 b4 b5 a1 W vr rc vo vl bg) {row : Option Nat} (hg : W.grownBy W' row) (hr : ∀ k, row = some k → b5 < k) : MC b0 b1 b2 b3 b4 b5 a1 W' vr rc vo vl bg := m.move (fun b _ h2 => hg.block b (by have := m.lt; omega) (fun e => by have := hr b e.symm; omega))
theorem MC.walk (m : MC b0 b1 b2 b3 b4 b5 a1 W vr rc vo vl bg) {row : Option Nat} (hg : W.grownBy W' row) (hr : ∀ r, row = some r → ∃ o : Obj, W.heap[r]? = some o ∧ o.isCells = false) : MC b0 b1 b2 b3 b4 b5 a1 W' vr rc vo vl bg :=
  ⟨m.ord, cell_kept m.c0 hg hr, cell_kept m.c1 hg hr, (frozen_kept m.c1 hg hr).trans m.f1, cell_kept m.c2 hg hr, (frozen_kept m.c2 hg hr).trans m.f2, cell_kept m.c3 hg hr, (frozen_kept m.c3 hg hr).trans m.f3, cell_kept m.c4 hg hr, (frozen_kept m.c4 hg hr).trans m.f4, cell_kept m.c5 hg hr, (frozen_kept m.c5 hg hr).trans m.f5⟩
theorem MC.far (m : MC b0 b1 b2 b3 b4 b5 a1 W vr rc vo vl bg) {p : Addr} (hp : b5 < p.block) (u : Value) : MC b0 b1 b2 b3 b4 b5 a1 (W.setCell p u) vr rc vo vl bg := m.move (fun b _ h2 => Below.heap_setCell W p u b (by omega))
theorem cell_same {W : World} {p : Addr} {v u : Value} (hc : W.cell? p = some v) : (W.setCell p u).cell? p = some u := World.cell?_setCell_same' _ _ _ (by rw [hc]; rfl)
theorem cell_far {W : World} {b b' : Nat} {v u : Value} (hc : W.cell? ⟨b, 0, none⟩ = some v) (hne : b ≠ b') : (W.setCell ⟨b', 0, none⟩ u).cell? ⟨b, 0, none⟩ = some v := (World.cell?_setCell_other _ _ _ _ (by first | (simp; done) | (simp; omega))).trans hc
theorem MC.set1 (m : MC b0 b1 b2 b3 b4 b5 a1 W vr rc vo vl bg) (u : Value) : MC b0 b1 b2 b3 b4 b5 a1 (W.setCell ⟨b1, 0, none⟩ u) u rc vo vl bg := by
  have o := m.ord
  exact ⟨o, cell_far m.c0 (by omega), cell_same m.c1, by rw [World.frozen?_setCell]; exact m.f1, cell_far m.c2 (by omega), by rw [World.frozen?_setCell]; exact m.f2, cell_far m.c3 (by omega), by rw [World.frozen?_setCell]; exact m.f3, cell_far m.c4 (by omega), by rw [World.frozen?_setCell]; exact m.f4, cell_far m.c5 (by omega), by rw [World.frozen?_setCell]; exact m.f5⟩
theorem MC.set2 (m : MC b0 b1 b2 b3 b4 b5 a1 W vr rc vo vl bg) (u : Int) : MC b0 b1 b2 b3 b4 b5 a1 (W.setCell ⟨b2, 0, none⟩ (.int .i64 u)) vr u vo vl bg := by
  have o := m.ord
  exact ⟨o, cell_far m.c0 (by omega), cell_far m.c1 (by omega), by rw [World.frozen?_setCell]; exact m.f1, cell_same m.c2, by rw [World.frozen?_setCell]; exact m.f2, cell_far m.c3 (by omega), by rw [World.frozen?_setCell]; exact m.f3, cell_far m.c4 (by omega), by rw [World.frozen?_setCell]; exact m.f4, cell_far m.c5 (by omega), by rw [World.frozen?_setCell]; exact m.f5⟩
theorem MC.set3 (m : MC b0 b1 b2 b3 b4 b5 a1 W vr rc vo vl bg) (u : Value) : MC b0 b1 b2 b3 b4 b5 a1 (W.setCell ⟨b3, 0, none⟩ u) vr rc u vl bg := by
  have o := m.ord
  exact ⟨o, cell_far m.c0 (by omega), cell_far m.c1 (by omega), by rw [World.frozen?_setCell]; exact m.f1, cell_far m.c2 (by omega), by rw [World.frozen?_setCell]; exact m.f2, cell_same m.c3, by rw [World.frozen?_setCell]; exact m.f3, cell_far m.c4 (by omega), by rw [World.frozen?_setCell]; exact m.f4, cell_far m.c5 (by omega), by rw [World.frozen?_setCell]; exact m.f5⟩
theorem MC.set4 (m : MC b0 b1 b2 b3 b4 b5 a1 W vr rc vo vl bg) (u : Value) : MC b0 b1 b2 b3 b4 b5 a1 (W.setCell ⟨b4, 0, none⟩ u) vr rc vo u bg := by
  have o := m.ord
  exact ⟨o, cell_far m.c0 (by omega), cell_far m.c1 (by omega), by rw [World.frozen?_setCell]; exact m.f1, cell_far m.c2 (by omega), by rw [World.frozen?_setCell]; exact m.f2, cell_far m.c3 (by omega), by rw [World.frozen?_setCell]; exact m.f3, cell_same m.c4, by rw [World.frozen?_setCell]; exact m.f4, cell_far m.c5 (by omega), by rw [World.frozen?_setCell]; exact m.f5⟩
theorem MC.set5 (m : MC b0 b1 b2 b3 b4 b5 a1 W vr rc vo vl bg) (u : Bool) : MC b0 b1 b2 b3 b4 b5 a1 (W.setCell ⟨b5, 0, none⟩ (.bool u)) vr rc vo vl u := by
  have o := m.ord
  exact ⟨o, cell_far m.c0 (by omega), cell_far m.c1 (by omega), by rw [World.frozen?_setCell]; exact m.f1, cell_far m.c2 (by omega), by rw [World.frozen?_setCell]; exact m.f2, cell_far m.c3 (by omega), by rw [World.frozen?_setCell]; exact m.f3, cell_far m.c4 (by omega), by rw [World.frozen?_setCell]; exact m.f4, cell_same m.c5, by rw [World.frozen?_setCell]; exact m.f5⟩
end

attribute [local go_sem] Oper.semAt_some

def MI (b0 b1 b2 b3 b4 b5 BS : Nat) (a1 : ByteArray) (W2 : World) (pre : List ByteArray) (W : World) : Prop :=
  (∃ s vo vl, Pl.mrun a1 pre ([], [], false) = .inl s ∧ MC b0 b1 b2 b3 b4 b5 a1 W (.slice none 0 0) 0 vo vl s.2.2 ∧ Two b0 (BS + 2) W vo vl s.1 s.2.1) ∧ Below b0 W2 W
def MX (b0 b1 b2 b3 b4 b5 BS : Nat) (a1 : ByteArray) (W2 : World) (c : Code) (pre : List ByteArray) (W : World) : Prop :=
  (c = .ret ∧ ∃ r vr vo vl bg, Pl.mrun a1 pre ([], [], false) = .inr r ∧ MC b0 b1 b2 b3 b4 b5 a1 W vr r.2 vo vl bg ∧ Kd.R Kd.string 9 W b0 (fun k => BS + 2 < k) vr r.1) ∧ Below b0 W2 W

set_option maxHeartbeats 4000000 in
set_option maxRecDepth 100000 in
theorem mime_Split.calls (a0 a1 : ByteArray) (r1 : List ByteArray) (r2 : Int) (w : World) (hG : Glob w) (h : mime_Split.f a0 a1 = some (r1, r2)) :
    Calls Tryd.prog 38 #[.string a0, .string a1] w fun e w' => ∃ v0_ : Value, e = .returned (.tuple #[v0_, .int .i64 r2]) ∧ Kd.R Kd.string 9 w' w.heap.size (fun _ => True) v0_ r1 ∧ Below w.heap.size w w' := by
  unfold mime_Split.f at h
  by_cases hs : a0.size ≤ 1000000
  case neg => rw [if_neg hs] at h; exact absurd h (by simp)
  rw [if_pos hs] at h
  by_cases hs1 : a1.size ≤ 1000000
  case neg => rw [if_neg hs1] at h; exact absurd h (by simp)
  rw [if_pos hs1] at h
  have HR := Aside0.mk (Option.some.inj h)
  have HG := Aside0.mk hG
  clear h hG
  have h1 : 1 ≤ 3 := by decide
  have k0 := box_cell w (.string a1) 9
  have k1 := box_cell (w.alloc (.cells #[.string a1] 9)) (.slice none 0 0) 32
  have k2 := box_cell ((w.alloc (.cells #[.string a1] 9)).alloc (.cells #[.slice none 0 0] 32)) (.int .i64 0) 52
  rw [World.size_alloc] at k1
  rw [World.size_alloc, World.size_alloc] at k2
  obtain ⟨w0, hw0⟩ : ∃ w0, ((w.alloc (.cells #[.string a1] 9)).alloc (.cells #[.slice none 0 0] 32)).alloc (.cells #[.int .i64 0] 52) = w0 := ⟨_, rfl⟩
  have B0 : Below w.heap.size w w0 := by rw [← hw0]; exact (((Below.refl _ w).alloc (Nat.le_refl _) _).alloc (by simp) _).alloc (by simp; omega) _
  have z0 : w0.heap.size = w.heap.size + 1 + 1 + 1 := by rw [← hw0]; simp
  have c0 : w0.cell? ⟨w.heap.size, 0, none⟩ = some (.string a1) := by rw [← hw0]; exact cell_on _ (cell_on _ k0.1)
  have c1 : w0.cell? ⟨w.heap.size + 1, 0, none⟩ = some (.slice none 0 0) := by rw [← hw0]; exact cell_on _ k1.1
  have f1 : w0.frozen? ⟨w.heap.size + 1, 0, none⟩ = false := by rw [← hw0]; exact frozen_on _ k1.1 k1.2
  have c2 : w0.cell? ⟨w.heap.size + 1 + 1, 0, none⟩ = some (.int .i64 0) := by rw [← hw0]; exact k2.1
  have f2 : w0.frozen? ⟨w.heap.size + 1 + 1, 0, none⟩ = false := by rw [← hw0]; exact k2.2
  clear k0 k1 k2
  have hri := Pl.mimeright_is a1 (by omega) (a1.size + 1) (by omega)
  refine (callsIn_wide (n := 3)).1 ?_
  refine callsIn_of_wp_marks Tryd.func38 rfl trivial ?_ rfl
  simp only [Tryd.ntmps38, List.size_toArray, List.length_cons, List.length_nil, Nat.reduceAdd, Nat.reduceSub, Array.replicate_succ, Array.replicate_zero, List.push_toArray, List.append_toArray, List.nil_append, List.cons_append]
  cases hb : Pl.rightBd (Pl.bs a1) with
  | false =>
    rw [hb] at hri
    gi_wp2_with (refine ⟨trivial, ?_⟩; gi_at_call 76; refine (callsIn_wide.2 (mime_right.calls _ a1 false _ hri)).mono ?_; rintro e w' ⟨rfl, ⟨⟨nd, rfl⟩⟩⟩)
    obtain ⟨q1, q2⟩ := two_set (W := w0.drewN nd) (b := w.heap.size + 1) (x := .slice none 0 0) (y := .int .i64 200) c1 c2
    have hfin := HR.out
    rw [show Pl.mimeSplit a0 a1 = ([], 200) from by unfold Pl.mimeSplit; rw [hb]; rfl] at hfin
    simp only [Prod.mk.injEq] at hfin
    obtain ⟨rfl, rfl⟩ := hfin
    refine ⟨.tuple #[.slice none 0 0, .int .i64 200], ?_, .slice none 0 0, rfl, Kd.R_nil _ _ _ _ _, below_two (pw_below_drewN B0 nd) (by omega)⟩
    simp [results, Tryd.f38, go_sem, q1, q2]
  | true =>
    rw [hb] at hri
    gi_wp2_with (first
      | (refine ⟨trivial, ?_⟩; gi_at_call 76; refine (callsIn_wide.2 (mime_right.calls _ a1 true _ hri)).mono ?_; rintro e w' ⟨rfl, ⟨⟨nd, rfl⟩⟩⟩)
      | (refine ⟨trivial, ?_⟩; gi_at_call 73; refine (callsIn_wide.2 (SplitSeq_calls _ _ _)).mono ?_; rintro e W2 ⟨rfl, hbx, hz, hB2⟩))
    have Bd : Below w.heap.size w (w0.drewN nd) := pw_below_drewN B0 nd
    have zd : (w0.drewN nd).heap.size = w.heap.size + 1 + 1 + 1 := z0
    have k3 := box_cell (w0.drewN nd) (.slice none 0 0) 32
    have k4 := box_cell ((w0.drewN nd).alloc (.cells #[.slice none 0 0] 32)) (.slice none 0 0) 32
    have k5 := box_cell (((w0.drewN nd).alloc (.cells #[.slice none 0 0] 32)).alloc (.cells #[.slice none 0 0] 32)) (.bool false) 4
    rw [World.size_alloc] at k4
    rw [World.size_alloc, World.size_alloc] at k5
    rw [zd] at k3 k4 k5
    have m0 : MC w.heap.size (w.heap.size + 1) (w.heap.size + 1 + 1) (w.heap.size + 1 + 1 + 1) (w.heap.size + 1 + 1 + 1 + 1) (w.heap.size + 1 + 1 + 1 + 1 + 1) a1 ((((w0.drewN nd).alloc (.cells #[.slice none 0 0] 32)).alloc (.cells #[.slice none 0 0] 32)).alloc (.cells #[.bool false] 4)) (.slice none 0 0) 0 (.slice none 0 0) (.slice none 0 0) false :=
      ⟨by omega, cell_on _ (cell_on _ (cell_on _ c0)), cell_on _ (cell_on _ (cell_on _ c1)), frozen_on _ (cell_on _ (cell_on _ c1)) (frozen_on _ (cell_on _ c1) (frozen_on _ c1 f1)), cell_on _ (cell_on _ (cell_on _ c2)), frozen_on _ (cell_on _ (cell_on _ c2)) (frozen_on _ (cell_on _ c2) (frozen_on _ c2 f2)), cell_on _ (cell_on _ k3.1), frozen_on _ (cell_on _ k3.1) (frozen_on _ k3.1 k3.2), cell_on _ k4.1, frozen_on _ k4.1 k4.2, k5.1, k5.2⟩
    have zx : ((((w0.drewN nd).alloc (.cells #[.slice none 0 0] 32)).alloc (.cells #[.slice none 0 0] 32)).alloc (.cells #[.bool false] 4)).heap.size = w.heap.size + 1 + 1 + 1 + 1 + 1 + 1 := by rw [World.size_alloc, World.size_alloc, World.size_alloc, zd]
    have Bx : Below w.heap.size w ((((w0.drewN nd).alloc (.cells #[.slice none 0 0] 32)).alloc (.cells #[.slice none 0 0] 32)).alloc (.cells #[.bool false] 4)) := ((Bd.alloc (by omega) _).alloc (by simp only [World.size_alloc]; omega) _).alloc (by simp only [World.size_alloc]; omega) _
    rw [zx] at hbx hz hB2
    have m2 := m0.below (by rw [zx]; exact hB2)
    have B2 : Below w.heap.size w W2 := Bx.trans (hB2.mono (by omega))
    clear m0 k3 k4 k5 c0 c1 f1 c2 f2
    obtain ⟨b1, e1⟩ : ∃ b, w.heap.size + 1 = b := ⟨_, rfl⟩
    obtain ⟨b2, e2⟩ : ∃ b, b1 + 1 = b := ⟨_, rfl⟩
    obtain ⟨b3, e3⟩ : ∃ b, b2 + 1 = b := ⟨_, rfl⟩
    obtain ⟨b4, e4⟩ : ∃ b, b3 + 1 = b := ⟨_, rfl⟩
    obtain ⟨b5, e5⟩ : ∃ b, b4 + 1 = b := ⟨_, rfl⟩
    obtain ⟨BS, e6⟩ : ∃ b, b5 + 1 = b := ⟨_, rfl⟩
    have hgl : 0 < w.heap.size := by
      obtain ⟨m, hm⟩ := HG.out.max
      exact cell_inside hm
    have hG2 := HG.out.below B2
    simp only [e1, e2, e3, e4, e5, e6] at hbx hz hB2 m2
    simp only [e1, e2, e3, e4, e5, e6]
    clear Bx zx
    refine split_range (bs := BS) (D := fun b => b = 0 ∨ (BS ≤ b ∧ b ≤ BS + 2)) (xs := Pl.linesL a0) h1 (by simp [Act.eval])
      (split_gives_crlf 2 (by decide) BS a0 (by omega) W2 hG2 (by omega) (by omega) hbx) (fun b hb => by rcases hb with rfl | hb <;> omega)
      (MI w.heap.size b1 b2 b3 b4 b5 BS a1 W2) (MX w.heap.size b1 b2 b3 b4 b5 BS a1 W2)
      (OwnFrom.and (Own.from (fun s A B row hs hg hr => by obtain ⟨s, vo, vl, q1, q2, q3⟩ := hs; exact ⟨s, vo, vl, q1, q2.walk hg hr, q3.walk hg hr⟩) _) (ownFrom_below B2.size (by omega)))
      (fun c => OwnFrom.and (Own.from (fun s A B row hs hg hr => by obtain ⟨q0, r, vr, vo, vl, bg, q1, q2, q3⟩ := hs; exact ⟨q0, r, vr, vo, vl, bg, q1, q2.walk hg hr, R_walk q3 hg hr⟩) _) (ownFrom_below B2.size (by omega)))
      (fun s A v hs => by
        obtain ⟨⟨s, vo, vl, q1, q2, q3⟩, q4⟩ := hs
        exact ⟨⟨s, vo, vl, q1, q2.far (by show b5 < BS; omega) _, q3.set (by show BS ≤ BS + 2; omega) _⟩, q4.setCell (p := ⟨BS, 0, none⟩) (by show w.heap.size ≤ BS; omega) _⟩)
      ⟨⟨_, _, _, rfl, m2, Two.nil _ _ _⟩, Below.refl _ W2⟩
      (fun x => { tmps := #[.string a0, .string a1, undef, .pointer (some ⟨w.heap.size, 0, none⟩), .pointer (some ⟨b1, 0, none⟩), .pointer (some ⟨b2, 0, none⟩), .pointer (some ⟨b3, 0, none⟩), .pointer (some ⟨b4, 0, none⟩), .pointer (some ⟨b5, 0, none⟩), .string x, undef, undef, .string a1, .bool true, .bool false, .string a0, .func (.func 133) #[] #[.pointer (some ⟨BS + 1, 0, none⟩), .pointer (some ⟨BS, 0, none⟩), .pointer (some ⟨BS + 2, 0, none⟩)], .string x, undef, undef, undef, undef, undef, undef, undef, undef, undef, undef, undef, undef, undef, undef, undef, undef, undef, undef, undef, undef, undef, undef, undef, undef, undef, undef, undef, undef, undef, undef, undef, undef, undef, undef, undef, undef], defers := [] }) ?assign ?body ?done ?stop
    case assign =>
      intro l x W K hK
      gi_wp2
      exact hK
    case body =>
      rintro l pre x W ⟨⟨s, vo, vl, q1, q2, q3⟩, hBW⟩ hpx
      have h11 : 1 ≤ 3 - 1 - 1 := by decide
      have hwz : BS + 3 ≤ W.heap.size := by have := hBW.size; omega
      have hx : x.size ≤ 1000000 := Nat.le_trans (cuts_size (mem_of_prefix hpx)) hs
      have hP := Pl.mimeparts_is x a1 (by omega) (by omega)
      have hC := Pl.mimecloses_is x a1 (by omega) (by omega)
      have hst : Pl.mrun a1 (pre ++ [x]) ([], [], false) = Pl.mstep a1 s x := by rw [Pl.mrun_snoc, q1]
      unfold Pl.mstep at hst
      obtain ⟨P, hPe⟩ : ∃ P, Pl.whatP x a1 = P := ⟨_, rfl⟩
      obtain ⟨C, hCe⟩ : ∃ C, Pl.whatC x a1 = C := ⟨_, rfl⟩
      rw [hPe] at hP hst
      rw [hCe] at hC hst
      have g0 := q2.c0
      gi_wp2
      refine wpIn_mono (Q := onlyN (fun a' W' => a' = { tmps := #[.string a0, .string a1, undef, .pointer (some ⟨w.heap.size, 0, none⟩), .pointer (some ⟨b1, 0, none⟩), .pointer (some ⟨b2, 0, none⟩), .pointer (some ⟨b3, 0, none⟩), .pointer (some ⟨b4, 0, none⟩), .pointer (some ⟨b5, 0, none⟩), .string x, .bool P, .bool C, .string a1, .bool true, .bool false, .string a0, .func (.func 133) #[] #[.pointer (some ⟨BS + 1, 0, none⟩), .pointer (some ⟨BS, 0, none⟩), .pointer (some ⟨BS + 2, 0, none⟩)], .string x, .string x, .string a1, .bool P, .string x, .string a1, .bool C, undef, undef, undef, undef, undef, undef, undef, undef, undef, undef, undef, undef, undef, undef, undef, undef, undef, undef, undef, undef, undef, undef, undef, undef, undef, undef, undef, undef, undef, undef], defers := [] } ∧ Below W.heap.size W W')) ?reg ?cont
      case reg =>
        have HY : Hid (∀ (W' W'' : World), Below W.heap.size W W' → Below W'.heap.size W' W'' → Aside0 (W''.cell? ⟨w.heap.size, 0, none⟩ = some (.string a1) ∧ Below W.heap.size W W'')) := fun W' W'' h1 h2 => ⟨((q2.below h1).below h2).c0, h1.trans (h2.mono h1.size)⟩
        have hcw : W.drew.cell? ⟨w.heap.size, 0, none⟩ = some (.string a1) := g0
        have hB0 : Below W.heap.size W W.drew := below_drew1 (Below.refl _ _)
        have hmix : Tryd.prog.follows Departure.mixedOrders = true := by kernel_rfl
        gi_region_with_o (first
          | (refine ⟨trivial, ?_⟩; gi_at_call 74; refine (CallsIn.inRound l (callsIn_wide.2 (mime_parts.calls x a1 P _ hP))).mono ?_; rintro e W4 ⟨rfl, hB4⟩; obtain ⟨c4, hB5⟩ := (HY.out _ W4 (by assumption) hB4).out)
          | (refine ⟨trivial, ?_⟩; gi_at_call 75; refine (CallsIn.inRound l (callsIn_wide.2 (mime_closes.calls x a1 C _ hC))).mono ?_; rintro e W6 ⟨rfl, hB6⟩; obtain ⟨c6, hB7⟩ := (HY.out _ W6 (by assumption) hB6).out))
        all_goals exact ⟨rfl, by assumption⟩
      case cont =>
        rintro e a' W' hn
        cases e with
        | normal =>
          obtain ⟨rfl, hB⟩ := hn
          have m := q2.below hB
          have t := q3.below hB
          have hBW' : Below w.heap.size W2 W' := hBW.trans (hB.mono (by have := hBW.size; have := B2.size; omega))
          have hw' := hB.size
          have hml := Pl.mrun_lines q1
          have hpl := prefix_len hpx
          have hcl : (Pl.linesL a0).length ≤ a0.size + 1 := cutsN_len _ _ _ _
          simp only [List.length_nil, Nat.zero_add] at hml
          clear q1 q2 q3 g0
          obtain ⟨so, sl, sb⟩ := s
          simp only at m t hml hst
          obtain ⟨Ao, co, rfl⟩ := Kd.R_slice t.o
          obtain ⟨Al, cl, rfl⟩ := Kd.R_slice t.l
          have c1 := m.c1
          have f1 := m.f1
          have c2 := m.c2
          have f2 := m.f2
          have c3 := m.c3
          have f3 := m.f3
          have c4 := m.c4
          have f4 := m.f4
          have c5 := m.c5
          have f5 := m.f5
          have ord := m.ord
          have TT := Aside0.mk t
          clear t
          rcases (show (P = false ∧ C = false) ∨ ¬ (P = false ∧ C = false) from Classical.em _) with hPC | hPC
          · obtain ⟨rfl, rfl⟩ := hPC
            rw [if_pos ⟨rfl, rfl⟩] at hst
            gi_wp2_with (gi_at_builtin; refine R_append_in (w0 := w) Kd.string w.heap.size rfl _ _ 32 9 (.string ⟨#[]⟩) 16 rfl rfl (by kernel_rfl) rfl (by decide) (by decide) (.slice Al sl.length cl) sl x [.string x] (fun k => BS + 2 < k ∧ some k ≠ (Value.slice Ao so.length co).ownBlock) (fun _ => False) rfl rfl (by first | rfl | exact rfl) (fun _ h => h.elim) (fun k hk => ⟨by omega, fun e => by have := R_lt TT.out.o k e.symm; omega⟩) TT.out.l (B2.trans hBW') (by omega) (by omega) ?_; intro v1 W3 hR3 hB3 hg3 hat3; have t3 := TT.out.pushL hR3 hg3 hat3; have m3 := m.grown hg3 (fun k hk => by have := (TT.out.l.1 k hk).1; omega); have c43 := m3.c4; have f43 := m3.f4; have hKO := keepsOthers_grown hg3 (fun k hk => R_cells TT.out.l k hk); have hKD : ∀ b, (b = 0 ∨ (BS ≤ b ∧ b ≤ BS + 2)) → W3.heap[b]? = W.heap[b]? := (fun b hb => by rw [hg3.block b (by rcases hb with rfl | hb <;> omega) (fun e => by have := (TT.out.l.1 b e.symm).1; rcases hb with rfl | hb <;> omega)]; exact hB.block b (by rcases hb with rfl | hb <;> omega)); have hB4 := hBW'.grown hg3 (by omega) (fun k hk => R_base TT.out.l k hk); obtain ⟨A3, c33, rfl⟩ := Kd.R_slice hR3; rw [show (sl ++ [x]).length = sl.length + 1 from List.length_append] at hR3 t3)
            exact ⟨((KeepsOthers.of_below hB).trans hKO).trans (KeepsOthers.setCell _ _ _), fun b hb => by rw [Below.heap_setCell _ _ _ _ (by show b ≠ b4; rcases hb with rfl | hb <;> omega)]; exact hKD b hb, ⟨_, _, _, hst, m3.set4 _, t3.set (by show b4 ≤ BS + 2; omega) _⟩, hB4.setCell (p := ⟨b4, 0, none⟩) (by show w.heap.size ≤ b4; omega) _⟩
          · rw [if_neg hPC] at hst
            cases sb with
            | true =>
              have hjz : ∀ y ∈ sl, y.size ≤ 1000000 := fun y hy => by
                rcases hml.2.2 y hy with h | h
                · simp at h
                · exact Nat.le_trans (cuts_size (hpx.subset (List.mem_append_left _ h))) hs
              have hjs := Pl.join_size hjz
              have hjm : sl.length * (1000000 + 2) ≤ 1000001 * (1000000 + 2) := Nat.mul_le_mul_right _ (by omega)
              have hjl : strings_Join.f sl (⟨#[13, 10]⟩ : ByteArray) = some (Pl.join sl Pl.crlfB) := by
                unfold strings_Join.f
                rw [if_pos (by omega), if_pos (show (Pl.join sl Pl.crlfB).size ≤ 140737488355328 by omega)]
              clear hjs hjm hjz
              have J0 := (Kd.R_reads TT.out.l)
              have hmix : Tryd.prog.follows Departure.mixedOrders = true := by kernel_rfl
              have HPC : (P = true ∧ C = true) ∨ (P = true ∧ C = false) ∨ (P = false ∧ C = true) := by revert hPC; cases P <;> cases C <;> simp
              clear hPC
              have JR : Hid (∀ W'' : World, W'' = W'.drew → Kd.C Kd.string W'' Al sl.length sl) := fun W'' e => by
                subst e
                obtain ⟨A_, c_, e1, e2, e3⟩ := J0
                injection e1 with e1 _ e4
                subst e1
                exact Kd.C_drew e3
              have JLE : sl.length ≤ cl := by
                obtain ⟨A_, c_, e1, e2, e3⟩ := J0
                injection e1 with e1 _ e4
                subst e4
                exact e2
              clear J0
              have J4 : Hid (∀ W4 : World, Below W'.drew.heap.size W'.drew W4 → Aside0 (MC w.heap.size b1 b2 b3 b4 b5 a1 W4 (.slice none 0 0) 0 (.slice Ao so.length co) (.slice Al sl.length cl) true ∧ Two w.heap.size (BS + 2) W4 (.slice Ao so.length co) (.slice Al sl.length cl) so sl ∧ Below W'.heap.size W' W4)) := fun W4 h4 => by
                have h4' : Below W'.heap.size W' W4 := (below_drew1 (Below.refl _ W')).trans h4
                exact ⟨m.below h4', TT.out.below h4', h4'⟩
              have cd3 : W'.drew.cell? ⟨b3, 0, none⟩ = _ := c3
              have cd4 : W'.drew.cell? ⟨b4, 0, none⟩ = _ := c4
              obtain ⟨PV, hPV⟩ : ∃ PV, PV = Value.bool P := ⟨_, rfl⟩
              obtain ⟨CV, hCV⟩ : ∃ CV, CV = Value.bool C := ⟨_, rfl⟩
              rcases HPC with ⟨rfl, rfl⟩ | ⟨rfl, rfl⟩ | ⟨rfl, rfl⟩
              all_goals
                gi_wp2
                refine wpIn_mono (Q := onlyN (fun a' W6 => ∃ (u25 u26 u27 u28 u38 : Value) (A5 : Option Addr) (c55 : Nat), a' = { tmps := #[.string a0, .string a1, undef, .pointer (some ⟨w.heap.size, 0, none⟩), .pointer (some ⟨b1, 0, none⟩), .pointer (some ⟨b2, 0, none⟩), .pointer (some ⟨b3, 0, none⟩), .pointer (some ⟨b4, 0, none⟩), .pointer (some ⟨b5, 0, none⟩), .string x, PV, CV, .string a1, .bool true, .bool false, .string a0, .func (.func 133) #[] #[.pointer (some ⟨BS + 1, 0, none⟩), .pointer (some ⟨BS, 0, none⟩), .pointer (some ⟨BS + 2, 0, none⟩)], .string x, .string x, .string a1, PV, .string x, .string a1, CV, PV, u25, u26, u27, u28, .bool false, undef, undef, undef, undef, .bool true, .slice Ao so.length co, .slice Al sl.length cl, .string (Pl.join sl Pl.crlfB), u38, .slice A5 (so.length + 1) c55, undef, undef, undef, undef, undef, undef, undef, undef, undef, undef, undef, undef, undef, undef], defers := [] } ∧ MC w.heap.size b1 b2 b3 b4 b5 a1 W6 (.slice none 0 0) 0 (.slice A5 (so.length + 1) c55) (.slice Al sl.length cl) true ∧ Two w.heap.size (BS + 2) W6 (.slice A5 (so.length + 1) c55) (.slice Al sl.length cl) (so ++ [Pl.join sl Pl.crlfB]) sl ∧ KeepsOthers W' W6 ∧ (∀ b, (b = 0 ∨ (BS ≤ b ∧ b ≤ BS + 2)) → W6.heap[b]? = W'.heap[b]?) ∧ Below w.heap.size W2 W6)) ?reg12 ?cont12
                case reg12 =>
                  refine wpIn_region_any hmix ?_
                  change wpAnyIn _ _ _ _ _ _ _ _ _ (World.drew _)
                  refine wpAnyIn_ready (rs := [0, 1]) (by kernel_rfl) (by decide) ?_
                  refine AllReadyIn.cons rfl (fun K hK => ?_) ?_
                  · go_simp
                    refine hK _ _ ?_
                    clear hK K
                    refine wpAnyIn_ready (rs := [1]) (by kernel_rfl) (by decide) ?_
                    refine AllReadyIn.cons rfl (fun K hK => ?_) ?_
                    · go_simp
                      refine hK _ _ ?_
                      clear hK K
                      refine wpAnyIn_ready (rs := [2]) (by kernel_rfl) (by decide) ?_
                      refine AllReadyIn.cons rfl (fun K hK => ?_) ?_
                      · go_simp
                        refine ⟨trivial, ?_⟩
                        refine (CallsIn.inRound l (callsIn_wide.2 (strings_Join.calls _ _ sl _ _ _ (JR.out _ rfl) JLE hjl))).mono ?_
                        rintro e W4 ⟨rfl, hB4⟩
                        obtain ⟨m4, t4, hB40⟩ := (J4.out W4 hB4).out
                        have c34 := m4.c3
                        have c3a : (W4.alloc (.cells #[.string (Pl.join sl Pl.crlfB)] 9)).cell? ⟨b3, 0, none⟩ = some (.slice Ao so.length co) := cell_on _ c34
                        refine hK _ _ ?_
                        clear hK K
                        refine wpAnyIn_ready (rs := [3]) (by kernel_rfl) (by decide) ?_
                        refine AllReadyIn.cons rfl (fun K hK => ?_) ?_
                        · go_simp
                          refine hK _ _ ?_
                          clear hK K
                          refine wpAnyIn_ready (rs := [4]) (by kernel_rfl) (by decide) ?_
                          refine BigFrame.allReadyIn_want rfl (by kernel_rfl) (fun K hK => ?_) ?_
                          · refine R_append_op (w0 := w) (W := W4) Kd.string w.heap.size _ _ 32 9 (.string ⟨#[]⟩) 16 rfl rfl (by kernel_rfl) rfl (by decide) (by decide) (.slice Ao so.length co) so (Pl.join sl Pl.crlfB) [.string (Pl.join sl Pl.crlfB)] (fun k => BS + 2 < k ∧ some k ≠ (Value.slice Al sl.length cl).ownBlock) (fun _ => False) rfl (by first | rfl | exact rfl) rfl (fun _ h => h.elim) (fun k hk => ⟨by have := hB40.size; omega, fun e => by have := R_lt t4.l k e.symm; omega⟩) t4.o ((B2.trans hBW').trans (hB40.mono (by omega))) (by have := hB40.size; omega) (by omega) ?_
                            intro v1 W5 hR5 hB5 hg5 hat5
                            have t5 := (t4.swap.pushL hR5 hg5 hat5).swap
                            have m5 := m4.grown hg5 (fun k hk => by have := (t4.o.1 k hk).1; omega)
                            have hKO5 : KeepsOthers W' W5 := (KeepsOthers.of_below hB40).trans (keepsOthers_grown hg5 (fun k hk => R_cells t4.o k hk))
                            have hKD5 : ∀ b, (b = 0 ∨ (BS ≤ b ∧ b ≤ BS + 2)) → W5.heap[b]? = W'.heap[b]? := fun b hb => by rw [hg5.block b (by have := hB40.size; rcases hb with rfl | hb <;> omega) (fun e => by have := (t4.o.1 b e.symm).1; rcases hb with rfl | hb <;> omega)]; exact hB40.block b (by rcases hb with rfl | hb <;> omega)
                            have hBB5 : Below w.heap.size W2 W5 := (hBW'.trans (hB40.mono (by omega))).grown hg5 (by have := hB40.size; omega) (fun k hk => R_base t4.o k hk)
                            obtain ⟨A5, c55, rfl⟩ := Kd.R_slice hR5
                            rw [show (so ++ [Pl.join sl Pl.crlfB]).length = so.length + 1 from List.length_append] at t5 ⊢
                            have c35 := m5.c3
                            have f35 := m5.f3
                            refine hK _ _ ?_
                            clear hK K
                            try simp only [Act.put, List.setIfInBounds_toArray, List.set_cons_zero, List.set_cons_succ]
                            refine wpAnyIn_ready (rs := [5]) (by kernel_rfl) (by decide) ?_
                            refine AllReadyIn.cons rfl (fun K hK => ?_) ?_
                            · go_simp
                              refine hK _ _ ?_
                              clear hK K
                              refine wpAnyIn_done (by kernel_rfl) ?_ _
                              exact ⟨_, _, _, _, _, A5, c55, by rw [hPV, hCV], m5.set3 _, t5.set (by show b3 ≤ BS + 2; omega) _, hKO5.trans (KeepsOthers.setCell _ _ _), fun b hb => by rw [Below.heap_setCell _ _ _ _ (by show b ≠ b3; rcases hb with rfl | hb <;> omega)]; exact hKD5 b hb, hBB5.setCell (p := ⟨b3, 0, none⟩) (by show w.heap.size ≤ b3; omega) _⟩
                            exact AllReadyIn.nil
                          exact AllReadyIn.nil
                        exact AllReadyIn.nil
                      exact AllReadyIn.nil
                    exact AllReadyIn.nil
                  refine AllReadyIn.cons rfl (fun K hK => ?_) ?_
                  · go_simp
                    refine hK _ _ ?_
                    clear hK K
                    refine wpAnyIn_ready (rs := [0, 2]) (by kernel_rfl) (by decide) ?_
                    refine AllReadyIn.cons rfl (fun K hK => ?_) ?_
                    · go_simp
                      refine hK _ _ ?_
                      clear hK K
                      refine wpAnyIn_ready (rs := [2]) (by kernel_rfl) (by decide) ?_
                      refine AllReadyIn.cons rfl (fun K hK => ?_) ?_
                      · go_simp
                        refine ⟨trivial, ?_⟩
                        refine (CallsIn.inRound l (callsIn_wide.2 (strings_Join.calls _ _ sl _ _ _ (JR.out _ rfl) JLE hjl))).mono ?_
                        rintro e W4 ⟨rfl, hB4⟩
                        obtain ⟨m4, t4, hB40⟩ := (J4.out W4 hB4).out
                        have c34 := m4.c3
                        have c3a : (W4.alloc (.cells #[.string (Pl.join sl Pl.crlfB)] 9)).cell? ⟨b3, 0, none⟩ = some (.slice Ao so.length co) := cell_on _ c34
                        refine hK _ _ ?_
                        clear hK K
                        refine wpAnyIn_ready (rs := [3]) (by kernel_rfl) (by decide) ?_
                        refine AllReadyIn.cons rfl (fun K hK => ?_) ?_
                        · go_simp
                          refine hK _ _ ?_
                          clear hK K
                          refine wpAnyIn_ready (rs := [4]) (by kernel_rfl) (by decide) ?_
                          refine BigFrame.allReadyIn_want rfl (by kernel_rfl) (fun K hK => ?_) ?_
                          · refine R_append_op (w0 := w) (W := W4) Kd.string w.heap.size _ _ 32 9 (.string ⟨#[]⟩) 16 rfl rfl (by kernel_rfl) rfl (by decide) (by decide) (.slice Ao so.length co) so (Pl.join sl Pl.crlfB) [.string (Pl.join sl Pl.crlfB)] (fun k => BS + 2 < k ∧ some k ≠ (Value.slice Al sl.length cl).ownBlock) (fun _ => False) rfl (by first | rfl | exact rfl) rfl (fun _ h => h.elim) (fun k hk => ⟨by have := hB40.size; omega, fun e => by have := R_lt t4.l k e.symm; omega⟩) t4.o ((B2.trans hBW').trans (hB40.mono (by omega))) (by have := hB40.size; omega) (by omega) ?_
                            intro v1 W5 hR5 hB5 hg5 hat5
                            have t5 := (t4.swap.pushL hR5 hg5 hat5).swap
                            have m5 := m4.grown hg5 (fun k hk => by have := (t4.o.1 k hk).1; omega)
                            have hKO5 : KeepsOthers W' W5 := (KeepsOthers.of_below hB40).trans (keepsOthers_grown hg5 (fun k hk => R_cells t4.o k hk))
                            have hKD5 : ∀ b, (b = 0 ∨ (BS ≤ b ∧ b ≤ BS + 2)) → W5.heap[b]? = W'.heap[b]? := fun b hb => by rw [hg5.block b (by have := hB40.size; rcases hb with rfl | hb <;> omega) (fun e => by have := (t4.o.1 b e.symm).1; rcases hb with rfl | hb <;> omega)]; exact hB40.block b (by rcases hb with rfl | hb <;> omega)
                            have hBB5 : Below w.heap.size W2 W5 := (hBW'.trans (hB40.mono (by omega))).grown hg5 (by have := hB40.size; omega) (fun k hk => R_base t4.o k hk)
                            obtain ⟨A5, c55, rfl⟩ := Kd.R_slice hR5
                            rw [show (so ++ [Pl.join sl Pl.crlfB]).length = so.length + 1 from List.length_append] at t5 ⊢
                            have c35 := m5.c3
                            have f35 := m5.f3
                            refine hK _ _ ?_
                            clear hK K
                            try simp only [Act.put, List.setIfInBounds_toArray, List.set_cons_zero, List.set_cons_succ]
                            refine wpAnyIn_ready (rs := [5]) (by kernel_rfl) (by decide) ?_
                            refine AllReadyIn.cons rfl (fun K hK => ?_) ?_
                            · go_simp
                              refine hK _ _ ?_
                              clear hK K
                              refine wpAnyIn_done (by kernel_rfl) ?_ _
                              exact ⟨_, _, _, _, _, A5, c55, by rw [hPV, hCV], m5.set3 _, t5.set (by show b3 ≤ BS + 2; omega) _, hKO5.trans (KeepsOthers.setCell _ _ _), fun b hb => by rw [Below.heap_setCell _ _ _ _ (by show b ≠ b3; rcases hb with rfl | hb <;> omega)]; exact hKD5 b hb, hBB5.setCell (p := ⟨b3, 0, none⟩) (by show w.heap.size ≤ b3; omega) _⟩
                            exact AllReadyIn.nil
                          exact AllReadyIn.nil
                        exact AllReadyIn.nil
                      exact AllReadyIn.nil
                    refine AllReadyIn.cons rfl (fun K hK => ?_) ?_
                    · go_simp
                      refine ⟨trivial, ?_⟩
                      refine (CallsIn.inRound l (callsIn_wide.2 (strings_Join.calls _ _ sl _ _ _ (JR.out _ rfl) JLE hjl))).mono ?_
                      rintro e W4 ⟨rfl, hB4⟩
                      obtain ⟨m4, t4, hB40⟩ := (J4.out W4 hB4).out
                      have c34 := m4.c3
                      have c3a : (W4.alloc (.cells #[.string (Pl.join sl Pl.crlfB)] 9)).cell? ⟨b3, 0, none⟩ = some (.slice Ao so.length co) := cell_on _ c34
                      refine hK _ _ ?_
                      clear hK K
                      refine wpAnyIn_ready (rs := [0, 3]) (by kernel_rfl) (by decide) ?_
                      refine AllReadyIn.cons rfl (fun K hK => ?_) ?_
                      · go_simp
                        refine hK _ _ ?_
                        clear hK K
                        refine wpAnyIn_ready (rs := [3]) (by kernel_rfl) (by decide) ?_
                        refine AllReadyIn.cons rfl (fun K hK => ?_) ?_
                        · go_simp
                          refine hK _ _ ?_
                          clear hK K
                          refine wpAnyIn_ready (rs := [4]) (by kernel_rfl) (by decide) ?_
                          refine BigFrame.allReadyIn_want rfl (by kernel_rfl) (fun K hK => ?_) ?_
                          · refine R_append_op (w0 := w) (W := W4) Kd.string w.heap.size _ _ 32 9 (.string ⟨#[]⟩) 16 rfl rfl (by kernel_rfl) rfl (by decide) (by decide) (.slice Ao so.length co) so (Pl.join sl Pl.crlfB) [.string (Pl.join sl Pl.crlfB)] (fun k => BS + 2 < k ∧ some k ≠ (Value.slice Al sl.length cl).ownBlock) (fun _ => False) rfl (by first | rfl | exact rfl) rfl (fun _ h => h.elim) (fun k hk => ⟨by have := hB40.size; omega, fun e => by have := R_lt t4.l k e.symm; omega⟩) t4.o ((B2.trans hBW').trans (hB40.mono (by omega))) (by have := hB40.size; omega) (by omega) ?_
                            intro v1 W5 hR5 hB5 hg5 hat5
                            have t5 := (t4.swap.pushL hR5 hg5 hat5).swap
                            have m5 := m4.grown hg5 (fun k hk => by have := (t4.o.1 k hk).1; omega)
                            have hKO5 : KeepsOthers W' W5 := (KeepsOthers.of_below hB40).trans (keepsOthers_grown hg5 (fun k hk => R_cells t4.o k hk))
                            have hKD5 : ∀ b, (b = 0 ∨ (BS ≤ b ∧ b ≤ BS + 2)) → W5.heap[b]? = W'.heap[b]? := fun b hb => by rw [hg5.block b (by have := hB40.size; rcases hb with rfl | hb <;> omega) (fun e => by have := (t4.o.1 b e.symm).1; rcases hb with rfl | hb <;> omega)]; exact hB40.block b (by rcases hb with rfl | hb <;> omega)
                            have hBB5 : Below w.heap.size W2 W5 := (hBW'.trans (hB40.mono (by omega))).grown hg5 (by have := hB40.size; omega) (fun k hk => R_base t4.o k hk)
                            obtain ⟨A5, c55, rfl⟩ := Kd.R_slice hR5
                            rw [show (so ++ [Pl.join sl Pl.crlfB]).length = so.length + 1 from List.length_append] at t5 ⊢
                            have c35 := m5.c3
                            have f35 := m5.f3
                            refine hK _ _ ?_
                            clear hK K
                            try simp only [Act.put, List.setIfInBounds_toArray, List.set_cons_zero, List.set_cons_succ]
                            refine wpAnyIn_ready (rs := [5]) (by kernel_rfl) (by decide) ?_
                            refine AllReadyIn.cons rfl (fun K hK => ?_) ?_
                            · go_simp
                              refine hK _ _ ?_
                              clear hK K
                              refine wpAnyIn_done (by kernel_rfl) ?_ _
                              exact ⟨_, _, _, _, _, A5, c55, by rw [hPV, hCV], m5.set3 _, t5.set (by show b3 ≤ BS + 2; omega) _, hKO5.trans (KeepsOthers.setCell _ _ _), fun b hb => by rw [Below.heap_setCell _ _ _ _ (by show b ≠ b3; rcases hb with rfl | hb <;> omega)]; exact hKD5 b hb, hBB5.setCell (p := ⟨b3, 0, none⟩) (by show w.heap.size ≤ b3; omega) _⟩
                            exact AllReadyIn.nil
                          exact AllReadyIn.nil
                        exact AllReadyIn.nil
                      refine AllReadyIn.cons rfl (fun K hK => ?_) ?_
                      · go_simp
                        refine hK _ _ ?_
                        clear hK K
                        refine wpAnyIn_ready (rs := [0]) (by kernel_rfl) (by decide) ?_
                        refine AllReadyIn.cons rfl (fun K hK => ?_) ?_
                        · go_simp
                          refine hK _ _ ?_
                          clear hK K
                          refine wpAnyIn_ready (rs := [4]) (by kernel_rfl) (by decide) ?_
                          refine BigFrame.allReadyIn_want rfl (by kernel_rfl) (fun K hK => ?_) ?_
                          · refine R_append_op (w0 := w) (W := W4) Kd.string w.heap.size _ _ 32 9 (.string ⟨#[]⟩) 16 rfl rfl (by kernel_rfl) rfl (by decide) (by decide) (.slice Ao so.length co) so (Pl.join sl Pl.crlfB) [.string (Pl.join sl Pl.crlfB)] (fun k => BS + 2 < k ∧ some k ≠ (Value.slice Al sl.length cl).ownBlock) (fun _ => False) rfl (by first | rfl | exact rfl) rfl (fun _ h => h.elim) (fun k hk => ⟨by have := hB40.size; omega, fun e => by have := R_lt t4.l k e.symm; omega⟩) t4.o ((B2.trans hBW').trans (hB40.mono (by omega))) (by have := hB40.size; omega) (by omega) ?_
                            intro v1 W5 hR5 hB5 hg5 hat5
                            have t5 := (t4.swap.pushL hR5 hg5 hat5).swap
                            have m5 := m4.grown hg5 (fun k hk => by have := (t4.o.1 k hk).1; omega)
                            have hKO5 : KeepsOthers W' W5 := (KeepsOthers.of_below hB40).trans (keepsOthers_grown hg5 (fun k hk => R_cells t4.o k hk))
                            have hKD5 : ∀ b, (b = 0 ∨ (BS ≤ b ∧ b ≤ BS + 2)) → W5.heap[b]? = W'.heap[b]? := fun b hb => by rw [hg5.block b (by have := hB40.size; rcases hb with rfl | hb <;> omega) (fun e => by have := (t4.o.1 b e.symm).1; rcases hb with rfl | hb <;> omega)]; exact hB40.block b (by rcases hb with rfl | hb <;> omega)
                            have hBB5 : Below w.heap.size W2 W5 := (hBW'.trans (hB40.mono (by omega))).grown hg5 (by have := hB40.size; omega) (fun k hk => R_base t4.o k hk)
                            obtain ⟨A5, c55, rfl⟩ := Kd.R_slice hR5
                            rw [show (so ++ [Pl.join sl Pl.crlfB]).length = so.length + 1 from List.length_append] at t5 ⊢
                            have c35 := m5.c3
                            have f35 := m5.f3
                            refine hK _ _ ?_
                            clear hK K
                            try simp only [Act.put, List.setIfInBounds_toArray, List.set_cons_zero, List.set_cons_succ]
                            refine wpAnyIn_ready (rs := [5]) (by kernel_rfl) (by decide) ?_
                            refine AllReadyIn.cons rfl (fun K hK => ?_) ?_
                            · go_simp
                              refine hK _ _ ?_
                              clear hK K
                              refine wpAnyIn_done (by kernel_rfl) ?_ _
                              exact ⟨_, _, _, _, _, A5, c55, by rw [hPV, hCV], m5.set3 _, t5.set (by show b3 ≤ BS + 2; omega) _, hKO5.trans (KeepsOthers.setCell _ _ _), fun b hb => by rw [Below.heap_setCell _ _ _ _ (by show b ≠ b3; rcases hb with rfl | hb <;> omega)]; exact hKD5 b hb, hBB5.setCell (p := ⟨b3, 0, none⟩) (by show w.heap.size ≤ b3; omega) _⟩
                            exact AllReadyIn.nil
                          exact AllReadyIn.nil
                        exact AllReadyIn.nil
                      exact AllReadyIn.nil
                    exact AllReadyIn.nil
                  exact AllReadyIn.nil
                case cont12 =>
                  clear J4 JR JLE hjl cd3 cd4 c1 f1 c2 f2 c3 f3 c4 f4 c5 f5
                  rintro e a' W6 hn
                  cases e with
                  | normal =>
                    subst hPV
                    subst hCV
                    obtain ⟨u25, u26, u27, u28, u38, A5, c55, rfl, m6, t6, hKO6, hKD6, hBB6⟩ := hn
                    have c1 := m6.c1
                    have f1 := m6.f1
                    have c2 := m6.c2
                    have f2 := m6.f2
                    have c3 := m6.c3
                    have f3 := m6.f3
                    have c4 := m6.c4
                    have f4 := m6.f4
                    have c5 := m6.c5
                    have f5 := m6.f5
                    have hKO7 := (KeepsOthers.of_below hB).trans hKO6
                    have hKD7 : ∀ b, (b = 0 ∨ (BS ≤ b ∧ b ≤ BS + 2)) → W6.heap[b]? = W.heap[b]? := fun b hb => (hKD6 b hb).trans (hB.block b (by rcases hb with rfl | hb <;> omega))
                    first
                      | (have hst' : Pl.mrun a1 (pre ++ [x]) ([], [], false) = .inr (so ++ [Pl.join sl Pl.crlfB], 0) := by simpa [Pl.mout] using hst
                         gi_wp2
                         exact ⟨((hKO7.trans (KeepsOthers.setCell _ _ _)).trans (KeepsOthers.setCell _ _ _)).trans (KeepsOthers.setCell _ _ _), ⟨rfl, _, _, _, _, _, hst', ((m6.set4 (.slice none 0 0)).set1 (.slice A5 (so.length + 1) c55)).set2 0, Kd.R_far (p := ⟨b2, 0, none⟩) (Kd.R_far (p := ⟨b1, 0, none⟩) (Kd.R_far (p := ⟨b4, 0, none⟩) (Kd.R_mono t6.o (fun k hk => hk.1)) (fun k hk => by show k ≠ b4; omega) _) (fun k hk => by show k ≠ b1; omega) _) (fun k hk => by show k ≠ b2; omega) _⟩, ((hBB6.setCell (p := ⟨b4, 0, none⟩) (by show w.heap.size ≤ b4; omega) _).setCell (p := ⟨b1, 0, none⟩) (by show w.heap.size ≤ b1; omega) _).setCell (p := ⟨b2, 0, none⟩) (by show w.heap.size ≤ b2; omega) _⟩)
                      | (by_cases h20 : so.length + 1 = 20
                         · have d1 : (((so.length + 1 : Nat) : Int) == 20) = true := by rw [beq_iff_eq]; omega
                           have d2 : ((so.length : Int) + 1 == 20) = true := by rw [beq_iff_eq]; omega
                           have hst' : Pl.mrun a1 (pre ++ [x]) ([], [], false) = .inr ([], 8) := by simpa [Pl.mout, h20] using hst
                           gi_wp2
                           exact ⟨((hKO7.trans (KeepsOthers.setCell _ _ _)).trans (KeepsOthers.setCell _ _ _)).trans (KeepsOthers.setCell _ _ _), ⟨rfl, _, _, _, _, _, hst', ((m6.set4 (.slice none 0 0)).set1 (.slice none 0 0)).set2 8, Kd.R_nil _ _ _ _ _⟩, ((hBB6.setCell (p := ⟨b4, 0, none⟩) (by show w.heap.size ≤ b4; omega) _).setCell (p := ⟨b1, 0, none⟩) (by show w.heap.size ≤ b1; omega) _).setCell (p := ⟨b2, 0, none⟩) (by show w.heap.size ≤ b2; omega) _⟩
                         · have d1 : (((so.length + 1 : Nat) : Int) == 20) = false := by rw [beq_eq_false_iff_ne]; omega
                           have d2 : ((so.length : Int) + 1 == 20) = false := by rw [beq_eq_false_iff_ne]; omega
                           have hst' : Pl.mrun a1 (pre ++ [x]) ([], [], false) = .inl (so ++ [Pl.join sl Pl.crlfB], [], true) := by simpa [Pl.mout, h20] using hst
                           gi_wp2
                           exact ⟨(hKO7.trans (KeepsOthers.setCell _ _ _)).trans (KeepsOthers.setCell _ _ _), fun b hb => by rw [Below.heap_setCell _ _ _ _ (by show b ≠ b5; rcases hb with rfl | hb <;> omega), Below.heap_setCell _ _ _ _ (by show b ≠ b4; rcases hb with rfl | hb <;> omega)]; exact hKD7 b hb, ⟨_, _, _, hst', (m6.set4 (.slice none 0 0)).set5 true, ((t6.reset).set (by show b4 ≤ BS + 2; omega) _).set (by show b5 ≤ BS + 2; omega) _⟩, (hBB6.setCell (p := ⟨b4, 0, none⟩) (by show w.heap.size ≤ b4; omega) _).setCell (p := ⟨b5, 0, none⟩) (by show w.heap.size ≤ b5; omega) _⟩)
                  | _ => exact hn.elim
            | false =>
              have hKD7 : ∀ b, (b = 0 ∨ (BS ≤ b ∧ b ≤ BS + 2)) → W'.heap[b]? = W.heap[b]? := fun b hb => hB.block b (by rcases hb with rfl | hb <;> omega)
              have HPC : (P = true ∧ C = true) ∨ (P = true ∧ C = false) ∨ (P = false ∧ C = true) := by revert hPC; cases P <;> cases C <;> simp
              clear hPC
              cases hPP : P with
              | true =>
                cases hCC : C with
                | true =>
                  have hst' : Pl.mrun a1 (pre ++ [x]) ([], [], false) = .inr ([], 6) := by rw [hCC] at hst; simpa [Pl.mout] using hst
                  gi_wp2
                  exact ⟨(((KeepsOthers.of_below hB).trans (KeepsOthers.setCell _ _ _)).trans (KeepsOthers.setCell _ _ _)).trans (KeepsOthers.setCell _ _ _), ⟨rfl, _, _, _, _, _, hst', ((m.set4 (.slice none 0 0)).set1 (.slice none 0 0)).set2 6, Kd.R_nil _ _ _ _ _⟩, ((hBW'.setCell (p := ⟨b4, 0, none⟩) (by show w.heap.size ≤ b4; omega) _).setCell (p := ⟨b1, 0, none⟩) (by show w.heap.size ≤ b1; omega) _).setCell (p := ⟨b2, 0, none⟩) (by show w.heap.size ≤ b2; omega) _⟩
                | false =>
                  by_cases h20 : so.length = 20
                  · have d1 : (((so.length : Nat) : Int) == 20) = true := by rw [beq_iff_eq]; omega
                    skip
                    have hst' : Pl.mrun a1 (pre ++ [x]) ([], [], false) = .inr ([], 8) := by rw [hCC] at hst; simpa [Pl.mout, h20] using hst
                    gi_wp2
                    exact ⟨(((KeepsOthers.of_below hB).trans (KeepsOthers.setCell _ _ _)).trans (KeepsOthers.setCell _ _ _)).trans (KeepsOthers.setCell _ _ _), ⟨rfl, _, _, _, _, _, hst', ((m.set4 (.slice none 0 0)).set1 (.slice none 0 0)).set2 8, Kd.R_nil _ _ _ _ _⟩, ((hBW'.setCell (p := ⟨b4, 0, none⟩) (by show w.heap.size ≤ b4; omega) _).setCell (p := ⟨b1, 0, none⟩) (by show w.heap.size ≤ b1; omega) _).setCell (p := ⟨b2, 0, none⟩) (by show w.heap.size ≤ b2; omega) _⟩
                  · have d1 : (((so.length : Nat) : Int) == 20) = false := by rw [beq_eq_false_iff_ne]; omega
                    skip
                    have hst' : Pl.mrun a1 (pre ++ [x]) ([], [], false) = .inl (so, [], true) := by rw [hCC] at hst; simpa [Pl.mout, h20] using hst
                    gi_wp2
                    exact ⟨((KeepsOthers.of_below hB).trans (KeepsOthers.setCell _ _ _)).trans (KeepsOthers.setCell _ _ _), fun b hb => by rw [Below.heap_setCell _ _ _ _ (by show b ≠ b5; rcases hb with rfl | hb <;> omega), Below.heap_setCell _ _ _ _ (by show b ≠ b4; rcases hb with rfl | hb <;> omega)]; exact hKD7 b hb, ⟨_, _, _, hst', (m.set4 (.slice none 0 0)).set5 true, ((TT.out.reset).set (by show b4 ≤ BS + 2; omega) _).set (by show b5 ≤ BS + 2; omega) _⟩, (hBW'.setCell (p := ⟨b4, 0, none⟩) (by show w.heap.size ≤ b4; omega) _).setCell (p := ⟨b5, 0, none⟩) (by show w.heap.size ≤ b5; omega) _⟩
              | false =>
                obtain rfl : C = true := by rcases HPC with ⟨h1, h2⟩ | ⟨h1, h2⟩ | ⟨h1, h2⟩ <;> simp_all
                have hst' : Pl.mrun a1 (pre ++ [x]) ([], [], false) = .inr ([], 6) := by simpa [Pl.mout] using hst
                gi_wp2
                exact ⟨(((KeepsOthers.of_below hB).trans (KeepsOthers.setCell _ _ _)).trans (KeepsOthers.setCell _ _ _)).trans (KeepsOthers.setCell _ _ _), ⟨rfl, _, _, _, _, _, hst', ((m.set4 (.slice none 0 0)).set1 (.slice none 0 0)).set2 6, Kd.R_nil _ _ _ _ _⟩, ((hBW'.setCell (p := ⟨b4, 0, none⟩) (by show w.heap.size ≤ b4; omega) _).setCell (p := ⟨b1, 0, none⟩) (by show w.heap.size ≤ b1; omega) _).setCell (p := ⟨b2, 0, none⟩) (by show w.heap.size ≤ b2; omega) _⟩
                
        | _ => exact hn.elim
    case done =>
      rintro d W hd ⟨⟨s, vo, vl, q1, q2, q3⟩, hBW⟩ hK
      have hsp : Pl.mimeSplit a0 a1 = if s.2.2 = true then ([], 9) else ([], 6) := by
        unfold Pl.mimeSplit Pl.splitR
        rw [if_pos hb, q1]
      have g1 := q2.c1
      have g2 := q2.c2
      have g3 := q2.f1
      have g4 := q2.f2
      have g5 := q2.c5
      have o := q2.ord
      cases hbg : s.2.2 with
      | true =>
        rw [hbg] at g5
        rw [if_pos hbg] at hsp
        gi_wp2
        have m3 := (q2.set1 (.slice none 0 0)).set2 9
        have hK' := ((KeepsOthers.setCell W ⟨b1, 0, none⟩ (.slice none 0 0)).trans (KeepsOthers.setCell _ ⟨b2, 0, none⟩ (.int .i64 9))).same d _ hK rfl
        refine ⟨by simp, .inl ⟨_, _, rfl, run_takeDeferred hK', ?_⟩⟩
        have hc5 := cell_kept m3.c1 (grownBy_putObj' _ d (.deferred none)) (fun r e => by cases e; exact ⟨_, hK', rfl⟩)
        have hc6 := cell_kept m3.c2 (grownBy_putObj' _ d (.deferred none)) (fun r e => by cases e; exact ⟨_, hK', rfl⟩)
        have hfin := HR.out
        rw [hsp] at hfin
        simp only [Prod.mk.injEq] at hfin
        obtain ⟨rfl, rfl⟩ := hfin
        refine ⟨.tuple #[.slice none 0 0, .int .i64 9], ?_, _, rfl, Kd.R_nil _ _ _ _ _, (((B2.trans hBW).setCell (p := ⟨b1, 0, none⟩) (by show w.heap.size ≤ b1; omega) _).setCell (p := ⟨b2, 0, none⟩) (by show w.heap.size ≤ b2; omega) _).trans (belowK_b (w := w) (Nat.le_refl _) _ d _ _ (by omega) hK' rfl rfl)⟩
        simp [results, Tryd.f38, go_sem, hc5, hc6]
      | false =>
        rw [hbg] at g5
        rw [if_neg (by rw [hbg]; simp)] at hsp
        gi_wp2
        have m3 := (q2.set1 (.slice none 0 0)).set2 6
        have hK' := ((KeepsOthers.setCell W ⟨b1, 0, none⟩ (.slice none 0 0)).trans (KeepsOthers.setCell _ ⟨b2, 0, none⟩ (.int .i64 6))).same d _ hK rfl
        refine ⟨by simp, .inl ⟨_, _, rfl, run_takeDeferred hK', ?_⟩⟩
        have hc5 := cell_kept m3.c1 (grownBy_putObj' _ d (.deferred none)) (fun r e => by cases e; exact ⟨_, hK', rfl⟩)
        have hc6 := cell_kept m3.c2 (grownBy_putObj' _ d (.deferred none)) (fun r e => by cases e; exact ⟨_, hK', rfl⟩)
        have hfin := HR.out
        rw [hsp] at hfin
        simp only [Prod.mk.injEq] at hfin
        obtain ⟨rfl, rfl⟩ := hfin
        refine ⟨.tuple #[.slice none 0 0, .int .i64 6], ?_, _, rfl, Kd.R_nil _ _ _ _ _, (((B2.trans hBW).setCell (p := ⟨b1, 0, none⟩) (by show w.heap.size ≤ b1; omega) _).setCell (p := ⟨b2, 0, none⟩) (by show w.heap.size ≤ b2; omega) _).trans (belowK_b (w := w) (Nat.le_refl _) _ d _ _ (by omega) hK' rfl rfl)⟩
        simp [results, Tryd.f38, go_sem, hc5, hc6]
    case stop =>
      rintro d c pre W hd hpre ⟨⟨rfl, r, vr, vo, vl, bg, q1, q2, q3⟩, hBW⟩ hK
      have q1' := Pl.mrun_prefix hpre q1
      have hsp : Pl.mimeSplit a0 a1 = r := by
        unfold Pl.mimeSplit Pl.splitR
        rw [if_pos hb, q1']
      gi_wp2
      refine ⟨by simp, .inl ⟨_, _, rfl, run_takeDeferred hK, ?_⟩⟩
      obtain ⟨A', c', rfl⟩ := Kd.R_slice q3
      have hc5 := cell_kept q2.c1 (grownBy_putObj' _ d (.deferred none)) (fun r e => by cases e; exact ⟨_, hK, rfl⟩)
      have hc6 := cell_kept q2.c2 (grownBy_putObj' _ d (.deferred none)) (fun r e => by cases e; exact ⟨_, hK, rfl⟩)
      have hR5 := R_walk q3 (grownBy_putObj' _ d (.deferred none)) (fun r e => by cases e; exact ⟨_, hK, rfl⟩)
      have hfin := HR.out
      rw [hsp] at hfin
      obtain ⟨x1, x2⟩ := r
      simp only [Prod.mk.injEq] at hfin
      obtain ⟨rfl, rfl⟩ := hfin
      refine ⟨.tuple #[.slice A' x1.length c', .int .i64 x2], ?_, _, rfl, Kd.R_mono hR5 (fun _ _ => trivial), (B2.trans hBW).trans (belowK_b (w := w) (Nat.le_refl _) W d _ _ (by omega) hK rfl rfl)⟩
      simp [results, Tryd.f38, go_sem, hc5, hc6]
end Go.Proofs.YtoikneogdbdplaaDoor.Fn
