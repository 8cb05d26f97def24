/- A part of the proof of this sentence: Once a day: of a right member that is not off the score grows by as many as there are bounces on another day than the one ahead of each, and it is off as soon as that is too much -/
import Derived.Test.YtnnlhpmkfijppaaDoorCRosterOnce3
import Derived.Deep.QuietTactic
import Derived.ChangeSlices
import Derived.ProofKit
import Derived.OpenShut
import Derived.Deep.SlicePairs
import Derived.SizedLaws
import Derived.Lib.SmallJoins
namespace Go.Proofs.YtnnlhpmkfijppaaDoor.Fn
open Go.RowKit Go.Proofs.YtnnlhpmkfijppaaDoorW.PrintWords Go.Proofs.YtnnlhpmkfijppaaDoorW.PrintLast Go.Proofs.YtnnlhpmkfijppaaDoorW.PrintMore
attribute [local go_sem] max2_int min2_int max_two min_two max_three min_three max_four min_four
set_option linter.unusedVariables false
set_option linter.unusedSimpArgs false

attribute [local go_sem high] eqA29
def bulletinlaw33_works.f (k : Nat)  : Option (Bool) := (roster_New.f (⟨#[97]⟩ : ByteArray) (⟨#[98]⟩ : ByteArray) 1 7 9).bind fun bt310 => ((roster_Member_Bounced.f k bt310.1 bt310.2.1 bt310.2.2.1 bt310.2.2.2.1 bt310.2.2.2.2.1 bt310.2.2.2.2.2.1 bt310.2.2.2.2.2.2.1 bt310.2.2.2.2.2.2.2 5 2).bind fun bt319 => ((roster_Member_Bounced.f k bt319.1 bt319.2.1 bt319.2.2.1 bt319.2.2.2.1 bt319.2.2.2.2.1 bt319.2.2.2.2.2.1 bt319.2.2.2.2.2.2.1 bt319.2.2.2.2.2.2.2 5 2).bind fun bt327 => ((roster_Member_Bounced.f k bt327.1 bt327.2.1 bt327.2.2.1 bt327.2.2.2.1 bt327.2.2.2.2.1 bt327.2.2.2.2.2.1 bt327.2.2.2.2.2.2.1 bt327.2.2.2.2.2.2.2 6 2).bind fun bt336 => ((roster_Member_Row.f k bt336.1 bt336.2.1 bt336.2.2.1 bt336.2.2.2.1 bt336.2.2.2.2.1 bt336.2.2.2.2.2.1 bt336.2.2.2.2.2.2.1 bt336.2.2.2.2.2.2.2).bind fun t345 => ((roster_Read.f k t345).bind fun bt346 => ((roster_Member_Gets.f bt310.1 bt310.2.1 bt310.2.2.1 bt310.2.2.2.1 bt310.2.2.2.2.1 bt310.2.2.2.2.2.1 bt310.2.2.2.2.2.2.1 bt310.2.2.2.2.2.2.2 1).bind fun t356 => (if t356 = true then ((roster_Member_Gets.f bt310.1 bt310.2.1 bt310.2.2.1 bt310.2.2.2.1 bt310.2.2.2.2.1 bt310.2.2.2.2.2.1 bt310.2.2.2.2.2.2.1 bt310.2.2.2.2.2.2.2 2).bind fun t357 => (if t357 = true then (some false) else (if bt327.2.2.2.2.1 = 1 then (if bt327.2.2.2.1 = true then (some false) else (if bt336.2.2.2.2.1 = 2 then (if bt336.2.2.2.1 = true then (if bt346.2.2.2.2.2.2.2.2 = 0 then (some ((bt346.1.toList == bt336.1.toList && (bt346.2.1.toList == bt336.2.1.toList)) && (bt346.2.2.1 == bt336.2.2.1 && (bt346.2.2.2.1 == bt336.2.2.2.1 && (bt346.2.2.2.2.1 == bt336.2.2.2.2.1 && (bt346.2.2.2.2.2.1 == bt336.2.2.2.2.2.1 && (bt346.2.2.2.2.2.2.1 == bt336.2.2.2.2.2.2.1 && (bt346.2.2.2.2.2.2.2.1 == bt336.2.2.2.2.2.2.2)))))))) else (some false)) else (some false)) else (some false))) else (some false)))) else (some false))))))))
theorem bulletinlaw33_works.mono : ∀ k, LeO (bulletinlaw33_works.f k ) (bulletinlaw33_works.f (k + 1) ) := by
 intro  k; unfold bulletinlaw33_works.f
 repeat' first
   | (with_reducible exact roster_Member_Bounced.mono _ _ _ _ _ _ _ _ _ _ _)
   | (with_reducible exact roster_Member_Row.mono _ _ _ _ _ _ _ _ _)
   | (with_reducible exact roster_Read.mono _ _)
   | (with_reducible exact LeO.refl _)
   | (with_reducible exact LeO.none _)
   | (with_reducible refine LeO.ite ?_ ?_)
   | (with_reducible refine LeO.bind ?_ (fun _ => ?_))
   | exact roster_Member_Bounced.mono _ _ _ _ _ _ _ _ _ _ _
   | exact roster_Member_Row.mono _ _ _ _ _ _ _ _ _
   | exact roster_Read.mono _ _
   | exact LeO.none _
   | refine LeO.ite ?_ ?_
   | refine LeO.bind ?_ (fun _ => ?_)
set_option maxHeartbeats 8000000 in
set_option maxRecDepth 100000 in
theorem bulletinlaw33_works.callsT (k : Nat)  (r : Bool) (w : World) (hG : GlobT w) (h : bulletinlaw33_works.f k  = some r) (hT : r = true) :
  Calls Tryd.prog 5 #[] w fun e w' => e = .returned (.bool r) ∧ Below w.heap.size w w' := by
 have HT := Aside0.mk hT; clear hT; have hu27 := Tryd.underlying27; have hu29 := Tryd.underlying29; have HB := Aside0.mk (Below.refl w.heap.size w); have H : ((roster_New.f (⟨#[97]⟩ : ByteArray) (⟨#[98]⟩ : ByteArray) 1 7 9).bind fun bt310 => ((roster_Member_Bounced.f k bt310.1 bt310.2.1 bt310.2.2.1 bt310.2.2.2.1 bt310.2.2.2.2.1 bt310.2.2.2.2.2.1 bt310.2.2.2.2.2.2.1 bt310.2.2.2.2.2.2.2 5 2).bind fun bt319 => ((roster_Member_Bounced.f k bt319.1 bt319.2.1 bt319.2.2.1 bt319.2.2.2.1 bt319.2.2.2.2.1 bt319.2.2.2.2.2.1 bt319.2.2.2.2.2.2.1 bt319.2.2.2.2.2.2.2 5 2).bind fun bt327 => ((roster_Member_Bounced.f k bt327.1 bt327.2.1 bt327.2.2.1 bt327.2.2.2.1 bt327.2.2.2.2.1 bt327.2.2.2.2.2.1 bt327.2.2.2.2.2.2.1 bt327.2.2.2.2.2.2.2 6 2).bind fun bt336 => ((roster_Member_Row.f k bt336.1 bt336.2.1 bt336.2.2.1 bt336.2.2.2.1 bt336.2.2.2.2.1 bt336.2.2.2.2.2.1 bt336.2.2.2.2.2.2.1 bt336.2.2.2.2.2.2.2).bind fun t345 => ((roster_Read.f k t345).bind fun bt346 => ((roster_Member_Gets.f bt310.1 bt310.2.1 bt310.2.2.1 bt310.2.2.2.1 bt310.2.2.2.2.1 bt310.2.2.2.2.2.1 bt310.2.2.2.2.2.2.1 bt310.2.2.2.2.2.2.2 1).bind fun t356 => (if t356 = true then ((roster_Member_Gets.f bt310.1 bt310.2.1 bt310.2.2.1 bt310.2.2.2.1 bt310.2.2.2.2.1 bt310.2.2.2.2.2.1 bt310.2.2.2.2.2.2.1 bt310.2.2.2.2.2.2.2 2).bind fun t357 => (if t357 = true then (some false) else (if bt327.2.2.2.2.1 = 1 then (if bt327.2.2.2.1 = true then (some false) else (if bt336.2.2.2.2.1 = 2 then (if bt336.2.2.2.1 = true then (if bt346.2.2.2.2.2.2.2.2 = 0 then (some ((bt346.1.toList == bt336.1.toList && (bt346.2.1.toList == bt336.2.1.toList)) && (bt346.2.2.1 == bt336.2.2.1 && (bt346.2.2.2.1 == bt336.2.2.2.1 && (bt346.2.2.2.2.1 == bt336.2.2.2.2.1 && (bt346.2.2.2.2.2.1 == bt336.2.2.2.2.2.1 && (bt346.2.2.2.2.2.2.1 == bt336.2.2.2.2.2.2.1 && (bt346.2.2.2.2.2.2.2.1 == bt336.2.2.2.2.2.2.2)))))))) else (some false)) else (some false)) else (some false))) else (some false)))) else (some false))))))))) = some r := h; clear h; replace H := Option.bind_eq_some_iff.mp H; obtain ⟨⟨t310, t311, t312, t313, t314, t315, t316, t317⟩, A10, H⟩ := H; replace H : ((roster_Member_Bounced.f k t310 t311 t312 t313 t314 t315 t316 t317 5 2).bind fun bt319 => ((roster_Member_Bounced.f k bt319.1 bt319.2.1 bt319.2.2.1 bt319.2.2.2.1 bt319.2.2.2.2.1 bt319.2.2.2.2.2.1 bt319.2.2.2.2.2.2.1 bt319.2.2.2.2.2.2.2 5 2).bind fun bt327 => ((roster_Member_Bounced.f k bt327.1 bt327.2.1 bt327.2.2.1 bt327.2.2.2.1 bt327.2.2.2.2.1 bt327.2.2.2.2.2.1 bt327.2.2.2.2.2.2.1 bt327.2.2.2.2.2.2.2 6 2).bind fun bt336 => ((roster_Member_Row.f k bt336.1 bt336.2.1 bt336.2.2.1 bt336.2.2.2.1 bt336.2.2.2.2.1 bt336.2.2.2.2.2.1 bt336.2.2.2.2.2.2.1 bt336.2.2.2.2.2.2.2).bind fun t345 => ((roster_Read.f k t345).bind fun bt346 => ((roster_Member_Gets.f t310 t311 t312 t313 t314 t315 t316 t317 1).bind fun t356 => (if t356 = true then ((roster_Member_Gets.f t310 t311 t312 t313 t314 t315 t316 t317 2).bind fun t357 => (if t357 = true then (some false) else (if bt327.2.2.2.2.1 = 1 then (if bt327.2.2.2.1 = true then (some false) else (if bt336.2.2.2.2.1 = 2 then (if bt336.2.2.2.1 = true then (if bt346.2.2.2.2.2.2.2.2 = 0 then (some ((bt346.1.toList == bt336.1.toList && (bt346.2.1.toList == bt336.2.1.toList)) && (bt346.2.2.1 == bt336.2.2.1 && (bt346.2.2.2.1 == bt336.2.2.2.1 && (bt346.2.2.2.2.1 == bt336.2.2.2.2.1 && (bt346.2.2.2.2.2.1 == bt336.2.2.2.2.2.1 && (bt346.2.2.2.2.2.2.1 == bt336.2.2.2.2.2.2.1 && (bt346.2.2.2.2.2.2.2.1 == bt336.2.2.2.2.2.2.2)))))))) else (some false)) else (some false)) else (some false))) else (some false)))) else (some false)))))))) = some r := H; have A1 := Aside0.mk A10; clear A10; replace H := Option.bind_eq_some_iff.mp H; obtain ⟨⟨t319, t320, t321, t322, t323, t324, t325, t326⟩, A20, H⟩ := H; replace H : ((roster_Member_Bounced.f k t319 t320 t321 t322 t323 t324 t325 t326 5 2).bind fun bt327 => ((roster_Member_Bounced.f k bt327.1 bt327.2.1 bt327.2.2.1 bt327.2.2.2.1 bt327.2.2.2.2.1 bt327.2.2.2.2.2.1 bt327.2.2.2.2.2.2.1 bt327.2.2.2.2.2.2.2 6 2).bind fun bt336 => ((roster_Member_Row.f k bt336.1 bt336.2.1 bt336.2.2.1 bt336.2.2.2.1 bt336.2.2.2.2.1 bt336.2.2.2.2.2.1 bt336.2.2.2.2.2.2.1 bt336.2.2.2.2.2.2.2).bind fun t345 => ((roster_Read.f k t345).bind fun bt346 => ((roster_Member_Gets.f t310 t311 t312 t313 t314 t315 t316 t317 1).bind fun t356 => (if t356 = true then ((roster_Member_Gets.f t310 t311 t312 t313 t314 t315 t316 t317 2).bind fun t357 => (if t357 = true then (some false) else (if bt327.2.2.2.2.1 = 1 then (if bt327.2.2.2.1 = true then (some false) else (if bt336.2.2.2.2.1 = 2 then (if bt336.2.2.2.1 = true then (if bt346.2.2.2.2.2.2.2.2 = 0 then (some ((bt346.1.toList == bt336.1.toList && (bt346.2.1.toList == bt336.2.1.toList)) && (bt346.2.2.1 == bt336.2.2.1 && (bt346.2.2.2.1 == bt336.2.2.2.1 && (bt346.2.2.2.2.1 == bt336.2.2.2.2.1 && (bt346.2.2.2.2.2.1 == bt336.2.2.2.2.2.1 && (bt346.2.2.2.2.2.2.1 == bt336.2.2.2.2.2.2.1 && (bt346.2.2.2.2.2.2.2.1 == bt336.2.2.2.2.2.2.2)))))))) else (some false)) else (some false)) else (some false))) else (some false)))) else (some false))))))) = some r := H; have A2 := Aside0.mk A20; clear A20; replace H := Option.bind_eq_some_iff.mp H; obtain ⟨⟨t327, t328, t329, t330, t331, t332, t333, t334⟩, A30, H⟩ := H; replace H : ((roster_Member_Bounced.f k t327 t328 t329 t330 t331 t332 t333 t334 6 2).bind fun bt336 => ((roster_Member_Row.f k bt336.1 bt336.2.1 bt336.2.2.1 bt336.2.2.2.1 bt336.2.2.2.2.1 bt336.2.2.2.2.2.1 bt336.2.2.2.2.2.2.1 bt336.2.2.2.2.2.2.2).bind fun t345 => ((roster_Read.f k t345).bind fun bt346 => ((roster_Member_Gets.f t310 t311 t312 t313 t314 t315 t316 t317 1).bind fun t356 => (if t356 = true then ((roster_Member_Gets.f t310 t311 t312 t313 t314 t315 t316 t317 2).bind fun t357 => (if t357 = true then (some false) else (if t331 = 1 then (if t330 = true then (some false) else (if bt336.2.2.2.2.1 = 2 then (if bt336.2.2.2.1 = true then (if bt346.2.2.2.2.2.2.2.2 = 0 then (some ((bt346.1.toList == bt336.1.toList && (bt346.2.1.toList == bt336.2.1.toList)) && (bt346.2.2.1 == bt336.2.2.1 && (bt346.2.2.2.1 == bt336.2.2.2.1 && (bt346.2.2.2.2.1 == bt336.2.2.2.2.1 && (bt346.2.2.2.2.2.1 == bt336.2.2.2.2.2.1 && (bt346.2.2.2.2.2.2.1 == bt336.2.2.2.2.2.2.1 && (bt346.2.2.2.2.2.2.2.1 == bt336.2.2.2.2.2.2.2)))))))) else (some false)) else (some false)) else (some false))) else (some false)))) else (some false)))))) = some r := H; have A3 := Aside0.mk A30; clear A30; replace H := Option.bind_eq_some_iff.mp H; obtain ⟨⟨t336, t337, t338, t339, t340, t341, t342, t343⟩, A40, H⟩ := H; replace H : ((roster_Member_Row.f k t336 t337 t338 t339 t340 t341 t342 t343).bind fun t345 => ((roster_Read.f k t345).bind fun bt346 => ((roster_Member_Gets.f t310 t311 t312 t313 t314 t315 t316 t317 1).bind fun t356 => (if t356 = true then ((roster_Member_Gets.f t310 t311 t312 t313 t314 t315 t316 t317 2).bind fun t357 => (if t357 = true then (some false) else (if t331 = 1 then (if t330 = true then (some false) else (if t340 = 2 then (if t339 = true then (if bt346.2.2.2.2.2.2.2.2 = 0 then (some ((bt346.1.toList == t336.toList && (bt346.2.1.toList == t337.toList)) && (bt346.2.2.1 == t338 && (bt346.2.2.2.1 == t339 && (bt346.2.2.2.2.1 == t340 && (bt346.2.2.2.2.2.1 == t341 && (bt346.2.2.2.2.2.2.1 == t342 && (bt346.2.2.2.2.2.2.2.1 == t343)))))))) else (some false)) else (some false)) else (some false))) else (some false)))) else (some false))))) = some r := H; have A4 := Aside0.mk A40; clear A40; replace H := Option.bind_eq_some_iff.mp H; obtain ⟨t345, A50, H⟩ := H; replace H : ((roster_Read.f k t345).bind fun bt346 => ((roster_Member_Gets.f t310 t311 t312 t313 t314 t315 t316 t317 1).bind fun t356 => (if t356 = true then ((roster_Member_Gets.f t310 t311 t312 t313 t314 t315 t316 t317 2).bind fun t357 => (if t357 = true then (some false) else (if t331 = 1 then (if t330 = true then (some false) else (if t340 = 2 then (if t339 = true then (if bt346.2.2.2.2.2.2.2.2 = 0 then (some ((bt346.1.toList == t336.toList && (bt346.2.1.toList == t337.toList)) && (bt346.2.2.1 == t338 && (bt346.2.2.2.1 == t339 && (bt346.2.2.2.2.1 == t340 && (bt346.2.2.2.2.2.1 == t341 && (bt346.2.2.2.2.2.2.1 == t342 && (bt346.2.2.2.2.2.2.2.1 == t343)))))))) else (some false)) else (some false)) else (some false))) else (some false)))) else (some false)))) = some r := H; have A5 := Aside0.mk A50; clear A50; replace H := Option.bind_eq_some_iff.mp H; obtain ⟨⟨t346, t347, t348, t349, t350, t351, t352, t353, t354⟩, A60, H⟩ := H; replace H : ((roster_Member_Gets.f t310 t311 t312 t313 t314 t315 t316 t317 1).bind fun t356 => (if t356 = true then ((roster_Member_Gets.f t310 t311 t312 t313 t314 t315 t316 t317 2).bind fun t357 => (if t357 = true then (some false) else (if t331 = 1 then (if t330 = true then (some false) else (if t340 = 2 then (if t339 = true then (if t354 = 0 then (some ((t346.toList == t336.toList && (t347.toList == t337.toList)) && (t348 == t338 && (t349 == t339 && (t350 == t340 && (t351 == t341 && (t352 == t342 && (t353 == t343)))))))) else (some false)) else (some false)) else (some false))) else (some false)))) else (some false))) = some r := H; have A6 := Aside0.mk A60; clear A60; replace H := Option.bind_eq_some_iff.mp H; obtain ⟨t356, A70, H⟩ := H; replace H : (if t356 = true then ((roster_Member_Gets.f t310 t311 t312 t313 t314 t315 t316 t317 2).bind fun t357 => (if t357 = true then (some false) else (if t331 = 1 then (if t330 = true then (some false) else (if t340 = 2 then (if t339 = true then (if t354 = 0 then (some ((t346.toList == t336.toList && (t347.toList == t337.toList)) && (t348 == t338 && (t349 == t339 && (t350 == t340 && (t351 == t341 && (t352 == t342 && (t353 == t343)))))))) else (some false)) else (some false)) else (some false))) else (some false)))) else (some false)) = some r := H; have A7 := Aside0.mk A70; clear A70
 by_cases c8 : t356 = true
 ·subst c8; have H1 : ((roster_Member_Gets.f t310 t311 t312 t313 t314 t315 t316 t317 2).bind fun t357 => (if t357 = true then (some false) else (if t331 = 1 then (if t330 = true then (some false) else (if t340 = 2 then (if t339 = true then (if t354 = 0 then (some ((t346.toList == t336.toList && (t347.toList == t337.toList)) && (t348 == t338 && (t349 == t339 && (t350 == t340 && (t351 == t341 && (t352 == t342 && (t353 == t343)))))))) else (some false)) else (some false)) else (some false))) else (some false)))) = some r := by rw [if_pos rfl] at H; exact H
  clear H; have H := H1; clear H1; replace H := Option.bind_eq_some_iff.mp H; obtain ⟨t357, A90, H⟩ := H; replace H : (if t357 = true then (some false) else (if t331 = 1 then (if t330 = true then (some false) else (if t340 = 2 then (if t339 = true then (if t354 = 0 then (some ((t346.toList == t336.toList && (t347.toList == t337.toList)) && (t348 == t338 && (t349 == t339 && (t350 == t340 && (t351 == t341 && (t352 == t342 && (t353 == t343)))))))) else (some false)) else (some false)) else (some false))) else (some false))) = some r := H; have A9 := Aside0.mk A90; clear A90
  by_cases c10 : t357 = true
  ·subst c10; have H1 : (some false) = some r := by rw [if_pos rfl] at H; exact H
   clear H; have H := H1; clear H1; obtain rfl := Option.some.inj H; exact absurd HT.out (by decide)
  ·replace c10 := Bool.eq_false_iff.mpr c10; subst c10; have H1 : (if t331 = 1 then (if t330 = true then (some false) else (if t340 = 2 then (if t339 = true then (if t354 = 0 then (some ((t346.toList == t336.toList && (t347.toList == t337.toList)) && (t348 == t338 && (t349 == t339 && (t350 == t340 && (t351 == t341 && (t352 == t342 && (t353 == t343)))))))) else (some false)) else (some false)) else (some false))) else (some false)) = some r := by rw [if_neg (show ¬ (false = true) by decide)] at H; exact H
   clear H; have H := H1; clear H1
   by_cases c35 : t331 = 1
   ·rw [if_pos c35] at H; have c35b0 : (t331 == 1) = true := beq_iff_eq.mpr c35; have c35b1 : (t331 != 1) = false := bne_eq_false_iff_eq.mpr c35; clear c35
    by_cases c36 : t330 = true
    ·subst c36; have H1 : (some false) = some r := by rw [if_pos rfl] at H; exact H
     clear H; have H := H1; clear H1; obtain rfl := Option.some.inj H; exact absurd HT.out (by decide)
    ·replace c36 := Bool.eq_false_iff.mpr c36; subst c36; have H1 : (if t340 = 2 then (if t339 = true then (if t354 = 0 then (some ((t346.toList == t336.toList && (t347.toList == t337.toList)) && (t348 == t338 && (t349 == t339 && (t350 == t340 && (t351 == t341 && (t352 == t342 && (t353 == t343)))))))) else (some false)) else (some false)) else (some false)) = some r := by rw [if_neg (show ¬ (false = true) by decide)] at H; exact H
     clear H; have H := H1; clear H1
     by_cases c62 : t340 = 2
     ·rw [if_pos c62] at H; have c62b0 : (t340 == 2) = true := beq_iff_eq.mpr c62; have c62b1 : (t340 != 2) = false := bne_eq_false_iff_eq.mpr c62; clear c62
      by_cases c63 : t339 = true
      ·subst c63; have H1 : (if t354 = 0 then (some ((t346.toList == t336.toList && (t347.toList == t337.toList)) && (t348 == t338 && (t349 == true && (t350 == t340 && (t351 == t341 && (t352 == t342 && (t353 == t343)))))))) else (some false)) = some r := by rw [if_pos rfl] at H; exact H
       clear H; have H := H1; clear H1
       by_cases c64 : t354 = 0
       ·rw [if_pos c64] at H; have c64b0 : (t354 == 0) = true := beq_iff_eq.mpr c64; have c64b1 : (t354 != 0) = false := bne_eq_false_iff_eq.mpr c64; clear c64; obtain rfl := Option.some.inj H
        go_enter Tryd.func5, Tryd.ntmps5
        go_wp2_with (first | ((with_reducible refine gate_callee (f := 13) rfl ?_); refine goesL_ (some 7) rfl rfl Tryd.func13 (by kernel_rfl) rfl #[.agg #[.string (⟨#[97]⟩ : ByteArray), .string (⟨#[98]⟩ : ByteArray)], .int .i64 1, .int .i64 7, .int .i64 9] rfl am ?_; (with_reducible refine (roster_New.calls (⟨#[97]⟩ : ByteArray) (⟨#[98]⟩ : ByteArray) 1 7 9 t310 t311 t312 t313 t314 t315 t316 t317 _ A1.out).mono ?_); rintro e w65 ⟨rfl, hb⟩; refine ⟨_, rfl, ?_⟩; have n0_ := Aside0.mk (below_step bw hb); clear HB; have HB := n0_; clear n0_; (try clear hb); (try clear hb2); (try clear hk); (try clear hi)) | ((with_reducible refine gate_dst (N := 1) rfl ?_); refine box_event ?hg (N := 1) ?hd (cs := #[.string (⟨#[]⟩ : ByteArray), .string (⟨#[]⟩ : ByteArray), .int .i64 0, .bool false, .int .i64 0, .int .i64 0, .int .i64 0, .int .i64 0]) (t := 29) ?hr ?_; (case hd => rfl); (case hg => rfl); (case hr => first | (go_simp; done) | (go_simp; rfl)); intro gb318 hg w66 hbox hb; have n0_ := Aside0.mk (below_step bw hb); have n1_ := Aside0.mk (hbox); have n2_ := Aside0.mk ((by rw [hg]; exact (below_size bw) : w.heap.size ≤ gb318)); have n3_ := Aside0.mk ((by rw [hg]; exact (below_size bw) : w.heap.size ≤ gb318)); clear HB; have HB := n0_; have BK318 := n1_; have GW318 := n2_; have GE318 := n3_; clear n0_ n1_ n2_ n3_; clear hb hbox hg; have hcz67_0 : w66.cell? ⟨gb318, 0, none⟩ = some (.string (⟨#[]⟩ : ByteArray)) := (blk_cell BK318.out 0).trans rfl; have hcz67_1 : w66.cell? ⟨gb318, 1, none⟩ = some (.string (⟨#[]⟩ : ByteArray)) := (blk_cell BK318.out 1).trans rfl; have hcz67_2 : w66.cell? ⟨gb318, 2, none⟩ = some (.int .i64 0) := (blk_cell BK318.out 2).trans rfl; have hcz67_3 : w66.cell? ⟨gb318, 3, none⟩ = some (.bool false) := (blk_cell BK318.out 3).trans rfl; have hcz67_4 : w66.cell? ⟨gb318, 4, none⟩ = some (.int .i64 0) := (blk_cell BK318.out 4).trans rfl; have hcz67_5 : w66.cell? ⟨gb318, 5, none⟩ = some (.int .i64 0) := (blk_cell BK318.out 5).trans rfl; have hcz67_6 : w66.cell? ⟨gb318, 6, none⟩ = some (.int .i64 0) := (blk_cell BK318.out 6).trans rfl; have hcz67_7 : w66.cell? ⟨gb318, 7, none⟩ = some (.int .i64 0) := (blk_cell BK318.out 7).trans rfl; have hfz67_0 := blk_frozen BK318.out 0; have hfz67_1 := blk_frozen BK318.out 1; have hfz67_2 := blk_frozen BK318.out 2; have hfz67_3 := blk_frozen BK318.out 3; have hfz67_4 := blk_frozen BK318.out 4; have hfz67_5 := blk_frozen BK318.out 5; have hfz67_6 := blk_frozen BK318.out 6; have hfz67_7 := blk_frozen BK318.out 7) | ((with_reducible refine gate_callee (f := 10) rfl ?_); refine goesL_ (some 9) rfl rfl Tryd.func10 (by kernel_rfl) rfl #[.agg #[.string t310, .string t311, .int .i64 t312, .bool t313, .int .i64 t314, .int .i64 t315, .int .i64 t316, .int .i64 t317], .int .i64 5, .int .i64 2] rfl am ?_; (with_reducible refine (roster_Member_Bounced.calls k t310 t311 t312 t313 t314 t315 t316 t317 5 2 t319 t320 t321 t322 t323 t324 t325 t326 _ A2.out).mono ?_); rintro e w68 ⟨rfl, hb⟩; refine ⟨_, rfl, ?_⟩; have n0_ := Aside0.mk (blk_below (g := gb318) (o := .cells #[.string t310, .string t311, .int .i64 t312, .bool t313, .int .i64 t314, .int .i64 t315, .int .i64 t316, .int .i64 t317] 29 (0, 0)) (by (with_reducible repeat (first | refine blk_drewN ?_ _ | refine blk_drew ?_ | refine blk_alloc ?_ _)); refine blk_put (cs := #[.string t310, .string t311, .int .i64 t312, .bool t313, .int .i64 t314, .int .i64 t315, .int .i64 t316, .int .i64 0]) ?_ 7 _ rfl; (with_reducible repeat (first | refine blk_drewN ?_ _ | refine blk_drew ?_ | refine blk_alloc ?_ _)); refine blk_put (cs := #[.string t310, .string t311, .int .i64 t312, .bool t313, .int .i64 t314, .int .i64 t315, .int .i64 0, .int .i64 0]) ?_ 6 _ rfl; (with_reducible repeat (first | refine blk_drewN ?_ _ | refine blk_drew ?_ | refine blk_alloc ?_ _)); refine blk_put (cs := #[.string t310, .string t311, .int .i64 t312, .bool t313, .int .i64 t314, .int .i64 0, .int .i64 0, .int .i64 0]) ?_ 5 _ rfl; (with_reducible repeat (first | refine blk_drewN ?_ _ | refine blk_drew ?_ | refine blk_alloc ?_ _)); refine blk_put (cs := #[.string t310, .string t311, .int .i64 t312, .bool t313, .int .i64 0, .int .i64 0, .int .i64 0, .int .i64 0]) ?_ 4 _ rfl; (with_reducible repeat (first | refine blk_drewN ?_ _ | refine blk_drew ?_ | refine blk_alloc ?_ _)); refine blk_put (cs := #[.string t310, .string t311, .int .i64 t312, .bool false, .int .i64 0, .int .i64 0, .int .i64 0, .int .i64 0]) ?_ 3 _ rfl; (with_reducible repeat (first | refine blk_drewN ?_ _ | refine blk_drew ?_ | refine blk_alloc ?_ _)); refine blk_put (cs := #[.string t310, .string t311, .int .i64 0, .bool false, .int .i64 0, .int .i64 0, .int .i64 0, .int .i64 0]) ?_ 2 _ rfl; (with_reducible repeat (first | refine blk_drewN ?_ _ | refine blk_drew ?_ | refine blk_alloc ?_ _)); refine blk_put (cs := #[.string t310, .string (⟨#[]⟩ : ByteArray), .int .i64 0, .bool false, .int .i64 0, .int .i64 0, .int .i64 0, .int .i64 0]) ?_ 1 _ rfl; (with_reducible repeat (first | refine blk_drewN ?_ _ | refine blk_drew ?_ | refine blk_alloc ?_ _)); exact blk_put (cs := #[.string (⟨#[]⟩ : ByteArray), .string (⟨#[]⟩ : ByteArray), .int .i64 0, .bool false, .int .i64 0, .int .i64 0, .int .i64 0, .int .i64 0]) bk 0 _ rfl) hb); have n1_ := Aside0.mk (below_step bwS hb); clear BK318; clear HB; have BK318 := n0_; have HB := n1_; clear n0_ n1_; (try clear hb); (try clear hb2); (try clear hk); (try clear hi)) | ((with_reducible refine gate_callee (f := 10) rfl ?_); refine goesL_ (some 10) rfl rfl Tryd.func10 (by kernel_rfl) rfl #[.agg #[.string t319, .string t320, .int .i64 t321, .bool t322, .int .i64 t323, .int .i64 t324, .int .i64 t325, .int .i64 t326], .int .i64 5, .int .i64 2] rfl am ?_; (with_reducible refine (roster_Member_Bounced.calls k t319 t320 t321 t322 t323 t324 t325 t326 5 2 t327 t328 t329 false t331 t332 t333 t334 _ A3.out).mono ?_); rintro e w69 ⟨rfl, hb⟩; refine ⟨_, rfl, ?_⟩; have n0_ := Aside0.mk (blk_below (g := gb318) (o := .cells #[.string t310, .string t311, .int .i64 t312, .bool t313, .int .i64 t314, .int .i64 t315, .int .i64 t316, .int .i64 t317] 29 (0, 0)) bk hb); have n1_ := Aside0.mk (below_step bwS hb); clear BK318; clear HB; have BK318 := n0_; have HB := n1_; clear n0_ n1_; (try clear hb); (try clear hb2); (try clear hk); (try clear hi)) | ((with_reducible refine gate_dst (N := 2) rfl ?_); refine box_event ?hg (N := 2) ?hd (cs := #[.string (⟨#[]⟩ : ByteArray), .string (⟨#[]⟩ : ByteArray), .int .i64 0, .bool false, .int .i64 0, .int .i64 0, .int .i64 0, .int .i64 0]) (t := 29) ?hr ?_; (case hd => rfl); (case hg => rfl); (case hr => first | (go_simp; done) | (go_simp; rfl)); intro gb335 hg w70 hbox hb; have n0_ := Aside0.mk (blk_below (g := gb318) (o := .cells #[.string t310, .string t311, .int .i64 t312, .bool t313, .int .i64 t314, .int .i64 t315, .int .i64 t316, .int .i64 t317] 29 (0, 0)) bk hb); have n1_ := Aside0.mk (below_step bwS hb); have n2_ := Aside0.mk (hbox); have n3_ := Aside0.mk ((by rw [hg]; exact (below_size bwS) : w.heap.size ≤ gb335)); have n4_ := Aside0.mk ((by rw [hg]; exact (below_size bwS) : w.heap.size ≤ gb335)); have n5_ := Aside0.mk ((by rw [hg]; exact Nat.ne_of_lt (blk_lt (g := gb318) (o := .cells #[.string t310, .string t311, .int .i64 t312, .bool t313, .int .i64 t314, .int .i64 t315, .int .i64 t316, .int .i64 t317] 29 (0, 0)) bk) : gb318 ≠ gb335)); have n6_ := Aside0.mk ((by rw [hg]; exact Nat.ne_of_gt (blk_lt (g := gb318) (o := .cells #[.string t310, .string t311, .int .i64 t312, .bool t313, .int .i64 t314, .int .i64 t315, .int .i64 t316, .int .i64 t317] 29 (0, 0)) bk) : gb335 ≠ gb318)); clear BK318; clear HB; have BK318 := n0_; have HB := n1_; have BK335 := n2_; have GW335 := n3_; have GE335 := n4_; have NB318_335 := n5_; have NB335_318 := n6_; clear n0_ n1_ n2_ n3_ n4_ n5_ n6_; clear hb hbox hg; have hnb71 := NB335_318.out; have hnc71 := NB318_335.out; have hcz72_0 : w70.cell? ⟨gb335, 0, none⟩ = some (.string (⟨#[]⟩ : ByteArray)) := (blk_cell BK335.out 0).trans rfl; have hcz72_1 : w70.cell? ⟨gb335, 1, none⟩ = some (.string (⟨#[]⟩ : ByteArray)) := (blk_cell BK335.out 1).trans rfl; have hcz72_2 : w70.cell? ⟨gb335, 2, none⟩ = some (.int .i64 0) := (blk_cell BK335.out 2).trans rfl; have hcz72_3 : w70.cell? ⟨gb335, 3, none⟩ = some (.bool false) := (blk_cell BK335.out 3).trans rfl; have hcz72_4 : w70.cell? ⟨gb335, 4, none⟩ = some (.int .i64 0) := (blk_cell BK335.out 4).trans rfl; have hcz72_5 : w70.cell? ⟨gb335, 5, none⟩ = some (.int .i64 0) := (blk_cell BK335.out 5).trans rfl; have hcz72_6 : w70.cell? ⟨gb335, 6, none⟩ = some (.int .i64 0) := (blk_cell BK335.out 6).trans rfl; have hcz72_7 : w70.cell? ⟨gb335, 7, none⟩ = some (.int .i64 0) := (blk_cell BK335.out 7).trans rfl; have hfz72_0 := blk_frozen BK335.out 0; have hfz72_1 := blk_frozen BK335.out 1; have hfz72_2 := blk_frozen BK335.out 2; have hfz72_3 := blk_frozen BK335.out 3; have hfz72_4 := blk_frozen BK335.out 4; have hfz72_5 := blk_frozen BK335.out 5; have hfz72_6 := blk_frozen BK335.out 6; have hfz72_7 := blk_frozen BK335.out 7) | ((with_reducible refine gate_callee (f := 10) rfl ?_); refine goesL_ (some 12) rfl rfl Tryd.func10 (by kernel_rfl) rfl #[.agg #[.string t327, .string t328, .int .i64 t329, .bool false, .int .i64 t331, .int .i64 t332, .int .i64 t333, .int .i64 t334], .int .i64 6, .int .i64 2] rfl am ?_; (with_reducible refine (roster_Member_Bounced.calls k t327 t328 t329 false t331 t332 t333 t334 6 2 t336 t337 t338 true t340 t341 t342 t343 _ A4.out).mono ?_); rintro e w73 ⟨rfl, hb⟩; refine ⟨_, rfl, ?_⟩; have n0_ := Aside0.mk (blk_below (g := gb318) (o := .cells #[.string t310, .string t311, .int .i64 t312, .bool t313, .int .i64 t314, .int .i64 t315, .int .i64 t316, .int .i64 t317] 29 (0, 0)) (by (with_reducible repeat (first | refine blk_drewN ?_ _ | refine blk_drew ?_ | refine blk_alloc ?_ _)); refine blk_far ?_ NB318_335.out _; (with_reducible repeat (first | refine blk_drewN ?_ _ | refine blk_drew ?_ | refine blk_alloc ?_ _)); refine blk_far ?_ NB318_335.out _; (with_reducible repeat (first | refine blk_drewN ?_ _ | refine blk_drew ?_ | refine blk_alloc ?_ _)); refine blk_far ?_ NB318_335.out _; (with_reducible repeat (first | refine blk_drewN ?_ _ | refine blk_drew ?_ | refine blk_alloc ?_ _)); refine blk_far ?_ NB318_335.out _; (with_reducible repeat (first | refine blk_drewN ?_ _ | refine blk_drew ?_ | refine blk_alloc ?_ _)); refine blk_far ?_ NB318_335.out _; (with_reducible repeat (first | refine blk_drewN ?_ _ | refine blk_drew ?_ | refine blk_alloc ?_ _)); refine blk_far ?_ NB318_335.out _; (with_reducible repeat (first | refine blk_drewN ?_ _ | refine blk_drew ?_ | refine blk_alloc ?_ _)); refine blk_far ?_ NB318_335.out _; (with_reducible repeat (first | refine blk_drewN ?_ _ | refine blk_drew ?_ | refine blk_alloc ?_ _)); refine blk_far ?_ NB318_335.out _; (with_reducible repeat (first | refine blk_drewN ?_ _ | refine blk_drew ?_ | refine blk_alloc ?_ _)); exact BK318.out) hb); have n1_ := Aside0.mk (blk_below (g := gb335) (o := .cells #[.string t327, .string t328, .int .i64 t329, .bool false, .int .i64 t331, .int .i64 t332, .int .i64 t333, .int .i64 t334] 29 (0, 0)) (by (with_reducible repeat (first | refine blk_drewN ?_ _ | refine blk_drew ?_ | refine blk_alloc ?_ _)); refine blk_put (cs := #[.string t327, .string t328, .int .i64 t329, .bool false, .int .i64 t331, .int .i64 t332, .int .i64 t333, .int .i64 0]) ?_ 7 _ rfl; (with_reducible repeat (first | refine blk_drewN ?_ _ | refine blk_drew ?_ | refine blk_alloc ?_ _)); refine blk_put (cs := #[.string t327, .string t328, .int .i64 t329, .bool false, .int .i64 t331, .int .i64 t332, .int .i64 0, .int .i64 0]) ?_ 6 _ rfl; (with_reducible repeat (first | refine blk_drewN ?_ _ | refine blk_drew ?_ | refine blk_alloc ?_ _)); refine blk_put (cs := #[.string t327, .string t328, .int .i64 t329, .bool false, .int .i64 t331, .int .i64 0, .int .i64 0, .int .i64 0]) ?_ 5 _ rfl; (with_reducible repeat (first | refine blk_drewN ?_ _ | refine blk_drew ?_ | refine blk_alloc ?_ _)); refine blk_put (cs := #[.string t327, .string t328, .int .i64 t329, .bool false, .int .i64 0, .int .i64 0, .int .i64 0, .int .i64 0]) ?_ 4 _ rfl; (with_reducible repeat (first | refine blk_drewN ?_ _ | refine blk_drew ?_ | refine blk_alloc ?_ _)); refine blk_put (cs := #[.string t327, .string t328, .int .i64 t329, .bool false, .int .i64 0, .int .i64 0, .int .i64 0, .int .i64 0]) ?_ 3 _ rfl; (with_reducible repeat (first | refine blk_drewN ?_ _ | refine blk_drew ?_ | refine blk_alloc ?_ _)); refine blk_put (cs := #[.string t327, .string t328, .int .i64 0, .bool false, .int .i64 0, .int .i64 0, .int .i64 0, .int .i64 0]) ?_ 2 _ rfl; (with_reducible repeat (first | refine blk_drewN ?_ _ | refine blk_drew ?_ | refine blk_alloc ?_ _)); refine blk_put (cs := #[.string t327, .string (⟨#[]⟩ : ByteArray), .int .i64 0, .bool false, .int .i64 0, .int .i64 0, .int .i64 0, .int .i64 0]) ?_ 1 _ rfl; (with_reducible repeat (first | refine blk_drewN ?_ _ | refine blk_drew ?_ | refine blk_alloc ?_ _)); exact blk_put (cs := #[.string (⟨#[]⟩ : ByteArray), .string (⟨#[]⟩ : ByteArray), .int .i64 0, .bool false, .int .i64 0, .int .i64 0, .int .i64 0, .int .i64 0]) bk 0 _ rfl) hb); have n2_ := Aside0.mk (below_step bwS hb); clear BK318; clear BK335; clear HB; have BK318 := n0_; have BK335 := n1_; have HB := n2_; clear n0_ n1_ n2_; (try clear hb); (try clear hb2); (try clear hk); (try clear hi)) | ((with_reducible refine gate_dst (N := 3) rfl ?_); refine box_event ?hg (N := 3) ?hd (cs := #[.string (⟨#[]⟩ : ByteArray), .string (⟨#[]⟩ : ByteArray), .int .i64 0, .bool false, .int .i64 0, .int .i64 0, .int .i64 0, .int .i64 0]) (t := 29) ?hr ?_; (case hd => rfl); (case hg => rfl); (case hr => first | (go_simp; done) | (go_simp; rfl)); intro gb344 hg w74 hbox hb; have n0_ := Aside0.mk (blk_below (g := gb318) (o := .cells #[.string t310, .string t311, .int .i64 t312, .bool t313, .int .i64 t314, .int .i64 t315, .int .i64 t316, .int .i64 t317] 29 (0, 0)) bk hb); have n1_ := Aside0.mk (blk_below (g := gb335) (o := .cells #[.string t327, .string t328, .int .i64 t329, .bool false, .int .i64 t331, .int .i64 t332, .int .i64 t333, .int .i64 t334] 29 (0, 0)) bk hb); have n2_ := Aside0.mk (below_step bwS hb); have n3_ := Aside0.mk (hbox); have n4_ := Aside0.mk ((by rw [hg]; exact (below_size bwS) : w.heap.size ≤ gb344)); have n5_ := Aside0.mk ((by rw [hg]; exact (below_size bwS) : w.heap.size ≤ gb344)); have n6_ := Aside0.mk ((by rw [hg]; exact Nat.ne_of_lt (blk_lt (g := gb318) (o := .cells #[.string t310, .string t311, .int .i64 t312, .bool t313, .int .i64 t314, .int .i64 t315, .int .i64 t316, .int .i64 t317] 29 (0, 0)) bk) : gb318 ≠ gb344)); have n7_ := Aside0.mk ((by rw [hg]; exact Nat.ne_of_gt (blk_lt (g := gb318) (o := .cells #[.string t310, .string t311, .int .i64 t312, .bool t313, .int .i64 t314, .int .i64 t315, .int .i64 t316, .int .i64 t317] 29 (0, 0)) bk) : gb344 ≠ gb318)); have n8_ := Aside0.mk ((by rw [hg]; exact Nat.ne_of_lt (blk_lt (g := gb335) (o := .cells #[.string t327, .string t328, .int .i64 t329, .bool false, .int .i64 t331, .int .i64 t332, .int .i64 t333, .int .i64 t334] 29 (0, 0)) bk) : gb335 ≠ gb344)); have n9_ := Aside0.mk ((by rw [hg]; exact Nat.ne_of_gt (blk_lt (g := gb335) (o := .cells #[.string t327, .string t328, .int .i64 t329, .bool false, .int .i64 t331, .int .i64 t332, .int .i64 t333, .int .i64 t334] 29 (0, 0)) bk) : gb344 ≠ gb335)); clear BK318; clear BK335; clear HB; have BK318 := n0_; have BK335 := n1_; have HB := n2_; have BK344 := n3_; have GW344 := n4_; have GE344 := n5_; have NB318_344 := n6_; have NB344_318 := n7_; have NB335_344 := n8_; have NB344_335 := n9_; clear n0_ n1_ n2_ n3_ n4_ n5_ n6_ n7_ n8_ n9_; clear hb hbox hg; have hnb75 := NB344_318.out; have hnc75 := NB318_344.out; have hnb76 := NB344_335.out; have hnc76 := NB335_344.out; have hcz77_0 : w74.cell? ⟨gb344, 0, none⟩ = some (.string (⟨#[]⟩ : ByteArray)) := (blk_cell BK344.out 0).trans rfl; have hcz77_1 : w74.cell? ⟨gb344, 1, none⟩ = some (.string (⟨#[]⟩ : ByteArray)) := (blk_cell BK344.out 1).trans rfl; have hcz77_2 : w74.cell? ⟨gb344, 2, none⟩ = some (.int .i64 0) := (blk_cell BK344.out 2).trans rfl; have hcz77_3 : w74.cell? ⟨gb344, 3, none⟩ = some (.bool false) := (blk_cell BK344.out 3).trans rfl; have hcz77_4 : w74.cell? ⟨gb344, 4, none⟩ = some (.int .i64 0) := (blk_cell BK344.out 4).trans rfl; have hcz77_5 : w74.cell? ⟨gb344, 5, none⟩ = some (.int .i64 0) := (blk_cell BK344.out 5).trans rfl; have hcz77_6 : w74.cell? ⟨gb344, 6, none⟩ = some (.int .i64 0) := (blk_cell BK344.out 6).trans rfl; have hcz77_7 : w74.cell? ⟨gb344, 7, none⟩ = some (.int .i64 0) := (blk_cell BK344.out 7).trans rfl; have hfz77_0 := blk_frozen BK344.out 0; have hfz77_1 := blk_frozen BK344.out 1; have hfz77_2 := blk_frozen BK344.out 2; have hfz77_3 := blk_frozen BK344.out 3; have hfz77_4 := blk_frozen BK344.out 4; have hfz77_5 := blk_frozen BK344.out 5; have hfz77_6 := blk_frozen BK344.out 6; have hfz77_7 := blk_frozen BK344.out 7) | ((with_reducible refine gate_callee (f := 8) rfl ?_); refine goesL_ (some 15) rfl rfl Tryd.func8 (by kernel_rfl) rfl #[.agg #[.string t336, .string t337, .int .i64 t338, .bool true, .int .i64 t340, .int .i64 t341, .int .i64 t342, .int .i64 t343]] rfl am ?_; (with_reducible refine (roster_Member_Row.calls (hG := by first | exact hG | exact GlobT.below hG (by first | exact HB.out | (repeat (first | (with_reducible first | exact HB.out | apply below_alloc | apply pw_below_drewN | apply below_drew1 | refine below_set ?_ GE318.out | refine below_set ?_ GE335.out | refine below_set ?_ GE344.out | refine below_set ?_ GE355.out) | exact HB.out))) | exact GlobT.drawn hG (d0)) k t336 t337 t338 true t340 t341 t342 t343 t345 _ A5.out).mono ?_); rintro e w78 ⟨rfl, hb⟩; refine ⟨_, rfl, ?_⟩; have n0_ := Aside0.mk (blk_below (g := gb318) (o := .cells #[.string t310, .string t311, .int .i64 t312, .bool t313, .int .i64 t314, .int .i64 t315, .int .i64 t316, .int .i64 t317] 29 (0, 0)) (by (with_reducible repeat (first | refine blk_drewN ?_ _ | refine blk_drew ?_ | refine blk_alloc ?_ _)); refine blk_far ?_ NB318_344.out _; (with_reducible repeat (first | refine blk_drewN ?_ _ | refine blk_drew ?_ | refine blk_alloc ?_ _)); refine blk_far ?_ NB318_344.out _; (with_reducible repeat (first | refine blk_drewN ?_ _ | refine blk_drew ?_ | refine blk_alloc ?_ _)); refine blk_far ?_ NB318_344.out _; (with_reducible repeat (first | refine blk_drewN ?_ _ | refine blk_drew ?_ | refine blk_alloc ?_ _)); refine blk_far ?_ NB318_344.out _; (with_reducible repeat (first | refine blk_drewN ?_ _ | refine blk_drew ?_ | refine blk_alloc ?_ _)); refine blk_far ?_ NB318_344.out _; (with_reducible repeat (first | refine blk_drewN ?_ _ | refine blk_drew ?_ | refine blk_alloc ?_ _)); refine blk_far ?_ NB318_344.out _; (with_reducible repeat (first | refine blk_drewN ?_ _ | refine blk_drew ?_ | refine blk_alloc ?_ _)); refine blk_far ?_ NB318_344.out _; (with_reducible repeat (first | refine blk_drewN ?_ _ | refine blk_drew ?_ | refine blk_alloc ?_ _)); refine blk_far ?_ NB318_344.out _; (with_reducible repeat (first | refine blk_drewN ?_ _ | refine blk_drew ?_ | refine blk_alloc ?_ _)); exact BK318.out) hb); have n1_ := Aside0.mk (blk_below (g := gb335) (o := .cells #[.string t327, .string t328, .int .i64 t329, .bool false, .int .i64 t331, .int .i64 t332, .int .i64 t333, .int .i64 t334] 29 (0, 0)) (by (with_reducible repeat (first | refine blk_drewN ?_ _ | refine blk_drew ?_ | refine blk_alloc ?_ _)); refine blk_far ?_ NB335_344.out _; (with_reducible repeat (first | refine blk_drewN ?_ _ | refine blk_drew ?_ | refine blk_alloc ?_ _)); refine blk_far ?_ NB335_344.out _; (with_reducible repeat (first | refine blk_drewN ?_ _ | refine blk_drew ?_ | refine blk_alloc ?_ _)); refine blk_far ?_ NB335_344.out _; (with_reducible repeat (first | refine blk_drewN ?_ _ | refine blk_drew ?_ | refine blk_alloc ?_ _)); refine blk_far ?_ NB335_344.out _; (with_reducible repeat (first | refine blk_drewN ?_ _ | refine blk_drew ?_ | refine blk_alloc ?_ _)); refine blk_far ?_ NB335_344.out _; (with_reducible repeat (first | refine blk_drewN ?_ _ | refine blk_drew ?_ | refine blk_alloc ?_ _)); refine blk_far ?_ NB335_344.out _; (with_reducible repeat (first | refine blk_drewN ?_ _ | refine blk_drew ?_ | refine blk_alloc ?_ _)); refine blk_far ?_ NB335_344.out _; (with_reducible repeat (first | refine blk_drewN ?_ _ | refine blk_drew ?_ | refine blk_alloc ?_ _)); refine blk_far ?_ NB335_344.out _; (with_reducible repeat (first | refine blk_drewN ?_ _ | refine blk_drew ?_ | refine blk_alloc ?_ _)); exact BK335.out) hb); have n2_ := Aside0.mk (blk_below (g := gb344) (o := .cells #[.string t336, .string t337, .int .i64 t338, .bool true, .int .i64 t340, .int .i64 t341, .int .i64 t342, .int .i64 t343] 29 (0, 0)) (by (with_reducible repeat (first | refine blk_drewN ?_ _ | refine blk_drew ?_ | refine blk_alloc ?_ _)); refine blk_put (cs := #[.string t336, .string t337, .int .i64 t338, .bool true, .int .i64 t340, .int .i64 t341, .int .i64 t342, .int .i64 0]) ?_ 7 _ rfl; (with_reducible repeat (first | refine blk_drewN ?_ _ | refine blk_drew ?_ | refine blk_alloc ?_ _)); refine blk_put (cs := #[.string t336, .string t337, .int .i64 t338, .bool true, .int .i64 t340, .int .i64 t341, .int .i64 0, .int .i64 0]) ?_ 6 _ rfl; (with_reducible repeat (first | refine blk_drewN ?_ _ | refine blk_drew ?_ | refine blk_alloc ?_ _)); refine blk_put (cs := #[.string t336, .string t337, .int .i64 t338, .bool true, .int .i64 t340, .int .i64 0, .int .i64 0, .int .i64 0]) ?_ 5 _ rfl; (with_reducible repeat (first | refine blk_drewN ?_ _ | refine blk_drew ?_ | refine blk_alloc ?_ _)); refine blk_put (cs := #[.string t336, .string t337, .int .i64 t338, .bool true, .int .i64 0, .int .i64 0, .int .i64 0, .int .i64 0]) ?_ 4 _ rfl; (with_reducible repeat (first | refine blk_drewN ?_ _ | refine blk_drew ?_ | refine blk_alloc ?_ _)); refine blk_put (cs := #[.string t336, .string t337, .int .i64 t338, .bool false, .int .i64 0, .int .i64 0, .int .i64 0, .int .i64 0]) ?_ 3 _ rfl; (with_reducible repeat (first | refine blk_drewN ?_ _ | refine blk_drew ?_ | refine blk_alloc ?_ _)); refine blk_put (cs := #[.string t336, .string t337, .int .i64 0, .bool false, .int .i64 0, .int .i64 0, .int .i64 0, .int .i64 0]) ?_ 2 _ rfl; (with_reducible repeat (first | refine blk_drewN ?_ _ | refine blk_drew ?_ | refine blk_alloc ?_ _)); refine blk_put (cs := #[.string t336, .string (⟨#[]⟩ : ByteArray), .int .i64 0, .bool false, .int .i64 0, .int .i64 0, .int .i64 0, .int .i64 0]) ?_ 1 _ rfl; (with_reducible repeat (first | refine blk_drewN ?_ _ | refine blk_drew ?_ | refine blk_alloc ?_ _)); exact blk_put (cs := #[.string (⟨#[]⟩ : ByteArray), .string (⟨#[]⟩ : ByteArray), .int .i64 0, .bool false, .int .i64 0, .int .i64 0, .int .i64 0, .int .i64 0]) bk 0 _ rfl) hb); have n3_ := Aside0.mk (below_step bwS hb); clear BK318; clear BK335; clear BK344; clear HB; have BK318 := n0_; have BK335 := n1_; have BK344 := n2_; have HB := n3_; clear n0_ n1_ n2_ n3_; (try clear hb); (try clear hb2); (try clear hk); (try clear hi)) | ((with_reducible refine gate_callee (f := 7) rfl ?_); refine goesL_ (some 16) rfl rfl Tryd.func7 (by kernel_rfl) rfl #[.string t345] rfl am ?_; (with_reducible refine (roster_Read.calls (hG := by first | exact hG | exact GlobT.below hG (by first | exact HB.out | (repeat (first | (with_reducible first | exact HB.out | apply below_alloc | apply pw_below_drewN | apply below_drew1 | refine below_set ?_ GE318.out | refine below_set ?_ GE335.out | refine below_set ?_ GE344.out | refine below_set ?_ GE355.out) | exact HB.out))) | exact GlobT.drawn hG (d0)) k t345 t346 t347 t348 t349 t350 t351 t352 t353 t354 _ A6.out).mono ?_); rintro e w79 ⟨rfl, hb⟩; refine ⟨_, rfl, ?_⟩; have n0_ := Aside0.mk (blk_below (g := gb318) (o := .cells #[.string t310, .string t311, .int .i64 t312, .bool t313, .int .i64 t314, .int .i64 t315, .int .i64 t316, .int .i64 t317] 29 (0, 0)) bk hb); have n1_ := Aside0.mk (blk_below (g := gb335) (o := .cells #[.string t327, .string t328, .int .i64 t329, .bool false, .int .i64 t331, .int .i64 t332, .int .i64 t333, .int .i64 t334] 29 (0, 0)) bk hb); have n2_ := Aside0.mk (blk_below (g := gb344) (o := .cells #[.string t336, .string t337, .int .i64 t338, .bool true, .int .i64 t340, .int .i64 t341, .int .i64 t342, .int .i64 t343] 29 (0, 0)) bk hb); have n3_ := Aside0.mk (below_step bwS hb); clear BK318; clear BK335; clear BK344; clear HB; have BK318 := n0_; have BK335 := n1_; have BK344 := n2_; have HB := n3_; clear n0_ n1_ n2_ n3_; (try clear hb); (try clear hb2); (try clear hk); (try clear hi)) | ((with_reducible refine gate_dst (N := 4) rfl ?_); refine box_event ?hg (N := 4) ?hd (cs := #[.string (⟨#[]⟩ : ByteArray), .string (⟨#[]⟩ : ByteArray), .int .i64 0, .bool false, .int .i64 0, .int .i64 0, .int .i64 0, .int .i64 0]) (t := 29) ?hr ?_; (case hd => rfl); (case hg => rfl); (case hr => first | (go_simp; done) | (go_simp; rfl)); intro gb355 hg w80 hbox hb; have n0_ := Aside0.mk (blk_below (g := gb318) (o := .cells #[.string t310, .string t311, .int .i64 t312, .bool t313, .int .i64 t314, .int .i64 t315, .int .i64 t316, .int .i64 t317] 29 (0, 0)) bk hb); have n1_ := Aside0.mk (blk_below (g := gb335) (o := .cells #[.string t327, .string t328, .int .i64 t329, .bool false, .int .i64 t331, .int .i64 t332, .int .i64 t333, .int .i64 t334] 29 (0, 0)) bk hb); have n2_ := Aside0.mk (blk_below (g := gb344) (o := .cells #[.string t336, .string t337, .int .i64 t338, .bool true, .int .i64 t340, .int .i64 t341, .int .i64 t342, .int .i64 t343] 29 (0, 0)) bk hb); have n3_ := Aside0.mk (below_step bwS hb); have n4_ := Aside0.mk (hbox); have n5_ := Aside0.mk ((by rw [hg]; exact (below_size bwS) : w.heap.size ≤ gb355)); have n6_ := Aside0.mk ((by rw [hg]; exact (below_size bwS) : w.heap.size ≤ gb355)); have n7_ := Aside0.mk ((by rw [hg]; exact Nat.ne_of_lt (blk_lt (g := gb318) (o := .cells #[.string t310, .string t311, .int .i64 t312, .bool t313, .int .i64 t314, .int .i64 t315, .int .i64 t316, .int .i64 t317] 29 (0, 0)) bk) : gb318 ≠ gb355)); have n8_ := Aside0.mk ((by rw [hg]; exact Nat.ne_of_gt (blk_lt (g := gb318) (o := .cells #[.string t310, .string t311, .int .i64 t312, .bool t313, .int .i64 t314, .int .i64 t315, .int .i64 t316, .int .i64 t317] 29 (0, 0)) bk) : gb355 ≠ gb318)); have n9_ := Aside0.mk ((by rw [hg]; exact Nat.ne_of_lt (blk_lt (g := gb335) (o := .cells #[.string t327, .string t328, .int .i64 t329, .bool false, .int .i64 t331, .int .i64 t332, .int .i64 t333, .int .i64 t334] 29 (0, 0)) bk) : gb335 ≠ gb355)); have n10_ := Aside0.mk ((by rw [hg]; exact Nat.ne_of_gt (blk_lt (g := gb335) (o := .cells #[.string t327, .string t328, .int .i64 t329, .bool false, .int .i64 t331, .int .i64 t332, .int .i64 t333, .int .i64 t334] 29 (0, 0)) bk) : gb355 ≠ gb335)); have n11_ := Aside0.mk ((by rw [hg]; exact Nat.ne_of_lt (blk_lt (g := gb344) (o := .cells #[.string t336, .string t337, .int .i64 t338, .bool true, .int .i64 t340, .int .i64 t341, .int .i64 t342, .int .i64 t343] 29 (0, 0)) bk) : gb344 ≠ gb355)); have n12_ := Aside0.mk ((by rw [hg]; exact Nat.ne_of_gt (blk_lt (g := gb344) (o := .cells #[.string t336, .string t337, .int .i64 t338, .bool true, .int .i64 t340, .int .i64 t341, .int .i64 t342, .int .i64 t343] 29 (0, 0)) bk) : gb355 ≠ gb344)); clear BK318; clear BK335; clear BK344; clear HB; have BK318 := n0_; have BK335 := n1_; have BK344 := n2_; have HB := n3_; have BK355 := n4_; have GW355 := n5_; have GE355 := n6_; have NB318_355 := n7_; have NB355_318 := n8_; have NB335_355 := n9_; have NB355_335 := n10_; have NB344_355 := n11_; have NB355_344 := n12_; clear n0_ n1_ n2_ n3_ n4_ n5_ n6_ n7_ n8_ n9_ n10_ n11_ n12_; clear hb hbox hg; have hnb81 := NB355_318.out; have hnc81 := NB318_355.out; have hnb82 := NB355_335.out; have hnc82 := NB335_355.out; have hnb83 := NB355_344.out; have hnc83 := NB344_355.out; have hcz84_0 : w80.cell? ⟨gb355, 0, none⟩ = some (.string (⟨#[]⟩ : ByteArray)) := (blk_cell BK355.out 0).trans rfl; have hcz84_1 : w80.cell? ⟨gb355, 1, none⟩ = some (.string (⟨#[]⟩ : ByteArray)) := (blk_cell BK355.out 1).trans rfl; have hcz84_2 : w80.cell? ⟨gb355, 2, none⟩ = some (.int .i64 0) := (blk_cell BK355.out 2).trans rfl; have hcz84_3 : w80.cell? ⟨gb355, 3, none⟩ = some (.bool false) := (blk_cell BK355.out 3).trans rfl; have hcz84_4 : w80.cell? ⟨gb355, 4, none⟩ = some (.int .i64 0) := (blk_cell BK355.out 4).trans rfl; have hcz84_5 : w80.cell? ⟨gb355, 5, none⟩ = some (.int .i64 0) := (blk_cell BK355.out 5).trans rfl; have hcz84_6 : w80.cell? ⟨gb355, 6, none⟩ = some (.int .i64 0) := (blk_cell BK355.out 6).trans rfl; have hcz84_7 : w80.cell? ⟨gb355, 7, none⟩ = some (.int .i64 0) := (blk_cell BK355.out 7).trans rfl; have hfz84_0 := blk_frozen BK355.out 0; have hfz84_1 := blk_frozen BK355.out 1; have hfz84_2 := blk_frozen BK355.out 2; have hfz84_3 := blk_frozen BK355.out 3; have hfz84_4 := blk_frozen BK355.out 4; have hfz84_5 := blk_frozen BK355.out 5; have hfz84_6 := blk_frozen BK355.out 6; have hfz84_7 := blk_frozen BK355.out 7; have hcz85_0 : w80.cell? ⟨gb318, 0, none⟩ = some (.string t310) := (blk_cell BK318.out 0).trans rfl; have hcz85_1 : w80.cell? ⟨gb318, 1, none⟩ = some (.string t311) := (blk_cell BK318.out 1).trans rfl; have hcz85_2 : w80.cell? ⟨gb318, 2, none⟩ = some (.int .i64 t312) := (blk_cell BK318.out 2).trans rfl; have hcz85_3 : w80.cell? ⟨gb318, 3, none⟩ = some (.bool t313) := (blk_cell BK318.out 3).trans rfl; have hcz85_4 : w80.cell? ⟨gb318, 4, none⟩ = some (.int .i64 t314) := (blk_cell BK318.out 4).trans rfl; have hcz85_5 : w80.cell? ⟨gb318, 5, none⟩ = some (.int .i64 t315) := (blk_cell BK318.out 5).trans rfl; have hcz85_6 : w80.cell? ⟨gb318, 6, none⟩ = some (.int .i64 t316) := (blk_cell BK318.out 6).trans rfl; have hcz85_7 : w80.cell? ⟨gb318, 7, none⟩ = some (.int .i64 t317) := (blk_cell BK318.out 7).trans rfl; have hfz85_0 := blk_frozen BK318.out 0; have hfz85_1 := blk_frozen BK318.out 1; have hfz85_2 := blk_frozen BK318.out 2; have hfz85_3 := blk_frozen BK318.out 3; have hfz85_4 := blk_frozen BK318.out 4; have hfz85_5 := blk_frozen BK318.out 5; have hfz85_6 := blk_frozen BK318.out 6; have hfz85_7 := blk_frozen BK318.out 7) | ((with_reducible refine gate_callee (f := 11) rfl ?_); refine goesL_ (some 20) rfl rfl Tryd.func11 (by kernel_rfl) rfl #[.agg #[.string t310, .string t311, .int .i64 t312, .bool t313, .int .i64 t314, .int .i64 t315, .int .i64 t316, .int .i64 t317], .int .i64 1] rfl am ?_; (with_reducible refine (roster_Member_Gets.calls t310 t311 t312 t313 t314 t315 t316 t317 1 true _ A7.out).mono ?_); rintro e w86 ⟨rfl, hb⟩; refine ⟨_, rfl, ?_⟩; have n0_ := Aside0.mk (blk_below (g := gb318) (o := .cells #[.string t310, .string t311, .int .i64 t312, .bool t313, .int .i64 t314, .int .i64 t315, .int .i64 t316, .int .i64 t317] 29 (0, 0)) (by (with_reducible repeat (first | refine blk_drewN ?_ _ | refine blk_drew ?_ | refine blk_alloc ?_ _)); refine blk_far ?_ NB318_355.out _; (with_reducible repeat (first | refine blk_drewN ?_ _ | refine blk_drew ?_ | refine blk_alloc ?_ _)); refine blk_far ?_ NB318_355.out _; (with_reducible repeat (first | refine blk_drewN ?_ _ | refine blk_drew ?_ | refine blk_alloc ?_ _)); refine blk_far ?_ NB318_355.out _; (with_reducible repeat (first | refine blk_drewN ?_ _ | refine blk_drew ?_ | refine blk_alloc ?_ _)); refine blk_far ?_ NB318_355.out _; (with_reducible repeat (first | refine blk_drewN ?_ _ | refine blk_drew ?_ | refine blk_alloc ?_ _)); refine blk_far ?_ NB318_355.out _; (with_reducible repeat (first | refine blk_drewN ?_ _ | refine blk_drew ?_ | refine blk_alloc ?_ _)); refine blk_far ?_ NB318_355.out _; (with_reducible repeat (first | refine blk_drewN ?_ _ | refine blk_drew ?_ | refine blk_alloc ?_ _)); refine blk_far ?_ NB318_355.out _; (with_reducible repeat (first | refine blk_drewN ?_ _ | refine blk_drew ?_ | refine blk_alloc ?_ _)); refine blk_far ?_ NB318_355.out _; (with_reducible repeat (first | refine blk_drewN ?_ _ | refine blk_drew ?_ | refine blk_alloc ?_ _)); exact BK318.out) hb); have n1_ := Aside0.mk (blk_below (g := gb335) (o := .cells #[.string t327, .string t328, .int .i64 t329, .bool false, .int .i64 t331, .int .i64 t332, .int .i64 t333, .int .i64 t334] 29 (0, 0)) (by (with_reducible repeat (first | refine blk_drewN ?_ _ | refine blk_drew ?_ | refine blk_alloc ?_ _)); refine blk_far ?_ NB335_355.out _; (with_reducible repeat (first | refine blk_drewN ?_ _ | refine blk_drew ?_ | refine blk_alloc ?_ _)); refine blk_far ?_ NB335_355.out _; (with_reducible repeat (first | refine blk_drewN ?_ _ | refine blk_drew ?_ | refine blk_alloc ?_ _)); refine blk_far ?_ NB335_355.out _; (with_reducible repeat (first | refine blk_drewN ?_ _ | refine blk_drew ?_ | refine blk_alloc ?_ _)); refine blk_far ?_ NB335_355.out _; (with_reducible repeat (first | refine blk_drewN ?_ _ | refine blk_drew ?_ | refine blk_alloc ?_ _)); refine blk_far ?_ NB335_355.out _; (with_reducible repeat (first | refine blk_drewN ?_ _ | refine blk_drew ?_ | refine blk_alloc ?_ _)); refine blk_far ?_ NB335_355.out _; (with_reducible repeat (first | refine blk_drewN ?_ _ | refine blk_drew ?_ | refine blk_alloc ?_ _)); refine blk_far ?_ NB335_355.out _; (with_reducible repeat (first | refine blk_drewN ?_ _ | refine blk_drew ?_ | refine blk_alloc ?_ _)); refine blk_far ?_ NB335_355.out _; (with_reducible repeat (first | refine blk_drewN ?_ _ | refine blk_drew ?_ | refine blk_alloc ?_ _)); exact BK335.out) hb); have n2_ := Aside0.mk (blk_below (g := gb344) (o := .cells #[.string t336, .string t337, .int .i64 t338, .bool true, .int .i64 t340, .int .i64 t341, .int .i64 t342, .int .i64 t343] 29 (0, 0)) (by (with_reducible repeat (first | refine blk_drewN ?_ _ | refine blk_drew ?_ | refine blk_alloc ?_ _)); refine blk_far ?_ NB344_355.out _; (with_reducible repeat (first | refine blk_drewN ?_ _ | refine blk_drew ?_ | refine blk_alloc ?_ _)); refine blk_far ?_ NB344_355.out _; (with_reducible repeat (first | refine blk_drewN ?_ _ | refine blk_drew ?_ | refine blk_alloc ?_ _)); refine blk_far ?_ NB344_355.out _; (with_reducible repeat (first | refine blk_drewN ?_ _ | refine blk_drew ?_ | refine blk_alloc ?_ _)); refine blk_far ?_ NB344_355.out _; (with_reducible repeat (first | refine blk_drewN ?_ _ | refine blk_drew ?_ | refine blk_alloc ?_ _)); refine blk_far ?_ NB344_355.out _; (with_reducible repeat (first | refine blk_drewN ?_ _ | refine blk_drew ?_ | refine blk_alloc ?_ _)); refine blk_far ?_ NB344_355.out _; (with_reducible repeat (first | refine blk_drewN ?_ _ | refine blk_drew ?_ | refine blk_alloc ?_ _)); refine blk_far ?_ NB344_355.out _; (with_reducible repeat (first | refine blk_drewN ?_ _ | refine blk_drew ?_ | refine blk_alloc ?_ _)); refine blk_far ?_ NB344_355.out _; (with_reducible repeat (first | refine blk_drewN ?_ _ | refine blk_drew ?_ | refine blk_alloc ?_ _)); exact BK344.out) hb); have n3_ := Aside0.mk (blk_below (g := gb355) (o := .cells #[.string t346, .string t347, .int .i64 t348, .bool t349, .int .i64 t350, .int .i64 t351, .int .i64 t352, .int .i64 t353] 29 (0, 0)) (by (with_reducible repeat (first | refine blk_drewN ?_ _ | refine blk_drew ?_ | refine blk_alloc ?_ _)); refine blk_put (cs := #[.string t346, .string t347, .int .i64 t348, .bool t349, .int .i64 t350, .int .i64 t351, .int .i64 t352, .int .i64 0]) ?_ 7 _ rfl; (with_reducible repeat (first | refine blk_drewN ?_ _ | refine blk_drew ?_ | refine blk_alloc ?_ _)); refine blk_put (cs := #[.string t346, .string t347, .int .i64 t348, .bool t349, .int .i64 t350, .int .i64 t351, .int .i64 0, .int .i64 0]) ?_ 6 _ rfl; (with_reducible repeat (first | refine blk_drewN ?_ _ | refine blk_drew ?_ | refine blk_alloc ?_ _)); refine blk_put (cs := #[.string t346, .string t347, .int .i64 t348, .bool t349, .int .i64 t350, .int .i64 0, .int .i64 0, .int .i64 0]) ?_ 5 _ rfl; (with_reducible repeat (first | refine blk_drewN ?_ _ | refine blk_drew ?_ | refine blk_alloc ?_ _)); refine blk_put (cs := #[.string t346, .string t347, .int .i64 t348, .bool t349, .int .i64 0, .int .i64 0, .int .i64 0, .int .i64 0]) ?_ 4 _ rfl; (with_reducible repeat (first | refine blk_drewN ?_ _ | refine blk_drew ?_ | refine blk_alloc ?_ _)); refine blk_put (cs := #[.string t346, .string t347, .int .i64 t348, .bool false, .int .i64 0, .int .i64 0, .int .i64 0, .int .i64 0]) ?_ 3 _ rfl; (with_reducible repeat (first | refine blk_drewN ?_ _ | refine blk_drew ?_ | refine blk_alloc ?_ _)); refine blk_put (cs := #[.string t346, .string t347, .int .i64 0, .bool false, .int .i64 0, .int .i64 0, .int .i64 0, .int .i64 0]) ?_ 2 _ rfl; (with_reducible repeat (first | refine blk_drewN ?_ _ | refine blk_drew ?_ | refine blk_alloc ?_ _)); refine blk_put (cs := #[.string t346, .string (⟨#[]⟩ : ByteArray), .int .i64 0, .bool false, .int .i64 0, .int .i64 0, .int .i64 0, .int .i64 0]) ?_ 1 _ rfl; (with_reducible repeat (first | refine blk_drewN ?_ _ | refine blk_drew ?_ | refine blk_alloc ?_ _)); exact blk_put (cs := #[.string (⟨#[]⟩ : ByteArray), .string (⟨#[]⟩ : ByteArray), .int .i64 0, .bool false, .int .i64 0, .int .i64 0, .int .i64 0, .int .i64 0]) bk 0 _ rfl) hb); have n4_ := Aside0.mk (below_step bwS hb); clear BK318; clear BK335; clear BK344; clear BK355; clear HB; have BK318 := n0_; have BK335 := n1_; have BK344 := n2_; have BK355 := n3_; have HB := n4_; clear n0_ n1_ n2_ n3_ n4_; (try clear hb); (try clear hb2); (try clear hk); (try clear hi); have hcz87_0 : w86.cell? ⟨gb318, 0, none⟩ = some (.string t310) := (blk_cell BK318.out 0).trans rfl; have hcz87_1 : w86.cell? ⟨gb318, 1, none⟩ = some (.string t311) := (blk_cell BK318.out 1).trans rfl; have hcz87_2 : w86.cell? ⟨gb318, 2, none⟩ = some (.int .i64 t312) := (blk_cell BK318.out 2).trans rfl; have hcz87_3 : w86.cell? ⟨gb318, 3, none⟩ = some (.bool t313) := (blk_cell BK318.out 3).trans rfl; have hcz87_4 : w86.cell? ⟨gb318, 4, none⟩ = some (.int .i64 t314) := (blk_cell BK318.out 4).trans rfl; have hcz87_5 : w86.cell? ⟨gb318, 5, none⟩ = some (.int .i64 t315) := (blk_cell BK318.out 5).trans rfl; have hcz87_6 : w86.cell? ⟨gb318, 6, none⟩ = some (.int .i64 t316) := (blk_cell BK318.out 6).trans rfl; have hcz87_7 : w86.cell? ⟨gb318, 7, none⟩ = some (.int .i64 t317) := (blk_cell BK318.out 7).trans rfl; have hfz87_0 := blk_frozen BK318.out 0; have hfz87_1 := blk_frozen BK318.out 1; have hfz87_2 := blk_frozen BK318.out 2; have hfz87_3 := blk_frozen BK318.out 3; have hfz87_4 := blk_frozen BK318.out 4; have hfz87_5 := blk_frozen BK318.out 5; have hfz87_6 := blk_frozen BK318.out 6; have hfz87_7 := blk_frozen BK318.out 7) | (go_at_call 11; (with_reducible refine (roster_Member_Gets.calls t310 t311 t312 t313 t314 t315 t316 t317 2 false _ A9.out).mono ?_); rintro e w88 ⟨rfl, hb⟩; have n0_ := Aside0.mk (blk_below (g := gb318) (o := .cells #[.string t310, .string t311, .int .i64 t312, .bool t313, .int .i64 t314, .int .i64 t315, .int .i64 t316, .int .i64 t317] 29 (0, 0)) bk hb); have n1_ := Aside0.mk (blk_below (g := gb335) (o := .cells #[.string t327, .string t328, .int .i64 t329, .bool false, .int .i64 t331, .int .i64 t332, .int .i64 t333, .int .i64 t334] 29 (0, 0)) bk hb); have n2_ := Aside0.mk (blk_below (g := gb344) (o := .cells #[.string t336, .string t337, .int .i64 t338, .bool true, .int .i64 t340, .int .i64 t341, .int .i64 t342, .int .i64 t343] 29 (0, 0)) bk hb); have n3_ := Aside0.mk (blk_below (g := gb355) (o := .cells #[.string t346, .string t347, .int .i64 t348, .bool t349, .int .i64 t350, .int .i64 t351, .int .i64 t352, .int .i64 t353] 29 (0, 0)) bk hb); have n4_ := Aside0.mk (below_step bwS hb); clear BK318; clear BK335; clear BK344; clear BK355; clear HB; have BK318 := n0_; have BK335 := n1_; have BK344 := n2_; have BK355 := n3_; have HB := n4_; clear n0_ n1_ n2_ n3_ n4_; (try clear hb); (try clear hb2); (try clear hk); (try clear hi); have hcz89_0 : w88.cell? ⟨gb335, 0, none⟩ = some (.string t327) := (blk_cell BK335.out 0).trans rfl; have hcz89_1 : w88.cell? ⟨gb335, 1, none⟩ = some (.string t328) := (blk_cell BK335.out 1).trans rfl; have hcz89_2 : w88.cell? ⟨gb335, 2, none⟩ = some (.int .i64 t329) := (blk_cell BK335.out 2).trans rfl; have hcz89_3 : w88.cell? ⟨gb335, 3, none⟩ = some (.bool false) := (blk_cell BK335.out 3).trans rfl; have hcz89_4 : w88.cell? ⟨gb335, 4, none⟩ = some (.int .i64 t331) := (blk_cell BK335.out 4).trans rfl; have hcz89_5 : w88.cell? ⟨gb335, 5, none⟩ = some (.int .i64 t332) := (blk_cell BK335.out 5).trans rfl; have hcz89_6 : w88.cell? ⟨gb335, 6, none⟩ = some (.int .i64 t333) := (blk_cell BK335.out 6).trans rfl; have hcz89_7 : w88.cell? ⟨gb335, 7, none⟩ = some (.int .i64 t334) := (blk_cell BK335.out 7).trans rfl; have hfz89_0 := blk_frozen BK335.out 0; have hfz89_1 := blk_frozen BK335.out 1; have hfz89_2 := blk_frozen BK335.out 2; have hfz89_3 := blk_frozen BK335.out 3; have hfz89_4 := blk_frozen BK335.out 4; have hfz89_5 := blk_frozen BK335.out 5; have hfz89_6 := blk_frozen BK335.out 6; have hfz89_7 := blk_frozen BK335.out 7; have hcz90_0 : w88.cell? ⟨gb344, 0, none⟩ = some (.string t336) := (blk_cell BK344.out 0).trans rfl; have hcz90_1 : w88.cell? ⟨gb344, 1, none⟩ = some (.string t337) := (blk_cell BK344.out 1).trans rfl; have hcz90_2 : w88.cell? ⟨gb344, 2, none⟩ = some (.int .i64 t338) := (blk_cell BK344.out 2).trans rfl; have hcz90_3 : w88.cell? ⟨gb344, 3, none⟩ = some (.bool true) := (blk_cell BK344.out 3).trans rfl; have hcz90_4 : w88.cell? ⟨gb344, 4, none⟩ = some (.int .i64 t340) := (blk_cell BK344.out 4).trans rfl; have hcz90_5 : w88.cell? ⟨gb344, 5, none⟩ = some (.int .i64 t341) := (blk_cell BK344.out 5).trans rfl; have hcz90_6 : w88.cell? ⟨gb344, 6, none⟩ = some (.int .i64 t342) := (blk_cell BK344.out 6).trans rfl; have hcz90_7 : w88.cell? ⟨gb344, 7, none⟩ = some (.int .i64 t343) := (blk_cell BK344.out 7).trans rfl; have hfz90_0 := blk_frozen BK344.out 0; have hfz90_1 := blk_frozen BK344.out 1; have hfz90_2 := blk_frozen BK344.out 2; have hfz90_3 := blk_frozen BK344.out 3; have hfz90_4 := blk_frozen BK344.out 4; have hfz90_5 := blk_frozen BK344.out 5; have hfz90_6 := blk_frozen BK344.out 6; have hfz90_7 := blk_frozen BK344.out 7; have hcz91_0 : w88.cell? ⟨gb355, 0, none⟩ = some (.string t346) := (blk_cell BK355.out 0).trans rfl; have hcz91_1 : w88.cell? ⟨gb355, 1, none⟩ = some (.string t347) := (blk_cell BK355.out 1).trans rfl; have hcz91_2 : w88.cell? ⟨gb355, 2, none⟩ = some (.int .i64 t348) := (blk_cell BK355.out 2).trans rfl; have hcz91_3 : w88.cell? ⟨gb355, 3, none⟩ = some (.bool t349) := (blk_cell BK355.out 3).trans rfl; have hcz91_4 : w88.cell? ⟨gb355, 4, none⟩ = some (.int .i64 t350) := (blk_cell BK355.out 4).trans rfl; have hcz91_5 : w88.cell? ⟨gb355, 5, none⟩ = some (.int .i64 t351) := (blk_cell BK355.out 5).trans rfl; have hcz91_6 : w88.cell? ⟨gb355, 6, none⟩ = some (.int .i64 t352) := (blk_cell BK355.out 6).trans rfl; have hcz91_7 : w88.cell? ⟨gb355, 7, none⟩ = some (.int .i64 t353) := (blk_cell BK355.out 7).trans rfl; have hfz91_0 := blk_frozen BK355.out 0; have hfz91_1 := blk_frozen BK355.out 1; have hfz91_2 := blk_frozen BK355.out 2; have hfz91_3 := blk_frozen BK355.out 3; have hfz91_4 := blk_frozen BK355.out 4; have hfz91_5 := blk_frozen BK355.out 5; have hfz91_6 := blk_frozen BK355.out 6; have hfz91_7 := blk_frozen BK355.out 7))
        go_ret
        exact ⟨ew, bwS⟩
       ·rw [if_neg c64] at H; have c64b0 : (t354 == 0) = false := beq_eq_false_iff_ne.mpr c64; have c64b1 : (t354 != 0) = true := bne_iff_ne.mpr c64; obtain rfl := Option.some.inj H; exact absurd HT.out (by decide)
      ·replace c63 := Bool.eq_false_iff.mpr c63; subst c63; have H1 : (some false) = some r := by rw [if_neg (show ¬ (false = true) by decide)] at H; exact H
       clear H; have H := H1; clear H1; obtain rfl := Option.some.inj H; exact absurd HT.out (by decide)
     ·rw [if_neg c62] at H; have c62b0 : (t340 == 2) = false := beq_eq_false_iff_ne.mpr c62; have c62b1 : (t340 != 2) = true := bne_iff_ne.mpr c62; obtain rfl := Option.some.inj H; exact absurd HT.out (by decide)
   ·rw [if_neg c35] at H; have c35b0 : (t331 == 1) = false := beq_eq_false_iff_ne.mpr c35; have c35b1 : (t331 != 1) = true := bne_iff_ne.mpr c35; obtain rfl := Option.some.inj H; exact absurd HT.out (by decide)
 ·replace c8 := Bool.eq_false_iff.mpr c8; subst c8; have H1 : (some false) = some r := by rw [if_neg (show ¬ (false = true) by decide)] at H; exact H
  clear H; have H := H1; clear H1; obtain rfl := Option.some.inj H; exact absurd HT.out (by decide)
set_option maxRecDepth 100000 in
theorem bulletinlaw33_works.at_ : bulletinlaw33_works.f 100 = some true := by decide +kernel
theorem bulletinlaw33_works.yes (k : Nat) (r : Bool) (h : bulletinlaw33_works.f k = some r) : r = true := by
 have up : ∀ (d a : Nat) (x : Bool), bulletinlaw33_works.f a = some x → bulletinlaw33_works.f (a + d) = some x := fun d => by
  induction d with
  | zero => intro a x h; exact h
  | succ d ih => intro a x h; exact bulletinlaw33_works.mono (a + d) x (ih a x h)
 have h1 := up 100 k r h; have h2 := up k 100 true bulletinlaw33_works.at_; rw [Nat.add_comm] at h1; rw [h1] at h2; exact Option.some.inj h2
theorem bulletinlaw33_works.calls (k : Nat) (r : Bool) (w : World) (hG : GlobT w) (h : bulletinlaw33_works.f k = some r) :
  Calls Tryd.prog 5 #[] w fun e w' => e = .returned (.bool r) ∧ Below w.heap.size w w' :=
 bulletinlaw33_works.callsT k r w hG h (bulletinlaw33_works.yes k r h)
end Go.Proofs.YtnnlhpmkfijppaaDoor.Fn
set_option linter.unusedVariables false
set_option linter.unusedSimpArgs false
namespace Go.Proofs.YtnnlhpmkfijppaaDoor.Pl
open Go.RowKit Go.Proofs.YtnnlhpmkfijppaaDoorW.PrintWords Go.Proofs.YtnnlhpmkfijppaaDoor.Fn

/-! Layer 33: a member. -/
set_option maxRecDepth 100000 in
theorem works33_at : bulletinlaw33_works.f 100 = some true := by decide +kernel
theorem works33 (k : Nat) (hk : 100 ≤ k) : bulletinlaw33_works.f k = some true := mono_up bulletinlaw33_works.mono works33_at k hk
def okN (n : Int) : Bool := decide (0 ≤ n) && decide (n ≤ 1099511627776)
theorem number_is (n : Int) : roster_number.f n = some (okN n) := by
 unfold roster_number.f okN
 by_cases h : n ≥ 0
 ·rw [if_pos h, decide_eq_true h, Bool.true_and]
 ·rw [if_neg h, decide_eq_false (show ¬ 0 ≤ n from h), Bool.false_and]
def wordM (n : Int) : Bytes := if n = 1 then [101, 97, 99, 104] else if n = 2 then [100, 105, 103, 101, 115, 116] else if n = 3 then [115, 105, 108, 101, 110, 116] else []
theorem word_is (n : Int) : roster_Word.f n = some (str (wordM n)) := by
 unfold roster_Word.f wordM
 split
 ·rfl
 ·split
  ·rfl
  ·split <;> rfl
def okM (n : Int) : Bool := decide (1 ≤ n) && decide (n ≤ 3)
theorem wordM_nil (n : Int) : (wordM n = []) = (okM n = false) := by
 unfold wordM okM
 rw [eq_iff_iff]
 by_cases h1 : n = 1
 ·subst h1; simp
 by_cases h2 : n = 2
 ·subst h2; simp
 by_cases h3 : n = 3
 ·subst h3; simp
 rw [if_neg h1, if_neg h2, if_neg h3]
 constructor
 ·intro _
  rw [Bool.and_eq_false_iff, decide_eq_false_iff_not, decide_eq_false_iff_not]
  omega
 ·intro _; rfl
def sound (a b : ByteArray) (mode score day ticket since : Int) : Bool := right a b && (okM mode && (okN score && ((okN day || decide (day = -1)) && (okN ticket && okN since))))
theorem sound_is (a b : ByteArray) (mode : Int) (off : Bool) (score day ticket since : Int) (ha : a.size ≤ 140737488355328) (hb : b.size ≤ 140737488355328) (k : Nat) (hk : 1000 ≤ k) :
  roster_Member_Sound.f k a b mode off score day ticket since = some (sound a b mode score day ticket since) := by
 unfold roster_Member_Sound.f sound
 rw [addrRight_big a b ha hb k hk, Option.bind_some, word_is, number_is, number_is, number_is, number_is]
 simp only [Option.bind_some]
 rw [toList_str]
 have hw := wordM_nil mode
 cases hm : okM mode with
 | false =>
  rw [if_pos (c := wordM mode = []) (hw.mpr hm)]
  cases right a b
  ·rfl
  ·rfl
 | true =>
  rw [if_neg (c := wordM mode = []) (by rw [hw, hm]; decide)]
  cases right a b
  ·rfl
  cases okN score
  ·rfl
  cases okN day
  ·by_cases h : day = -1
   ·cases okN ticket <;> simp [h]
   ·simp [h]
  ·cases okN ticket <;> rfl
end Go.Proofs.YtnnlhpmkfijppaaDoor.Pl
set_option linter.unusedVariables false
set_option linter.unusedSimpArgs false
namespace Go.Proofs.YtnnlhpmkfijppaaDoor.Pl
open Go.RowKit Go.Proofs.YtnnlhpmkfijppaaDoorW.PrintWords Go.Proofs.YtnnlhpmkfijppaaDoor.Fn

/-! Layer 1: nets taken apart, the program's. -/
/-! What is written is taken again. -/
end Go.Proofs.YtnnlhpmkfijppaaDoor.Pl
set_option linter.unusedVariables false
namespace Go.Proofs.YtnnlhpmkfijppaaDoor.Pl
open Go.RowKit Go.Proofs.YtnnlhpmkfijppaaDoorW.PrintWords Go.Proofs.YtnnlhpmkfijppaaDoor.Fn
end Go.Proofs.YtnnlhpmkfijppaaDoor.Pl
set_option linter.unusedVariables false
namespace Go.Proofs.YtnnlhpmkfijppaaDoor.Pl
open Go.RowKit Go.Proofs.YtnnlhpmkfijppaaDoorW.PrintWords Go.Proofs.YtnnlhpmkfijppaaDoor.Fn

/-! Capital letters, dots, quotes and the sign @. -/
/-! plain: of all bytes -/
end Go.Proofs.YtnnlhpmkfijppaaDoor.Pl
set_option linter.unusedVariables false
namespace Go.Proofs.YtnnlhpmkfijppaaDoor.Pl
open Go.RowKit Go.Proofs.YtnnlhpmkfijppaaDoorW.PrintWords Go.Proofs.YtnnlhpmkfijppaaDoor.Fn

/-! Layer 13, the document's, over lists of bytes: it answers as the program does. -/
/-! IsAtom -/
/-! Quote -/
end Go.Proofs.YtnnlhpmkfijppaaDoor.Pl
set_option linter.unusedVariables false
namespace Go.Proofs.YtnnlhpmkfijppaaDoor.Pl
open Go.RowKit Go.Proofs.YtnnlhpmkfijppaaDoorW.PrintWords Go.Proofs.YtnnlhpmkfijppaaDoor.Fn

/-! Layer 12: tokens, by one machine over lists of bytes; the document's Scan is this machine. -/
inductive Sc where
 | out
 | atom (w : Bytes)
 | quot (w : Bytes) (b : Bool)
 | comm (d : Nat) (b : Bool)
abbrev Tok := Int × Bytes
def whiteB (c : UInt8) : Bool := c == 32 || c == 9
def foldAt : Bytes → Bool
 | a :: b :: c :: _ => a == 13 && b == 10 && whiteB c
 | _ => false
def signB (c : UInt8) : Bool := (⟨#[60, 62, 58, 59, 64, 44, 46]⟩ : ByteArray).data.toList.contains c
def stepOut (acc : List Tok) (c : UInt8) (l : Bytes) : (List Tok × Sc × Bytes) ⊕ Int :=
 if foldAt (c :: l) = true then .inl (acc, .out, l.tail)
 else if atomic c = true then .inl (acc, .atom [c], l)
 else if c = 34 then .inl (acc, .quot [] false, l)
 else if c = 40 then .inl (acc, .comm 1 false, l)
 else if signB c = true then .inl (acc ++ [(3, [c])], .out, l)
 else if whiteB c = true then .inl (acc, .out, l)
 else .inr 3
def commAfter (acc : List Tok) (d : Nat) (l : Bytes) : (List Tok × Sc × Bytes) ⊕ Int :=
 if 16 < d then .inr 1 else if d = 0 then .inl (acc, .out, l) else .inl (acc, .comm d false, l)
def step (acc : List Tok) (st : Sc) (c : UInt8) (l : Bytes) : (List Tok × Sc × Bytes) ⊕ Int :=
 match st with
 | .out => stepOut acc c l
 | .atom w => if atomic c = true then .inl (acc, .atom (w ++ [c]), l) else stepOut (acc ++ [(1, w)]) c l
 | .quot w true => if text c = true then .inl (acc, .quot (w ++ [c]) false, l) else .inr 3
 | .comm d true => if text c = true then .inl (acc, .comm d false, l) else .inr 3
 | .quot w false =>
  if foldAt (c :: l) = true then .inl (acc, .quot w false, l.tail)
  else if c = 92 then .inl (acc, .quot w true, l)
  else if text c = true then (if c = 34 then .inl (acc ++ [(2, w)], .out, l) else .inl (acc, .quot (w ++ [c]) false, l))
  else .inr 3
 | .comm d false =>
  if foldAt (c :: l) = true then .inl (acc, .comm d false, l.tail)
  else if c = 92 then .inl (acc, .comm d true, l)
  else if text c = true then commAfter acc (if c = 40 then d + 1 else if c = 41 then d - 1 else d) l
  else .inr 3
/-! The document's Scan -/
end Go.Proofs.YtnnlhpmkfijppaaDoor.Pl
set_option linter.unusedVariables false
namespace Go.Proofs.YtnnlhpmkfijppaaDoor.Pl
open Go.RowKit Go.Proofs.YtnnlhpmkfijppaaDoorW.PrintWords Go.Proofs.YtnnlhpmkfijppaaDoor.Fn

/-! Layer 12, the program's: its Scan is the same machine. -/
end Go.Proofs.YtnnlhpmkfijppaaDoor.Pl
set_option linter.unusedVariables false
set_option linter.unusedSimpArgs false
namespace Go.Proofs.YtnnlhpmkfijppaaDoor.Pl
open Go.RowKit Go.Proofs.YtnnlhpmkfijppaaDoorW.PrintWords Go.Proofs.YtnnlhpmkfijppaaDoor.Fn

/-! The reference's glyph functions, as the plain ones. -/
end Go.Proofs.YtnnlhpmkfijppaaDoor.Pl
set_option linter.unusedVariables false
namespace Go.Proofs.YtnnlhpmkfijppaaDoor.Pl
open Go.RowKit Go.Proofs.YtnnlhpmkfijppaaDoorW.PrintWords Go.Proofs.YtnnlhpmkfijppaaDoor.Fn

/-! The document's labels, domains, right addresses. -/
def labN (n : Int) : Prop := (97 ≤ n ∧ n ≤ 122) ∨ (65 ≤ n ∧ n ≤ 90) ∨ (48 ≤ n ∧ n ≤ 57) ∨ n = 45
instance (n : Int) : Decidable (labN n) := by unfold labN; infer_instance
end Go.Proofs.YtnnlhpmkfijppaaDoor.Pl
set_option linter.unusedVariables false
namespace Go.Proofs.YtnnlhpmkfijppaaDoor.Pl
open Go.RowKit Go.Proofs.YtnnlhpmkfijppaaDoorW.PrintWords Go.Proofs.YtnnlhpmkfijppaaDoor.Fn

/-! Layer 13: the address that tokens are. -/
/-! the program's: words joined by dots, as long as they go on -/
end Go.Proofs.YtnnlhpmkfijppaaDoor.Pl
set_option linter.unusedVariables false
set_option linter.unusedSimpArgs false
namespace Go.Proofs.YtnnlhpmkfijppaaDoor.Pl
open Go.RowKit Go.Proofs.YtnnlhpmkfijppaaDoorW.PrintWords Go.Proofs.YtnnlhpmkfijppaaDoor.Fn

/-! how many tokens there are, and how long they are -/
end Go.Proofs.YtnnlhpmkfijppaaDoor.Pl
set_option linter.unusedVariables false
set_option linter.unusedSimpArgs false
namespace Go.Proofs.YtnnlhpmkfijppaaDoor.Pl
open Go.RowKit Go.Proofs.YtnnlhpmkfijppaaDoorW.PrintWords Go.Proofs.YtnnlhpmkfijppaaDoor.Fn

end Go.Proofs.YtnnlhpmkfijppaaDoor.Pl
set_option linter.unusedVariables false
set_option linter.unusedSimpArgs false
namespace Go.Proofs.YtnnlhpmkfijppaaDoor.Pl
open Go.RowKit Go.Proofs.YtnnlhpmkfijppaaDoorW.PrintWords Go.Proofs.YtnnlhpmkfijppaaDoor.Fn

/-! What is written is read again. -/
end Go.Proofs.YtnnlhpmkfijppaaDoor.Pl
set_option linter.unusedVariables false
set_option linter.unusedSimpArgs false
namespace Go.Proofs.YtnnlhpmkfijppaaDoor.Pl
open Go.RowKit Go.Proofs.YtnnlhpmkfijppaaDoorW.PrintWords Go.Proofs.YtnnlhpmkfijppaaDoor.Fn

/-! Layer 33: a member's text, and the member of a text. -/
def i64 (n : Int) : Prop := -9223372036854775808 ≤ n ∧ n ≤ 9223372036854775807
theorem sound_parts {a b : ByteArray} {mode score day ticket since : Int} (h : sound a b mode score day ticket since = true) :
  right a b = true ∧ okM mode = true ∧ (0 ≤ score ∧ score ≤ 1099511627776) ∧ (-1 ≤ day ∧ day ≤ 1099511627776) ∧ (0 ≤ ticket ∧ ticket ≤ 1099511627776) ∧ (0 ≤ since ∧ since ≤ 1099511627776) := by
 unfold sound okN at h
 simp only [Bool.and_eq_true, Bool.or_eq_true, decide_eq_true_eq] at h
 obtain ⟨h1, h2, h3, h4, h5, h6⟩ := h
 exact ⟨h1, h2, h3, by omega, h5, h6⟩
end Go.Proofs.YtnnlhpmkfijppaaDoor.Pl
namespace Go.Proofs.YtnnlhpmkfijppaaDoor.Fn
open Go.RowKit Go.Proofs.YtnnlhpmkfijppaaDoorW.PrintWords Go.Proofs.YtnnlhpmkfijppaaDoorW.PrintLast Go.Proofs.YtnnlhpmkfijppaaDoorW.PrintMore
attribute [local go_sem] max2_int min2_int max_two min_two max_three min_three max_four min_four
set_option linter.unusedVariables false
set_option linter.unusedSimpArgs false

def roster_Member_Well.f (a0_0 : ByteArray) (a0_1 : ByteArray) (a0_2 : Int) (a0_3 : Bool) (a0_4 : Int) (a0_5 : Int) (a0_6 : Int) (a0_7 : Int) : Option (ByteArray × ByteArray × Int × Bool × Int × Int × Int × Int) := some (a0_0, a0_1, a0_2, false, 0, (-1), a0_6, a0_7)
set_option maxHeartbeats 8000000 in
set_option maxRecDepth 100000 in
theorem roster_Member_Well.calls (a0_0 : ByteArray) (a0_1 : ByteArray) (a0_2 : Int) (a0_3 : Bool) (a0_4 : Int) (a0_5 : Int) (a0_6 : Int) (a0_7 : Int) (r1 : ByteArray) (r2 : ByteArray) (r3 : Int) (r4 : Bool) (r5 : Int) (r6 : Int) (r7 : Int) (r8 : Int) (w : World) (h : roster_Member_Well.f a0_0 a0_1 a0_2 a0_3 a0_4 a0_5 a0_6 a0_7 = some (r1, r2, r3, r4, r5, r6, r7, r8)) :
  Calls Tryd.prog 12 #[.agg #[.string a0_0, .string a0_1, .int .i64 a0_2, .bool a0_3, .int .i64 a0_4, .int .i64 a0_5, .int .i64 a0_6, .int .i64 a0_7]] w fun e w' => e = .returned (.agg #[.string r1, .string r2, .int .i64 r3, .bool r4, .int .i64 r5, .int .i64 r6, .int .i64 r7, .int .i64 r8]) ∧ Below w.heap.size w w' := by
 have hu29 := Tryd.underlying29; have HB := Aside0.mk (Below.refl w.heap.size w); have H : (some (a0_0, a0_1, a0_2, false, 0, (-1), a0_6, a0_7)) = some (r1, r2, r3, r4, r5, r6, r7, r8) := h; clear h; simp only [Option.some.injEq, Prod.mk.injEq] at H; obtain ⟨rfl, rfl, rfl, rfl, rfl, rfl, rfl, rfl⟩ := H
 go_enter Tryd.func12, Tryd.ntmps12
 go_wp2_with (first | ((with_reducible refine gate_dst (N := 1) rfl ?_); refine box_event ?hg (N := 1) ?hd (cs := #[.string a0_0, .string a0_1, .int .i64 a0_2, .bool a0_3, .int .i64 a0_4, .int .i64 a0_5, .int .i64 a0_6, .int .i64 a0_7]) (t := 29) ?hr ?_; (case hd => rfl); (case hg => rfl); (case hr => first | (go_simp; done) | (go_simp; rfl)); intro gb399 hg w2 hbox hb; have n0_ := Aside0.mk (below_step bw hb); have n1_ := Aside0.mk (hbox); have n2_ := Aside0.mk ((by rw [hg]; exact (below_size bw) : w.heap.size ≤ gb399)); have n3_ := Aside0.mk ((by rw [hg]; exact (below_size bw) : w.heap.size ≤ gb399)); clear HB; have HB := n0_; have BK399 := n1_; have GW399 := n2_; have GE399 := n3_; clear n0_ n1_ n2_ n3_; clear hb hbox hg) | ((with_reducible refine gate_dst (N := 2) rfl ?_); refine box_event ?hg (N := 2) ?hd (cs := #[.string (⟨#[]⟩ : ByteArray), .string (⟨#[]⟩ : ByteArray), .int .i64 0, .bool false, .int .i64 0, .int .i64 0, .int .i64 0, .int .i64 0]) (t := 29) ?hr ?_; (case hd => rfl); (case hg => rfl); (case hr => first | (go_simp; done) | (go_simp; rfl)); intro gb400 hg w3 hbox hb; have n0_ := Aside0.mk (blk_below (g := gb399) (o := .cells #[.string a0_0, .string a0_1, .int .i64 a0_2, .bool a0_3, .int .i64 a0_4, .int .i64 a0_5, .int .i64 a0_6, .int .i64 a0_7] 29 (0, 0)) bk hb); have n1_ := Aside0.mk (below_step bwS hb); have n2_ := Aside0.mk (hbox); have n3_ := Aside0.mk ((by rw [hg]; exact (below_size bwS) : w.heap.size ≤ gb400)); have n4_ := Aside0.mk ((by rw [hg]; exact (below_size bwS) : w.heap.size ≤ gb400)); have n5_ := Aside0.mk ((by rw [hg]; exact Nat.ne_of_lt (blk_lt (g := gb399) (o := .cells #[.string a0_0, .string a0_1, .int .i64 a0_2, .bool a0_3, .int .i64 a0_4, .int .i64 a0_5, .int .i64 a0_6, .int .i64 a0_7] 29 (0, 0)) bk) : gb399 ≠ gb400)); have n6_ := Aside0.mk ((by rw [hg]; exact Nat.ne_of_gt (blk_lt (g := gb399) (o := .cells #[.string a0_0, .string a0_1, .int .i64 a0_2, .bool a0_3, .int .i64 a0_4, .int .i64 a0_5, .int .i64 a0_6, .int .i64 a0_7] 29 (0, 0)) bk) : gb400 ≠ gb399)); clear BK399; clear HB; have BK399 := n0_; have HB := n1_; have BK400 := n2_; have GW400 := n3_; have GE400 := n4_; have NB399_400 := n5_; have NB400_399 := n6_; clear n0_ n1_ n2_ n3_ n4_ n5_ n6_; clear hb hbox hg; have hnb4 := NB399_400.out; have hnc4 := NB400_399.out; have hcz5_0 : w3.cell? ⟨gb399, 0, none⟩ = some (.string a0_0) := (blk_cell BK399.out 0).trans rfl; have hcz5_1 : w3.cell? ⟨gb399, 1, none⟩ = some (.string a0_1) := (blk_cell BK399.out 1).trans rfl; have hcz5_2 : w3.cell? ⟨gb399, 2, none⟩ = some (.int .i64 a0_2) := (blk_cell BK399.out 2).trans rfl; have hcz5_3 : w3.cell? ⟨gb399, 3, none⟩ = some (.bool a0_3) := (blk_cell BK399.out 3).trans rfl; have hcz5_4 : w3.cell? ⟨gb399, 4, none⟩ = some (.int .i64 a0_4) := (blk_cell BK399.out 4).trans rfl; have hcz5_5 : w3.cell? ⟨gb399, 5, none⟩ = some (.int .i64 a0_5) := (blk_cell BK399.out 5).trans rfl; have hcz5_6 : w3.cell? ⟨gb399, 6, none⟩ = some (.int .i64 a0_6) := (blk_cell BK399.out 6).trans rfl; have hcz5_7 : w3.cell? ⟨gb399, 7, none⟩ = some (.int .i64 a0_7) := (blk_cell BK399.out 7).trans rfl; have hfz5_0 := blk_frozen BK399.out 0; have hfz5_1 := blk_frozen BK399.out 1; have hfz5_2 := blk_frozen BK399.out 2; have hfz5_3 := blk_frozen BK399.out 3; have hfz5_4 := blk_frozen BK399.out 4; have hfz5_5 := blk_frozen BK399.out 5; have hfz5_6 := blk_frozen BK399.out 6; have hfz5_7 := blk_frozen BK399.out 7; have hcz6_0 : w3.cell? ⟨gb400, 0, none⟩ = some (.string (⟨#[]⟩ : ByteArray)) := (blk_cell BK400.out 0).trans rfl; have hcz6_1 : w3.cell? ⟨gb400, 1, none⟩ = some (.string (⟨#[]⟩ : ByteArray)) := (blk_cell BK400.out 1).trans rfl; have hcz6_2 : w3.cell? ⟨gb400, 2, none⟩ = some (.int .i64 0) := (blk_cell BK400.out 2).trans rfl; have hcz6_3 : w3.cell? ⟨gb400, 3, none⟩ = some (.bool false) := (blk_cell BK400.out 3).trans rfl; have hcz6_4 : w3.cell? ⟨gb400, 4, none⟩ = some (.int .i64 0) := (blk_cell BK400.out 4).trans rfl; have hcz6_5 : w3.cell? ⟨gb400, 5, none⟩ = some (.int .i64 0) := (blk_cell BK400.out 5).trans rfl; have hcz6_6 : w3.cell? ⟨gb400, 6, none⟩ = some (.int .i64 0) := (blk_cell BK400.out 6).trans rfl; have hcz6_7 : w3.cell? ⟨gb400, 7, none⟩ = some (.int .i64 0) := (blk_cell BK400.out 7).trans rfl; have hfz6_0 := blk_frozen BK400.out 0; have hfz6_1 := blk_frozen BK400.out 1; have hfz6_2 := blk_frozen BK400.out 2; have hfz6_3 := blk_frozen BK400.out 3; have hfz6_4 := blk_frozen BK400.out 4; have hfz6_5 := blk_frozen BK400.out 5; have hfz6_6 := blk_frozen BK400.out 6; have hfz6_7 := blk_frozen BK400.out 7))
 refine bodyPost_ret (results_cell_row rfl _ _ gb400 29 #[.string a0_0, .string a0_1, .int .i64 a0_2, .bool false, .int .i64 0, .int .i64 (-1), .int .i64 a0_6, .int .i64 a0_7] (0, 0) _ rfl (by (with_reducible repeat (first | refine blk_drewN ?_ _ | refine blk_drew ?_ | refine blk_alloc ?_ _)); refine blk_put (cs := #[.string a0_0, .string a0_1, .int .i64 a0_2, .bool false, .int .i64 0, .int .i64 (-1), .int .i64 a0_6, .int .i64 0]) ?_ 7 _ rfl; (with_reducible repeat (first | refine blk_drewN ?_ _ | refine blk_drew ?_ | refine blk_alloc ?_ _)); refine blk_put (cs := #[.string a0_0, .string a0_1, .int .i64 a0_2, .bool false, .int .i64 0, .int .i64 (-1), .int .i64 0, .int .i64 0]) ?_ 6 _ rfl; (with_reducible repeat (first | refine blk_drewN ?_ _ | refine blk_drew ?_ | refine blk_alloc ?_ _)); refine blk_put (cs := #[.string a0_0, .string a0_1, .int .i64 a0_2, .bool false, .int .i64 0, .int .i64 0, .int .i64 0, .int .i64 0]) ?_ 5 _ rfl; (with_reducible repeat (first | refine blk_drewN ?_ _ | refine blk_drew ?_ | refine blk_alloc ?_ _)); refine blk_put (cs := #[.string a0_0, .string a0_1, .int .i64 a0_2, .bool false, .int .i64 0, .int .i64 0, .int .i64 0, .int .i64 0]) ?_ 4 _ rfl; (with_reducible repeat (first | refine blk_drewN ?_ _ | refine blk_drew ?_ | refine blk_alloc ?_ _)); refine blk_put (cs := #[.string a0_0, .string a0_1, .int .i64 a0_2, .bool false, .int .i64 0, .int .i64 0, .int .i64 0, .int .i64 0]) ?_ 3 _ rfl; (with_reducible repeat (first | refine blk_drewN ?_ _ | refine blk_drew ?_ | refine blk_alloc ?_ _)); refine blk_put (cs := #[.string a0_0, .string a0_1, .int .i64 0, .bool false, .int .i64 0, .int .i64 0, .int .i64 0, .int .i64 0]) ?_ 2 _ rfl; (with_reducible repeat (first | refine blk_drewN ?_ _ | refine blk_drew ?_ | refine blk_alloc ?_ _)); refine blk_put (cs := #[.string a0_0, .string (⟨#[]⟩ : ByteArray), .int .i64 0, .bool false, .int .i64 0, .int .i64 0, .int .i64 0, .int .i64 0]) ?_ 1 _ rfl; (with_reducible repeat (first | refine blk_drewN ?_ _ | refine blk_drew ?_ | refine blk_alloc ?_ _)); refine blk_put (cs := #[.string (⟨#[]⟩ : ByteArray), .string (⟨#[]⟩ : ByteArray), .int .i64 0, .bool false, .int .i64 0, .int .i64 0, .int .i64 0, .int .i64 0]) ?_ 0 _ rfl; (with_reducible repeat (first | refine blk_drewN ?_ _ | refine blk_drew ?_ | refine blk_alloc ?_ _)); refine blk_far ?_ NB400_399.out _; (with_reducible repeat (first | refine blk_drewN ?_ _ | refine blk_drew ?_ | refine blk_alloc ?_ _)); refine blk_far ?_ NB400_399.out _; (with_reducible repeat (first | refine blk_drewN ?_ _ | refine blk_drew ?_ | refine blk_alloc ?_ _)); refine blk_far ?_ NB400_399.out _; (with_reducible repeat (first | refine blk_drewN ?_ _ | refine blk_drew ?_ | refine blk_alloc ?_ _)); exact BK400.out) Tryd.underlying29 rfl (by kernel_rfl)) rfl ?_; exact ⟨ew, bwS⟩

end Go.Proofs.YtnnlhpmkfijppaaDoor.Fn
namespace Go.Proofs.YtnnlhpmkfijppaaDoor.Fn
open Go.RowKit Go.Proofs.YtnnlhpmkfijppaaDoorW.PrintWords Go.Proofs.YtnnlhpmkfijppaaDoorW.PrintLast Go.Proofs.YtnnlhpmkfijppaaDoorW.PrintMore
attribute [local go_sem] max2_int min2_int max_two min_two max_three min_three max_four min_four
set_option linter.unusedVariables false
set_option linter.unusedSimpArgs false

def bulletinlaw13_To.f (a0_0 : ByteArray) (a0_1 : ByteArray) : Option (ByteArray × ByteArray) := some (a0_0, a0_1)
set_option maxHeartbeats 8000000 in
set_option maxRecDepth 100000 in
theorem bulletinlaw13_To.calls (a0_0 : ByteArray) (a0_1 : ByteArray) (r1 : ByteArray) (r2 : ByteArray) (w : World) (h : bulletinlaw13_To.f a0_0 a0_1 = some (r1, r2)) :
  Calls Tryd.prog 14 #[.agg #[.string a0_0, .string a0_1]] w fun e w' => e = .returned (.agg #[.string r1, .string r2]) ∧ Below w.heap.size w w' := by
 have hu23 := Tryd.underlying23; have hu27 := Tryd.underlying27; have HB := Aside0.mk (Below.refl w.heap.size w); have H : (some (a0_0, a0_1)) = some (r1, r2) := h; clear h; simp only [Option.some.injEq, Prod.mk.injEq] at H; obtain ⟨rfl, rfl⟩ := H
 go_enter Tryd.func14, Tryd.ntmps14
 go_wp2_with (first | ((with_reducible refine gate_dst (N := 1) rfl ?_); refine box_event ?hg (N := 1) ?hd (cs := #[.string a0_0, .string a0_1]) (t := 23) ?hr ?_; (case hd => rfl); (case hg => rfl); (case hr => first | (go_simp; done) | (go_simp; rfl)); intro gb358 hg w2 hbox hb; have n0_ := Aside0.mk (below_step bw hb); have n1_ := Aside0.mk (hbox); have n2_ := Aside0.mk ((by rw [hg]; exact (below_size bw) : w.heap.size ≤ gb358)); have n3_ := Aside0.mk ((by rw [hg]; exact (below_size bw) : w.heap.size ≤ gb358)); clear HB; have HB := n0_; have BK358 := n1_; have GW358 := n2_; have GE358 := n3_; clear n0_ n1_ n2_ n3_; clear hb hbox hg) | ((with_reducible refine gate_dst (N := 2) rfl ?_); refine box_event ?hg (N := 2) ?hd (cs := #[.string (⟨#[]⟩ : ByteArray), .string (⟨#[]⟩ : ByteArray)]) (t := 27) ?hr ?_; (case hd => rfl); (case hg => rfl); (case hr => first | (go_simp; done) | (go_simp; rfl)); intro gb359 hg w3 hbox hb; have n0_ := Aside0.mk (blk_below (g := gb358) (o := .cells #[.string a0_0, .string a0_1] 23 (0, 0)) bk hb); have n1_ := Aside0.mk (below_step bwS hb); have n2_ := Aside0.mk (hbox); have n3_ := Aside0.mk ((by rw [hg]; exact (below_size bwS) : w.heap.size ≤ gb359)); have n4_ := Aside0.mk ((by rw [hg]; exact (below_size bwS) : w.heap.size ≤ gb359)); have n5_ := Aside0.mk ((by rw [hg]; exact Nat.ne_of_lt (blk_lt (g := gb358) (o := .cells #[.string a0_0, .string a0_1] 23 (0, 0)) bk) : gb358 ≠ gb359)); have n6_ := Aside0.mk ((by rw [hg]; exact Nat.ne_of_gt (blk_lt (g := gb358) (o := .cells #[.string a0_0, .string a0_1] 23 (0, 0)) bk) : gb359 ≠ gb358)); clear BK358; clear HB; have BK358 := n0_; have HB := n1_; have BK359 := n2_; have GW359 := n3_; have GE359 := n4_; have NB358_359 := n5_; have NB359_358 := n6_; clear n0_ n1_ n2_ n3_ n4_ n5_ n6_; clear hb hbox hg; have hnb4 := NB358_359.out; have hnc4 := NB359_358.out; have hcz5_0 : w3.cell? ⟨gb358, 0, none⟩ = some (.string a0_0) := (blk_cell BK358.out 0).trans rfl; have hcz5_1 : w3.cell? ⟨gb358, 1, none⟩ = some (.string a0_1) := (blk_cell BK358.out 1).trans rfl; have hfz5_0 := blk_frozen BK358.out 0; have hfz5_1 := blk_frozen BK358.out 1; have hcz6_0 : w3.cell? ⟨gb359, 0, none⟩ = some (.string (⟨#[]⟩ : ByteArray)) := (blk_cell BK359.out 0).trans rfl; have hcz6_1 : w3.cell? ⟨gb359, 1, none⟩ = some (.string (⟨#[]⟩ : ByteArray)) := (blk_cell BK359.out 1).trans rfl; have hfz6_0 := blk_frozen BK359.out 0; have hfz6_1 := blk_frozen BK359.out 1))
 refine bodyPost_ret (results_cell_row rfl _ _ gb359 27 #[.string a0_0, .string a0_1] (0, 0) _ rfl (by (with_reducible repeat (first | refine blk_drewN ?_ _ | refine blk_drew ?_ | refine blk_alloc ?_ _)); refine blk_put (cs := #[.string a0_0, .string (⟨#[]⟩ : ByteArray)]) ?_ 1 _ rfl; (with_reducible repeat (first | refine blk_drewN ?_ _ | refine blk_drew ?_ | refine blk_alloc ?_ _)); exact blk_put (cs := #[.string (⟨#[]⟩ : ByteArray), .string (⟨#[]⟩ : ByteArray)]) bk 0 _ rfl) Tryd.underlying27 rfl (by kernel_rfl)) rfl ?_; exact ⟨ew, bwS⟩

end Go.Proofs.YtnnlhpmkfijppaaDoor.Fn
namespace Go.Proofs.YtnnlhpmkfijppaaDoor.Fn
open Go.RowKit Go.Proofs.YtnnlhpmkfijppaaDoorW.PrintWords Go.Proofs.YtnnlhpmkfijppaaDoorW.PrintLast Go.Proofs.YtnnlhpmkfijppaaDoorW.PrintMore
attribute [local go_sem] max2_int min2_int max_two min_two max_three min_three max_four min_four
set_option linter.unusedVariables false
set_option linter.unusedSimpArgs false

def bulletinlaw33_To.f (a0_0 : ByteArray) (a0_1 : ByteArray) (a0_2 : Int) (a0_3 : Bool) (a0_4 : Int) (a0_5 : Int) (a0_6 : Int) (a0_7 : Int) : Option (ByteArray × ByteArray × Int × Bool × Int × Int × Int × Int) := (bulletinlaw13_To.f a0_0 a0_1).bind fun bt362 => (some (bt362.1, bt362.2, a0_2, a0_3, a0_4, a0_5, a0_6, a0_7))
def bulletinlaw33_To.T1 : Bool × List (List Nat × List Nat) := (true, [([], []), ([0], [0]), ([1], [1]), ([], []), ([3], [3]), ([], []), ([5], [5]), ([], []), ([7], [7]), ([], []), ([9], [9]), ([], []), ([11], [11]), ([], []), ([13], [13]), ([2, 4, 6, 8, 10, 12, 14], [2, 4, 6, 8, 10, 12, 14]), ([15, 2, 0, 1, 2, 3, 4, 5, 6, 7, 8, 9, 10, 11, 12, 13, 14, 15], [15])])
def bulletinlaw33_To.B1 : List Nat := [0, 1, 3, 0, 8, 0, 32, 0, 128, 0, 512, 0, 2048, 0, 8192, 32767, 65535]
theorem bulletinlaw33_To.tab1 : rtab .any (opsOf Tryd.f6 1) = bulletinlaw33_To.T1 := by kernel_rfl
theorem bulletinlaw33_To.bits1 : waitsOk bulletinlaw33_To.T1.2 bulletinlaw33_To.B1 = true := by kernel_rfl
set_option maxHeartbeats 8000000 in
set_option maxRecDepth 100000 in
theorem bulletinlaw33_To.calls (a0_0 : ByteArray) (a0_1 : ByteArray) (a0_2 : Int) (a0_3 : Bool) (a0_4 : Int) (a0_5 : Int) (a0_6 : Int) (a0_7 : Int) (r1 : ByteArray) (r2 : ByteArray) (r3 : Int) (r4 : Bool) (r5 : Int) (r6 : Int) (r7 : Int) (r8 : Int) (w : World) (h : bulletinlaw33_To.f a0_0 a0_1 a0_2 a0_3 a0_4 a0_5 a0_6 a0_7 = some (r1, r2, r3, r4, r5, r6, r7, r8)) :
  Calls Tryd.prog 6 #[.agg #[.string a0_0, .string a0_1, .int .i64 a0_2, .bool a0_3, .int .i64 a0_4, .int .i64 a0_5, .int .i64 a0_6, .int .i64 a0_7]] w fun e w' => e = .returned (.agg #[.string r1, .string r2, .int .i64 r3, .bool r4, .int .i64 r5, .int .i64 r6, .int .i64 r7, .int .i64 r8]) ∧ Below w.heap.size w w' := by
 have hu25 := Tryd.underlying25; have hu29 := Tryd.underlying29; have hu23 := Tryd.underlying23; have HB := Aside0.mk (Below.refl w.heap.size w); have H : ((bulletinlaw13_To.f a0_0 a0_1).bind fun bt362 => (some (bt362.1, bt362.2, a0_2, a0_3, a0_4, a0_5, a0_6, a0_7))) = some (r1, r2, r3, r4, r5, r6, r7, r8) := h; clear h; replace H := Option.bind_eq_some_iff.mp H; obtain ⟨⟨t362, t363⟩, A20, H⟩ := H; replace H : (some (t362, t363, a0_2, a0_3, a0_4, a0_5, a0_6, a0_7)) = some (r1, r2, r3, r4, r5, r6, r7, r8) := H; have A2 := Aside0.mk A20; clear A20; simp only [Option.some.injEq, Prod.mk.injEq] at H; obtain ⟨rfl, rfl, rfl, rfl, rfl, rfl, rfl, rfl⟩ := H
 go_enter Tryd.func6, Tryd.ntmps6
 try go_wp2_with (first | ((with_reducible refine gate_dst (N := 1) rfl ?_); refine box_event ?hg (N := 1) ?hd (cs := #[.string a0_0, .string a0_1, .int .i64 a0_2, .bool a0_3, .int .i64 a0_4, .int .i64 a0_5, .int .i64 a0_6, .int .i64 a0_7]) (t := 25) ?hr ?_; (case hd => rfl); (case hg => rfl); (case hr => first | (go_simp; done) | (go_simp; rfl)); intro gb360 hg w3 hbox hb; have n0_ := Aside0.mk (below_step bw hb); have n1_ := Aside0.mk (hbox); have n2_ := Aside0.mk ((by rw [hg]; exact (below_size bw) : w.heap.size ≤ gb360)); have n3_ := Aside0.mk ((by rw [hg]; exact (below_size bw) : w.heap.size ≤ gb360)); clear HB; have HB := n0_; have BK360 := n1_; have GW360 := n2_; have GE360 := n3_; clear n0_ n1_ n2_ n3_; clear hb hbox hg) | ((with_reducible refine gate_dst (N := 2) rfl ?_); refine box_event ?hg (N := 2) ?hd (cs := #[.string (⟨#[]⟩ : ByteArray), .string (⟨#[]⟩ : ByteArray), .int .i64 0, .bool false, .int .i64 0, .int .i64 0, .int .i64 0, .int .i64 0]) (t := 29) ?hr ?_; (case hd => rfl); (case hg => rfl); (case hr => first | (go_simp; done) | (go_simp; rfl)); intro gb361 hg w4 hbox hb; have n0_ := Aside0.mk (blk_below (g := gb360) (o := .cells #[.string a0_0, .string a0_1, .int .i64 a0_2, .bool a0_3, .int .i64 a0_4, .int .i64 a0_5, .int .i64 a0_6, .int .i64 a0_7] 25 (0, 0)) bk hb); have n1_ := Aside0.mk (below_step bwS hb); have n2_ := Aside0.mk (hbox); have n3_ := Aside0.mk ((by rw [hg]; exact (below_size bwS) : w.heap.size ≤ gb361)); have n4_ := Aside0.mk ((by rw [hg]; exact (below_size bwS) : w.heap.size ≤ gb361)); have n5_ := Aside0.mk ((by rw [hg]; exact Nat.ne_of_lt (blk_lt (g := gb360) (o := .cells #[.string a0_0, .string a0_1, .int .i64 a0_2, .bool a0_3, .int .i64 a0_4, .int .i64 a0_5, .int .i64 a0_6, .int .i64 a0_7] 25 (0, 0)) bk) : gb360 ≠ gb361)); have n6_ := Aside0.mk ((by rw [hg]; exact Nat.ne_of_gt (blk_lt (g := gb360) (o := .cells #[.string a0_0, .string a0_1, .int .i64 a0_2, .bool a0_3, .int .i64 a0_4, .int .i64 a0_5, .int .i64 a0_6, .int .i64 a0_7] 25 (0, 0)) bk) : gb361 ≠ gb360)); clear BK360; clear HB; have BK360 := n0_; have HB := n1_; have BK361 := n2_; have GW361 := n3_; have GE361 := n4_; have NB360_361 := n5_; have NB361_360 := n6_; clear n0_ n1_ n2_ n3_ n4_ n5_ n6_; clear hb hbox hg))
 have n0_ := Aside0.mk (blk_drew BK360.out); have n1_ := Aside0.mk (blk_drew BK361.out); have n2_ := Aside0.mk (below_drew1 HB.out); clear BK360 BK361 HB; have BK360 := n0_; have BK361 := n1_; have HB := n2_; clear n0_ n1_ n2_; refine start_ (n := 17) (S := fun w' => w'.cell? ⟨gb360, 0, none⟩ = some (.string a0_0) ∧ w'.cell? ⟨gb360, 1, none⟩ = some (.string a0_1) ∧ w'.cell? ⟨gb360, 2, none⟩ = some (.int .i64 a0_2) ∧ w'.cell? ⟨gb360, 3, none⟩ = some (.bool a0_3) ∧ w'.cell? ⟨gb360, 4, none⟩ = some (.int .i64 a0_4) ∧ w'.cell? ⟨gb360, 5, none⟩ = some (.int .i64 a0_5) ∧ w'.cell? ⟨gb360, 6, none⟩ = some (.int .i64 a0_6) ∧ w'.cell? ⟨gb360, 7, none⟩ = some (.int .i64 a0_7)) (ds := []) #[false, false, false, false, false, false, false, false, false, false, false, false, false, false, false, false, false] (by kernel_rfl) rfl rfl ⟨(blk_cell BK360.out 0).trans rfl, (blk_cell BK360.out 1).trans rfl, (blk_cell BK360.out 2).trans rfl, (blk_cell BK360.out 3).trans rfl, (blk_cell BK360.out 4).trans rfl, (blk_cell BK360.out 5).trans rfl, (blk_cell BK360.out 6).trans rfl, (blk_cell BK360.out 7).trans rfl⟩ (fun hHeld => ?_); refine with_tabW bulletinlaw33_To.tab1 bulletinlaw33_To.bits1 (fun HT_ HW_ => ?_)
 generalize w4.drew = w5 at BK360 BK361 HB hHeld ⊢
 refine pure_ (i := 0) (N := some 3) (v := ?_) (a' := ?_) (bitsL 17 1) rfl rfl (any_of HT_.out (by kernel_rfl)) (fun _ _ _ h => h) (Or.inl ⟨by rfl, ?_⟩) ?_ ?_; rotate_left
 ·intro w'; go_simp; with_reducible rfl
 rotate_left
 ·simp only [Act.put, List.setIfInBounds_toArray, List.set_cons_zero, List.set_cons_succ, i64_w, i32_w]; rfl
 refine pure_ (i := 3) (N := some 6) (v := ?_) (a' := ?_) (bitsL 17 9) rfl rfl (any_of HT_.out (by kernel_rfl)) (fun _ _ _ h => h) (Or.inl ⟨by rfl, ?_⟩) ?_ ?_; rotate_left
 ·intro w'; go_simp; with_reducible rfl
 rotate_left
 ·simp only [Act.put, List.setIfInBounds_toArray, List.set_cons_zero, List.set_cons_succ, i64_w, i32_w]; rfl
 refine pure_ (i := 5) (N := some 8) (v := ?_) (a' := ?_) (bitsL 17 41) rfl rfl (any_of HT_.out (by kernel_rfl)) (fun _ _ _ h => h) (Or.inl ⟨by rfl, ?_⟩) ?_ ?_; rotate_left
 ·intro w'; go_simp; with_reducible rfl
 rotate_left
 ·simp only [Act.put, List.setIfInBounds_toArray, List.set_cons_zero, List.set_cons_succ, i64_w, i32_w]; rfl
 refine pure_ (i := 7) (N := some 10) (v := ?_) (a' := ?_) (bitsL 17 169) rfl rfl (any_of HT_.out (by kernel_rfl)) (fun _ _ _ h => h) (Or.inl ⟨by rfl, ?_⟩) ?_ ?_; rotate_left
 ·intro w'; go_simp; with_reducible rfl
 rotate_left
 ·simp only [Act.put, List.setIfInBounds_toArray, List.set_cons_zero, List.set_cons_succ, i64_w, i32_w]; rfl
 refine pure_ (i := 9) (N := some 12) (v := ?_) (a' := ?_) (bitsL 17 681) rfl rfl (any_of HT_.out (by kernel_rfl)) (fun _ _ _ h => h) (Or.inl ⟨by rfl, ?_⟩) ?_ ?_; rotate_left
 ·intro w'; go_simp; with_reducible rfl
 rotate_left
 ·simp only [Act.put, List.setIfInBounds_toArray, List.set_cons_zero, List.set_cons_succ, i64_w, i32_w]; rfl
 refine pure_ (i := 11) (N := some 14) (v := ?_) (a' := ?_) (bitsL 17 2729) rfl rfl (any_of HT_.out (by kernel_rfl)) (fun _ _ _ h => h) (Or.inl ⟨by rfl, ?_⟩) ?_ ?_; rotate_left
 ·intro w'; go_simp; with_reducible rfl
 rotate_left
 ·simp only [Act.put, List.setIfInBounds_toArray, List.set_cons_zero, List.set_cons_succ, i64_w, i32_w]; rfl
 refine pure_ (i := 13) (N := some 16) (v := ?_) (a' := ?_) (bitsL 17 10921) rfl rfl (any_of HT_.out (by kernel_rfl)) (fun _ _ _ h => h) (Or.inl ⟨by rfl, ?_⟩) ?_ ?_; rotate_left
 ·intro w'; go_simp; with_reducible rfl
 rotate_left
 ·simp only [Act.put, List.setIfInBounds_toArray, List.set_cons_zero, List.set_cons_succ, i64_w, i32_w]; rfl
 refine take_ (i := 1) (N := some 4) (v := ?_) (a' := ?_) (bitsL 17 10923) rfl rfl (take_ofW HT_.out HW_.out (by kernel_rfl)) (fun _ _ _ h => h) (Or.inl ⟨by rfl, ?_⟩) hHeld ?_ ?_; rotate_left
 ·rintro w' ⟨s0, s1, s2, s3, s4, s5, s6, s7⟩; go_simp; with_reducible rfl
 rotate_left
 ·simp only [Act.put, List.setIfInBounds_toArray, List.set_cons_zero, List.set_cons_succ, i64_w, i32_w]; rfl
 refine take_ (i := 4) (N := some 7) (v := ?_) (a' := ?_) (bitsL 17 10939) rfl rfl (take_ofW HT_.out HW_.out (by kernel_rfl)) (fun _ _ _ h => h) (Or.inl ⟨by rfl, ?_⟩) hHeld ?_ ?_; rotate_left
 ·rintro w' ⟨s0, s1, s2, s3, s4, s5, s6, s7⟩; go_simp; with_reducible rfl
 rotate_left
 ·simp only [Act.put, List.setIfInBounds_toArray, List.set_cons_zero, List.set_cons_succ, i64_w, i32_w]; rfl
 refine take_ (i := 6) (N := some 9) (v := ?_) (a' := ?_) (bitsL 17 11003) rfl rfl (take_ofW HT_.out HW_.out (by kernel_rfl)) (fun _ _ _ h => h) (Or.inl ⟨by rfl, ?_⟩) hHeld ?_ ?_; rotate_left
 ·rintro w' ⟨s0, s1, s2, s3, s4, s5, s6, s7⟩; go_simp; with_reducible rfl
 rotate_left
 ·simp only [Act.put, List.setIfInBounds_toArray, List.set_cons_zero, List.set_cons_succ, i64_w, i32_w]; rfl
 refine take_ (i := 8) (N := some 11) (v := ?_) (a' := ?_) (bitsL 17 11259) rfl rfl (take_ofW HT_.out HW_.out (by kernel_rfl)) (fun _ _ _ h => h) (Or.inl ⟨by rfl, ?_⟩) hHeld ?_ ?_; rotate_left
 ·rintro w' ⟨s0, s1, s2, s3, s4, s5, s6, s7⟩; go_simp; with_reducible rfl
 rotate_left
 ·simp only [Act.put, List.setIfInBounds_toArray, List.set_cons_zero, List.set_cons_succ, i64_w, i32_w]; rfl
 refine take_ (i := 10) (N := some 13) (v := ?_) (a' := ?_) (bitsL 17 12283) rfl rfl (take_ofW HT_.out HW_.out (by kernel_rfl)) (fun _ _ _ h => h) (Or.inl ⟨by rfl, ?_⟩) hHeld ?_ ?_; rotate_left
 ·rintro w' ⟨s0, s1, s2, s3, s4, s5, s6, s7⟩; go_simp; with_reducible rfl
 rotate_left
 ·simp only [Act.put, List.setIfInBounds_toArray, List.set_cons_zero, List.set_cons_succ, i64_w, i32_w]; rfl
 refine take_ (i := 12) (N := some 15) (v := ?_) (a' := ?_) (bitsL 17 16379) rfl rfl (take_ofW HT_.out HW_.out (by kernel_rfl)) (fun _ _ _ h => h) (Or.inl ⟨by rfl, ?_⟩) hHeld ?_ ?_; rotate_left
 ·rintro w' ⟨s0, s1, s2, s3, s4, s5, s6, s7⟩; go_simp; with_reducible rfl
 rotate_left
 ·simp only [Act.put, List.setIfInBounds_toArray, List.set_cons_zero, List.set_cons_succ, i64_w, i32_w]; rfl
 refine take_ (i := 14) (N := some 17) (v := ?_) (a' := ?_) (bitsL 17 32763) rfl rfl (take_ofW HT_.out HW_.out (by kernel_rfl)) (fun _ _ _ h => h) (Or.inl ⟨by rfl, ?_⟩) hHeld ?_ ?_; rotate_left
 ·rintro w' ⟨s0, s1, s2, s3, s4, s5, s6, s7⟩; go_simp; with_reducible rfl
 rotate_left
 ·simp only [Act.put, List.setIfInBounds_toArray, List.set_cons_zero, List.set_cons_succ, i64_w, i32_w]; rfl
 refine one_ (i := 2) (N := some 5) (bitsL 17 32767) rfl rfl (one_of HT_.out (by kernel_rfl)) (by decide) (fun K hK => ?_); refine goes_ Tryd.func14 (by kernel_rfl) rfl #[.agg #[.string a0_0, .string a0_1]] (by rfl) rfl rfl am ?_; with_reducible refine (bulletinlaw13_To.calls a0_0 a0_1 t362 t363 _ A2.out).mono ?_
 rintro e w6 ⟨rfl, hb⟩; refine ⟨_, rfl, ?_⟩; have n0_ := Aside0.mk (blk_below (g := gb360) (o := .cells #[.string a0_0, .string a0_1, .int .i64 a0_2, .bool a0_3, .int .i64 a0_4, .int .i64 a0_5, .int .i64 a0_6, .int .i64 a0_7] 25 (0, 0)) bk hb); have n1_ := Aside0.mk (blk_below (g := gb361) (o := .cells #[.string (⟨#[]⟩ : ByteArray), .string (⟨#[]⟩ : ByteArray), .int .i64 0, .bool false, .int .i64 0, .int .i64 0, .int .i64 0, .int .i64 0] 29 (0, 0)) bk hb); have n2_ := Aside0.mk (below_step bwS hb); clear BK360 BK361 HB; have BK360 := n0_; have BK361 := n1_; have HB := n2_; clear n0_ n1_ n2_
 (try clear hb)
 (try clear hb2)
 (try clear hk)
 (try clear hi)
 refine hK.out _ _ ⟨(blk_cell BK360.out 0).trans rfl, (blk_cell BK360.out 1).trans rfl, (blk_cell BK360.out 2).trans rfl, (blk_cell BK360.out 3).trans rfl, (blk_cell BK360.out 4).trans rfl, (blk_cell BK360.out 5).trans rfl, (blk_cell BK360.out 6).trans rfl, (blk_cell BK360.out 7).trans rfl⟩ (fun hHeld => ?_); clear hK K; refine norm_ (a' := ?_) ?_ ?_; rotate_left
 ·show Act.put _ (some 5) _ = _
  simp only [Act.put, List.setIfInBounds_toArray, List.set_cons_zero, List.set_cons_succ, i64_w, i32_w]; rfl
 refine pure_ (i := 15) (N := some 18) (v := ?_) (a' := ?_) (bitsL 17 65535) rfl rfl (any_of HT_.out (by kernel_rfl)) (fun _ _ _ h => h) (Or.inl ⟨by rfl, ?_⟩) ?_ ?_; rotate_left
 ·intro w'; go_simp; with_reducible rfl
 rotate_left
 ·simp only [Act.put, List.setIfInBounds_toArray, List.set_cons_zero, List.set_cons_succ, i64_w, i32_w]; rfl
 refine one_ (i := 16) (N := none) (bitsL 17 131071) rfl rfl (one_of HT_.out (by kernel_rfl)) (by decide) (fun K hK => ?_); have hs7 : w6.cell? ⟨gb361, 0, none⟩ = some (.string (⟨#[]⟩ : ByteArray)) := (blk_cell BK361.out 0).trans rfl; have hfs7 := blk_frozen BK361.out 0; have hns7_0 := NB360_361.out; have hms7_0 := NB361_360.out; have hs8 : w6.cell? ⟨gb361, 1, none⟩ = some (.string (⟨#[]⟩ : ByteArray)) := (blk_cell BK361.out 1).trans rfl; have hfs8 := blk_frozen BK361.out 1; have hns8_0 := NB360_361.out; have hms8_0 := NB361_360.out; have hs9 : w6.cell? ⟨gb361, 2, none⟩ = some (.int .i64 0) := (blk_cell BK361.out 2).trans rfl; have hfs9 := blk_frozen BK361.out 2; have hns9_0 := NB360_361.out; have hms9_0 := NB361_360.out; have hs10 : w6.cell? ⟨gb361, 3, none⟩ = some (.bool false) := (blk_cell BK361.out 3).trans rfl; have hfs10 := blk_frozen BK361.out 3; have hns10_0 := NB360_361.out; have hms10_0 := NB361_360.out; have hs11 : w6.cell? ⟨gb361, 4, none⟩ = some (.int .i64 0) := (blk_cell BK361.out 4).trans rfl; have hfs11 := blk_frozen BK361.out 4; have hns11_0 := NB360_361.out; have hms11_0 := NB361_360.out; have hs12 : w6.cell? ⟨gb361, 5, none⟩ = some (.int .i64 0) := (blk_cell BK361.out 5).trans rfl; have hfs12 := blk_frozen BK361.out 5; have hns12_0 := NB360_361.out; have hms12_0 := NB361_360.out; have hs13 : w6.cell? ⟨gb361, 6, none⟩ = some (.int .i64 0) := (blk_cell BK361.out 6).trans rfl; have hfs13 := blk_frozen BK361.out 6; have hns13_0 := NB360_361.out; have hms13_0 := NB361_360.out; have hs14 : w6.cell? ⟨gb361, 7, none⟩ = some (.int .i64 0) := (blk_cell BK361.out 7).trans rfl; have hfs14 := blk_frozen BK361.out 7; have hns14_0 := NB360_361.out; have hms14_0 := NB361_360.out; refine skip_ (w1 := ?_) (by rfl) rfl ?_ ?_; rotate_left
 ·go_simp; rfl
 refine hK.out _ _ ⟨((cell_far (p := ⟨gb361, _, none⟩) NB360_361.out _).trans (((cell_far (p := ⟨gb361, _, none⟩) NB360_361.out _).trans (((cell_far (p := ⟨gb361, _, none⟩) NB360_361.out _).trans (((cell_far (p := ⟨gb361, _, none⟩) NB360_361.out _).trans (((cell_far (p := ⟨gb361, _, none⟩) NB360_361.out _).trans (((cell_far (p := ⟨gb361, _, none⟩) NB360_361.out _).trans (((cell_far (p := ⟨gb361, _, none⟩) NB360_361.out _).trans (((cell_far (p := ⟨gb361, _, none⟩) NB360_361.out _).trans (hHeld.1)))))))))))))))), ((cell_far (p := ⟨gb361, _, none⟩) NB360_361.out _).trans (((cell_far (p := ⟨gb361, _, none⟩) NB360_361.out _).trans (((cell_far (p := ⟨gb361, _, none⟩) NB360_361.out _).trans (((cell_far (p := ⟨gb361, _, none⟩) NB360_361.out _).trans (((cell_far (p := ⟨gb361, _, none⟩) NB360_361.out _).trans (((cell_far (p := ⟨gb361, _, none⟩) NB360_361.out _).trans (((cell_far (p := ⟨gb361, _, none⟩) NB360_361.out _).trans (((cell_far (p := ⟨gb361, _, none⟩) NB360_361.out _).trans (hHeld.2.1)))))))))))))))), ((cell_far (p := ⟨gb361, _, none⟩) NB360_361.out _).trans (((cell_far (p := ⟨gb361, _, none⟩) NB360_361.out _).trans (((cell_far (p := ⟨gb361, _, none⟩) NB360_361.out _).trans (((cell_far (p := ⟨gb361, _, none⟩) NB360_361.out _).trans (((cell_far (p := ⟨gb361, _, none⟩) NB360_361.out _).trans (((cell_far (p := ⟨gb361, _, none⟩) NB360_361.out _).trans (((cell_far (p := ⟨gb361, _, none⟩) NB360_361.out _).trans (((cell_far (p := ⟨gb361, _, none⟩) NB360_361.out _).trans (hHeld.2.2.1)))))))))))))))), ((cell_far (p := ⟨gb361, _, none⟩) NB360_361.out _).trans (((cell_far (p := ⟨gb361, _, none⟩) NB360_361.out _).trans (((cell_far (p := ⟨gb361, _, none⟩) NB360_361.out _).trans (((cell_far (p := ⟨gb361, _, none⟩) NB360_361.out _).trans (((cell_far (p := ⟨gb361, _, none⟩) NB360_361.out _).trans (((cell_far (p := ⟨gb361, _, none⟩) NB360_361.out _).trans (((cell_far (p := ⟨gb361, _, none⟩) NB360_361.out _).trans (((cell_far (p := ⟨gb361, _, none⟩) NB360_361.out _).trans (hHeld.2.2.2.1)))))))))))))))), ((cell_far (p := ⟨gb361, _, none⟩) NB360_361.out _).trans (((cell_far (p := ⟨gb361, _, none⟩) NB360_361.out _).trans (((cell_far (p := ⟨gb361, _, none⟩) NB360_361.out _).trans (((cell_far (p := ⟨gb361, _, none⟩) NB360_361.out _).trans (((cell_far (p := ⟨gb361, _, none⟩) NB360_361.out _).trans (((cell_far (p := ⟨gb361, _, none⟩) NB360_361.out _).trans (((cell_far (p := ⟨gb361, _, none⟩) NB360_361.out _).trans (((cell_far (p := ⟨gb361, _, none⟩) NB360_361.out _).trans (hHeld.2.2.2.2.1)))))))))))))))), ((cell_far (p := ⟨gb361, _, none⟩) NB360_361.out _).trans (((cell_far (p := ⟨gb361, _, none⟩) NB360_361.out _).trans (((cell_far (p := ⟨gb361, _, none⟩) NB360_361.out _).trans (((cell_far (p := ⟨gb361, _, none⟩) NB360_361.out _).trans (((cell_far (p := ⟨gb361, _, none⟩) NB360_361.out _).trans (((cell_far (p := ⟨gb361, _, none⟩) NB360_361.out _).trans (((cell_far (p := ⟨gb361, _, none⟩) NB360_361.out _).trans (((cell_far (p := ⟨gb361, _, none⟩) NB360_361.out _).trans (hHeld.2.2.2.2.2.1)))))))))))))))), ((cell_far (p := ⟨gb361, _, none⟩) NB360_361.out _).trans (((cell_far (p := ⟨gb361, _, none⟩) NB360_361.out _).trans (((cell_far (p := ⟨gb361, _, none⟩) NB360_361.out _).trans (((cell_far (p := ⟨gb361, _, none⟩) NB360_361.out _).trans (((cell_far (p := ⟨gb361, _, none⟩) NB360_361.out _).trans (((cell_far (p := ⟨gb361, _, none⟩) NB360_361.out _).trans (((cell_far (p := ⟨gb361, _, none⟩) NB360_361.out _).trans (((cell_far (p := ⟨gb361, _, none⟩) NB360_361.out _).trans (hHeld.2.2.2.2.2.2.1)))))))))))))))), ((cell_far (p := ⟨gb361, _, none⟩) NB360_361.out _).trans (((cell_far (p := ⟨gb361, _, none⟩) NB360_361.out _).trans (((cell_far (p := ⟨gb361, _, none⟩) NB360_361.out _).trans (((cell_far (p := ⟨gb361, _, none⟩) NB360_361.out _).trans (((cell_far (p := ⟨gb361, _, none⟩) NB360_361.out _).trans (((cell_far (p := ⟨gb361, _, none⟩) NB360_361.out _).trans (((cell_far (p := ⟨gb361, _, none⟩) NB360_361.out _).trans (((cell_far (p := ⟨gb361, _, none⟩) NB360_361.out _).trans (hHeld.2.2.2.2.2.2.2))))))))))))))))⟩ (fun hHeld => ?_); clear hK K; refine done_ (done_of HT_.out (by kernel_rfl)) ?_
 try go_wp2
 refine bodyPost_ret (results_cell_row rfl _ _ gb361 29 #[.string t362, .string t363, .int .i64 a0_2, .bool a0_3, .int .i64 a0_4, .int .i64 a0_5, .int .i64 a0_6, .int .i64 a0_7] (0, 0) _ rfl (by (with_reducible repeat (first | refine blk_drewN ?_ _ | refine blk_drew ?_ | refine blk_alloc ?_ _)); refine blk_put (cs := #[.string t362, .string t363, .int .i64 a0_2, .bool a0_3, .int .i64 a0_4, .int .i64 a0_5, .int .i64 a0_6, .int .i64 0]) ?_ 7 _ rfl; (with_reducible repeat (first | refine blk_drewN ?_ _ | refine blk_drew ?_ | refine blk_alloc ?_ _)); refine blk_put (cs := #[.string t362, .string t363, .int .i64 a0_2, .bool a0_3, .int .i64 a0_4, .int .i64 a0_5, .int .i64 0, .int .i64 0]) ?_ 6 _ rfl; (with_reducible repeat (first | refine blk_drewN ?_ _ | refine blk_drew ?_ | refine blk_alloc ?_ _)); refine blk_put (cs := #[.string t362, .string t363, .int .i64 a0_2, .bool a0_3, .int .i64 a0_4, .int .i64 0, .int .i64 0, .int .i64 0]) ?_ 5 _ rfl; (with_reducible repeat (first | refine blk_drewN ?_ _ | refine blk_drew ?_ | refine blk_alloc ?_ _)); refine blk_put (cs := #[.string t362, .string t363, .int .i64 a0_2, .bool a0_3, .int .i64 0, .int .i64 0, .int .i64 0, .int .i64 0]) ?_ 4 _ rfl; (with_reducible repeat (first | refine blk_drewN ?_ _ | refine blk_drew ?_ | refine blk_alloc ?_ _)); refine blk_put (cs := #[.string t362, .string t363, .int .i64 a0_2, .bool false, .int .i64 0, .int .i64 0, .int .i64 0, .int .i64 0]) ?_ 3 _ rfl; (with_reducible repeat (first | refine blk_drewN ?_ _ | refine blk_drew ?_ | refine blk_alloc ?_ _)); refine blk_put (cs := #[.string t362, .string t363, .int .i64 0, .bool false, .int .i64 0, .int .i64 0, .int .i64 0, .int .i64 0]) ?_ 2 _ rfl; (with_reducible repeat (first | refine blk_drewN ?_ _ | refine blk_drew ?_ | refine blk_alloc ?_ _)); refine blk_put (cs := #[.string t362, .string (⟨#[]⟩ : ByteArray), .int .i64 0, .bool false, .int .i64 0, .int .i64 0, .int .i64 0, .int .i64 0]) ?_ 1 _ rfl; (with_reducible repeat (first | refine blk_drewN ?_ _ | refine blk_drew ?_ | refine blk_alloc ?_ _)); exact blk_put (cs := #[.string (⟨#[]⟩ : ByteArray), .string (⟨#[]⟩ : ByteArray), .int .i64 0, .bool false, .int .i64 0, .int .i64 0, .int .i64 0, .int .i64 0]) bk 0 _ rfl) Tryd.underlying29 rfl (by kernel_rfl)) rfl ?_; exact ⟨ew, bwS⟩

end Go.Proofs.YtnnlhpmkfijppaaDoor.Fn
namespace Go.Proofs.YtnnlhpmkfijppaaDoor.Fn
open Go.RowKit Go.Proofs.YtnnlhpmkfijppaaDoorW.PrintWords Go.Proofs.YtnnlhpmkfijppaaDoorW.PrintLast Go.Proofs.YtnnlhpmkfijppaaDoorW.PrintMore
attribute [local go_sem high] eqA27
set_option linter.unusedVariables false
set_option linter.unusedSimpArgs false
/-! Layer 33: RosterOnce, walked by hand. -/
structure OnceIn (a b : ByteArray) (mode : Int) (off : Bool) (sc dy tk sn : Int) (l1 : List Int) (most : Int) : Prop where
 off : off = false
 len : l1.length ≤ 100
 lo : 1 ≤ most
 hi : most ≤ 1000
 sc0 : 0 ≤ sc
 sc1 : sc < most
set_option maxHeartbeats 8000000 in
set_option maxRecDepth 100000 in
theorem once_loop (r6 rc : Code) (hrc : ∃ c0 c1 c2 c3, Tryd.f4.body = some (.seq c0 (.seq c1 (.seq c2 (.seq c3 (.seq r6 rc)))))) (k : Nat) (hk : 1000 ≤ k) (a b : ByteArray) (mode : Int) (off : Bool) (sc dy tk sn : Int) (A1 : Option Addr) (c1 : Nat) (l1 : List Int) (most : Int) (w ws : World) (gq gm : Nat) {u0 u4 u5 u8 u9 u10 u11 u12 u13 u14 u15 u16 u17 u18 u19 u20 u21 u22 u23 u24 u25 u26 u27 u28 u29 u30 u31 u32 u33 u34 u35 u36 u37 u38 u39 u40 u41 u42 u43 u44 u45 u46 u47 u48 u49 u50 u51 u52 u53 u54 u55 u56 u57 u58 u59 u60 u61 u62 u63 u64 u65 u66 u67 u68 u69 u70 u71 u72 u73 u74 u75 u76 u77 u78 u79 u80 u81 u82 u83 u84 u85 u86 u87 u88 u89 u90 u91 u92 u93 u94 u95 u96 u97 u98 u99 u100 u101 u102 u103 u104 u105 u106 u107 u108 u109 u110 u111 u112 u113 u114 u115 u116 u117 u118 u119 u120 u121 u122 : Value}
  (ho : OnceIn a b mode off sc dy tk sn l1 most) (hr1 : Kd.C (Kd.int .i64) w A1 l1.length l1) (hB : Below w.heap.size w ws) (hq : ws.heap[gq]? = some (.cells #[.string a, .string b, .int .i64 mode, .bool off, .int .i64 sc, .int .i64 dy, .int .i64 tk, .int .i64 sn] 25 (0, 0))) (hm : ws.heap[gm]? = some (.cells #[.string a, .string b, .int .i64 mode, .bool off, .int .i64 sc, .int .i64 dy, .int .i64 tk, .int .i64 sn] 29 (0, 0))) (hne : gq ≠ gm) (hge : w.heap.size ≤ gm)
  (K : Act → World → Prop) (hK : ∀ a_ w_, rc.wp Tryd.prog (bodyPost Tryd.prog Tryd.f4 fun e w' => e = .returned (.bool true) ∧ Below w.heap.size w w') a_ w_ → K a_ w_) :
  Code.wp Tryd.prog r6 (Exit.then K (bodyPost Tryd.prog Tryd.f4 fun e w' => e = .returned (.bool true) ∧ Below w.heap.size w w'))
   { tmps := #[u0, .slice A1 l1.length c1, .int .i64 most, .pointer (some ⟨gq, 0, none⟩), u4, u5, .bool false, .pointer (some ⟨gm, 0, none⟩), u8, u9, u10, u11, u12, u13, u14, u15, u16, u17, u18, u19, u20, u21, u22, u23, u24, u25, u26, u27, u28, u29, u30, u31, u32, u33, u34, u35, u36, u37, u38, u39, u40, u41, u42, u43, u44, u45, u46, u47, u48, u49, u50, u51, u52, u53, u54, u55, u56, u57, u58, u59, u60, u61, u62, u63, u64, u65, u66, u67, u68, u69, u70, u71, u72, u73, u74, u75, u76, u77, u78, u79, u80, u81, u82, u83, u84, u85, u86, u87, u88, u89, u90, u91, u92, u93, u94, u95, u96, u97, u98, u99, u100, u101, u102, u103, u104, u105, u106, u107, u108, u109, u110, u111, u112, u113, u114, u115, u116, u117, u118, u119, u120, u121, u122], defers := [] } ws := by
 have hu29 := Tryd.underlying29
 have hu25 := Tryd.underlying25
 have hu27 := Tryd.underlying27
 obtain ⟨c0, c2, c3, c4, hrc⟩ := hrc
 unfold Tryd.f4 at hrc
 simp only [Option.some.injEq, Code.seq.injEq] at hrc
 obtain ⟨_, _, _, _, rfl, rfl⟩ := hrc
 obtain ⟨rfl, hl1, hlo, hhi, hs0, hs1⟩ := ho
 have HB := Aside0.mk hB
 have BQ := Aside0.mk hq
 have BM := Aside0.mk hm
 have GE := Aside0.mk hge
 have NE := Aside0.mk hne
 have HR := Aside0.mk hr1
 clear hB hq hm hge hne hr1
 have hnc : gq ≠ gm := NE.out
 have hnb : gm ≠ gq := NE.out.symm
 have hcm_0 : ws.cell? ⟨gm, 0, none⟩ = some (.string a) := (blk_cell BM.out 0).trans rfl
 have hcm_1 : ws.cell? ⟨gm, 1, none⟩ = some (.string b) := (blk_cell BM.out 1).trans rfl
 have hcm_2 : ws.cell? ⟨gm, 2, none⟩ = some (.int .i64 mode) := (blk_cell BM.out 2).trans rfl
 have hcm_3 : ws.cell? ⟨gm, 3, none⟩ = some (.bool false) := (blk_cell BM.out 3).trans rfl
 have hcm_4 : ws.cell? ⟨gm, 4, none⟩ = some (.int .i64 sc) := (blk_cell BM.out 4).trans rfl
 have hcm_5 : ws.cell? ⟨gm, 5, none⟩ = some (.int .i64 dy) := (blk_cell BM.out 5).trans rfl
 have hcm_6 : ws.cell? ⟨gm, 6, none⟩ = some (.int .i64 tk) := (blk_cell BM.out 6).trans rfl
 have hcm_7 : ws.cell? ⟨gm, 7, none⟩ = some (.int .i64 sn) := (blk_cell BM.out 7).trans rfl
 have hfm_0 := blk_frozen BM.out 0
 have hfm_1 := blk_frozen BM.out 1
 have hfm_2 := blk_frozen BM.out 2
 have hfm_3 := blk_frozen BM.out 3
 have hfm_4 := blk_frozen BM.out 4
 have hfm_5 := blk_frozen BM.out 5
 have hfm_6 := blk_frozen BM.out 6
 have hfm_7 := blk_frozen BM.out 7
 repeat (go_quiet (fail); try go_wp2)
 (try clear hcm_0 hfm_0 hcm_1 hfm_1 hcm_2 hfm_2 hcm_3 hfm_3 hcm_4 hfm_4 hcm_5 hfm_5 hcm_6 hfm_6 hcm_7 hfm_7)
 go_loopw [8, 9, 49] (fun v8 v9 v49 wr => ∃ (i : Nat) (x y : Int), v8 = .int .i64 x ∧ v9 = .int .i64 y ∧ v49 = .int .i64 i ∧ i ≤ l1.length ∧ 0 ≤ x ∧ x ≤ most ∧ Aside0 (wr.heap[gm]? = some (.cells #[.string a, .string b, .int .i64 mode, .bool (decide (x ≥ most)), .int .i64 x, .int .i64 y, .int .i64 tk, .int .i64 sn] 29 (0, 0))) ∧ Aside0 (wr.heap[gq]? = some (.cells #[.string a, .string b, .int .i64 mode, .bool false, .int .i64 sc, .int .i64 dy, .int .i64 tk, .int .i64 sn] 25 (0, 0))) ∧ Aside0 (Below w.heap.size w wr)) (fun _ _ v49 _ => l1.length - (intOf v49).toNat)
 case atStart =>
  refine ⟨0, sc, dy, rfl, rfl, rfl, Nat.zero_le _, hs0, by omega, ⟨?_⟩, ⟨?_⟩, ⟨?_⟩⟩
  ·rw [decide_eq_false (show ¬ sc ≥ most by omega)]
   (with_reducible repeat (first | refine blk_drewN ?_ _ | refine blk_drew ?_))
   exact BM.out
  ·(with_reducible repeat (first | refine blk_drewN ?_ _ | refine blk_drew ?_))
   exact BQ.out
  ·repeat (first | (with_reducible first | exact HB.out | apply pw_below_drewN | apply below_drew1) | exact HB.out)
 case round =>
  clear BM BQ HB
  obtain ⟨i, x, y, rfl, rfl, rfl, hi, hx0, hx1, BM, BQ, HB⟩ := hrel
  by_cases hlt : i < l1.length
  ·obtain ⟨ad, e1, hx⟩ := Kd.at_int HR.out (i : Int) (by omega) (by omega)
   cases e1
   replace hx := (HB.out.cell (World.block_lt_of_cell? w _ hx)).trans hx
   rw [Int.toNat_natCast] at hx
   generalize rd l1 (i : Int) = d at hx
   have q1 : ((0 : Int) ≤ (i : Int)) = True := eq_true (by omega)
   have q2 : ((i : Int) < (l1.length : Int)) = True := eq_true (by omega)
   have q3 : decide ((i : Int) < (l1.length : Int)) = true := decide_eq_true (by omega)
   have q4 : decide (i < l1.length) = true := decide_eq_true hlt
   have key : (x < most ∧ d = y) ∨ (x < most ∧ d ≠ y ∧ x + 1 < most) ∨ (x < most ∧ d ≠ y ∧ ¬ x + 1 < most) ∨ ¬ x < most := by omega
   have hw2 : x < most → wrap64 (x + 1) = x + 1 := fun _ => Pl.wrap_id (by omega) (by omega)
   rcases key with ⟨k1, k2⟩ | ⟨k1, k2, k3⟩ | ⟨k1, k2, k3⟩ | k1
   ·have z1 : decide (x < most) = true := decide_eq_true (by omega)
    have z2 : (x < most) = True := eq_true (by omega)
    have z3 : decide (most ≤ x) = false := decide_eq_false (by omega)
    have z4 : (most ≤ x) = False := eq_false (by omega)
    have d1 : (d == y) = true := beq_iff_eq.mpr k2
    have d2 : (d != y) = false := bne_eq_false_iff_eq.mpr k2
    have hbo : Aside0 (roster_Member_Bounced.f k a b mode false x y tk sn d most = some (a, b, mode, false, x, y, tk, sn)) := ⟨by obtain ⟨k, rfl⟩ : ∃ q, k = q + 1 := ⟨k - 1, by omega⟩; unfold roster_Member_Bounced.f; rw [if_neg (by decide), d1, roster_Member_Bounced.j0, if_pos rfl]⟩
    rw [show decide (x ≥ most) = false from decide_eq_false (by omega)] at BM
    have hcm_0 : wr.cell? ⟨gm, 0, none⟩ = some (.string a) := (blk_cell BM.out 0).trans rfl
    have hcm_1 : wr.cell? ⟨gm, 1, none⟩ = some (.string b) := (blk_cell BM.out 1).trans rfl
    have hcm_2 : wr.cell? ⟨gm, 2, none⟩ = some (.int .i64 mode) := (blk_cell BM.out 2).trans rfl
    have hcm_3 : wr.cell? ⟨gm, 3, none⟩ = some (.bool false) := (blk_cell BM.out 3).trans rfl
    have hcm_4 : wr.cell? ⟨gm, 4, none⟩ = some (.int .i64 x) := (blk_cell BM.out 4).trans rfl
    have hcm_5 : wr.cell? ⟨gm, 5, none⟩ = some (.int .i64 y) := (blk_cell BM.out 5).trans rfl
    have hcm_6 : wr.cell? ⟨gm, 6, none⟩ = some (.int .i64 tk) := (blk_cell BM.out 6).trans rfl
    have hcm_7 : wr.cell? ⟨gm, 7, none⟩ = some (.int .i64 sn) := (blk_cell BM.out 7).trans rfl
    have hfm_0 := blk_frozen BM.out 0
    have hfm_1 := blk_frozen BM.out 1
    have hfm_2 := blk_frozen BM.out 2
    have hfm_3 := blk_frozen BM.out 3
    have hfm_4 := blk_frozen BM.out 4
    have hfm_5 := blk_frozen BM.out 5
    have hfm_6 := blk_frozen BM.out 6
    have hfm_7 := blk_frozen BM.out 7
    have hg : Aside0 (roster_Member_Gets.f a b mode false x y tk sn mode = some (!false)) := ⟨by unfold roster_Member_Gets.f; rw [if_pos rfl]⟩
    have KK := Aside0.mk (k1)
    clear k1 k2
    go_upto_region 11 with (go_at_call 10; (with_reducible refine (roster_Member_Bounced.calls k a b mode false x y tk sn d most a b mode false x y tk sn _ hbo.out).mono ?_); rintro e w54 ⟨rfl, hb⟩; have n0_ := Aside0.mk (below_step HB.out hb); have n1_ := Aside0.mk (blk_below BM.out hb); have n2_ := Aside0.mk (blk_below BQ.out hb); clear HB BM BQ hb; have HB := n0_; have BM := n1_; have BQ := n2_; clear n0_ n1_ n2_; (try clear hcm_0 hfm_0 hcm_1 hfm_1 hcm_2 hfm_2 hcm_3 hfm_3 hcm_4 hfm_4 hcm_5 hfm_5 hcm_6 hfm_6 hcm_7 hfm_7); have hcm_0 : w54.cell? ⟨gm, 0, none⟩ = some (.string a) := (blk_cell BM.out 0).trans rfl; have hcm_1 : w54.cell? ⟨gm, 1, none⟩ = some (.string b) := (blk_cell BM.out 1).trans rfl; have hcm_2 : w54.cell? ⟨gm, 2, none⟩ = some (.int .i64 mode) := (blk_cell BM.out 2).trans rfl; have hcm_3 : w54.cell? ⟨gm, 3, none⟩ = some (.bool false) := (blk_cell BM.out 3).trans rfl; have hcm_4 : w54.cell? ⟨gm, 4, none⟩ = some (.int .i64 x) := (blk_cell BM.out 4).trans rfl; have hcm_5 : w54.cell? ⟨gm, 5, none⟩ = some (.int .i64 y) := (blk_cell BM.out 5).trans rfl; have hcm_6 : w54.cell? ⟨gm, 6, none⟩ = some (.int .i64 tk) := (blk_cell BM.out 6).trans rfl; have hcm_7 : w54.cell? ⟨gm, 7, none⟩ = some (.int .i64 sn) := (blk_cell BM.out 7).trans rfl; have hfm_0 := blk_frozen BM.out 0; have hfm_1 := blk_frozen BM.out 1; have hfm_2 := blk_frozen BM.out 2; have hfm_3 := blk_frozen BM.out 3; have hfm_4 := blk_frozen BM.out 4; have hfm_5 := blk_frozen BM.out 5; have hfm_6 := blk_frozen BM.out 6; have hfm_7 := blk_frozen BM.out 7)
    (try clear hcm_0 hfm_0 hcm_1 hfm_1 hcm_2 hfm_2 hcm_3 hfm_3 hcm_4 hfm_4 hcm_5 hfm_5 hcm_6 hfm_6 hcm_7 hfm_7)
    have n0_ : Aside0 (Below w.heap.size w ((((((((w54.setCell ⟨gm, 0, none⟩ (.string a)).setCell ⟨gm, 1, none⟩ (.string b)).setCell ⟨gm, 2, none⟩ (.int .i64 mode)).setCell ⟨gm, 3, none⟩ (.bool false)).setCell ⟨gm, 4, none⟩ (.int .i64 x)).setCell ⟨gm, 5, none⟩ (.int .i64 y)).setCell ⟨gm, 6, none⟩ (.int .i64 tk)).setCell ⟨gm, 7, none⟩ (.int .i64 sn))) := ⟨member_below HB.out GE.out⟩
    have n1_ : Aside0 (((((((((w54.setCell ⟨gm, 0, none⟩ (.string a)).setCell ⟨gm, 1, none⟩ (.string b)).setCell ⟨gm, 2, none⟩ (.int .i64 mode)).setCell ⟨gm, 3, none⟩ (.bool false)).setCell ⟨gm, 4, none⟩ (.int .i64 x)).setCell ⟨gm, 5, none⟩ (.int .i64 y)).setCell ⟨gm, 6, none⟩ (.int .i64 tk)).setCell ⟨gm, 7, none⟩ (.int .i64 sn)).heap[gm]? = some (.cells #[.string a, .string b, .int .i64 mode, .bool false, .int .i64 x, .int .i64 y, .int .i64 tk, .int .i64 sn] 29 (0, 0))) := ⟨member_blk (.string a) (.string b) (.int .i64 mode) (.bool false) (.int .i64 x) (.int .i64 y) (.int .i64 tk) (.int .i64 sn) BM.out⟩
    have n2_ : Aside0 (((((((((w54.setCell ⟨gm, 0, none⟩ (.string a)).setCell ⟨gm, 1, none⟩ (.string b)).setCell ⟨gm, 2, none⟩ (.int .i64 mode)).setCell ⟨gm, 3, none⟩ (.bool false)).setCell ⟨gm, 4, none⟩ (.int .i64 x)).setCell ⟨gm, 5, none⟩ (.int .i64 y)).setCell ⟨gm, 6, none⟩ (.int .i64 tk)).setCell ⟨gm, 7, none⟩ (.int .i64 sn)).heap[gq]? = some (.cells #[.string a, .string b, .int .i64 mode, .bool false, .int .i64 sc, .int .i64 dy, .int .i64 tk, .int .i64 sn] 25 (0, 0))) := ⟨member_other BQ.out NE.out⟩
    clear HB BM BQ
    generalize ((((((((w54.setCell ⟨gm, 0, none⟩ (.string a)).setCell ⟨gm, 1, none⟩ (.string b)).setCell ⟨gm, 2, none⟩ (.int .i64 mode)).setCell ⟨gm, 3, none⟩ (.bool false)).setCell ⟨gm, 4, none⟩ (.int .i64 x)).setCell ⟨gm, 5, none⟩ (.int .i64 y)).setCell ⟨gm, 6, none⟩ (.int .i64 tk)).setCell ⟨gm, 7, none⟩ (.int .i64 sn)) = w55 at n0_ n1_ n2_ ⊢
    have HB := n0_
    have BM := n1_
    have BQ := n2_
    clear n0_ n1_ n2_
    have hcm_0 : w55.cell? ⟨gm, 0, none⟩ = some (.string a) := (blk_cell BM.out 0).trans rfl
    have hcm_1 : w55.cell? ⟨gm, 1, none⟩ = some (.string b) := (blk_cell BM.out 1).trans rfl
    have hcm_2 : w55.cell? ⟨gm, 2, none⟩ = some (.int .i64 mode) := (blk_cell BM.out 2).trans rfl
    have hcm_3 : w55.cell? ⟨gm, 3, none⟩ = some (.bool false) := (blk_cell BM.out 3).trans rfl
    have hcm_4 : w55.cell? ⟨gm, 4, none⟩ = some (.int .i64 x) := (blk_cell BM.out 4).trans rfl
    have hcm_5 : w55.cell? ⟨gm, 5, none⟩ = some (.int .i64 y) := (blk_cell BM.out 5).trans rfl
    have hcm_6 : w55.cell? ⟨gm, 6, none⟩ = some (.int .i64 tk) := (blk_cell BM.out 6).trans rfl
    have hcm_7 : w55.cell? ⟨gm, 7, none⟩ = some (.int .i64 sn) := (blk_cell BM.out 7).trans rfl
    have hfm_0 := blk_frozen BM.out 0
    have hfm_1 := blk_frozen BM.out 1
    have hfm_2 := blk_frozen BM.out 2
    have hfm_3 := blk_frozen BM.out 3
    have hfm_4 := blk_frozen BM.out 4
    have hfm_5 := blk_frozen BM.out 5
    have hfm_6 := blk_frozen BM.out 6
    have hfm_7 := blk_frozen BM.out 7
    have hcq_0 : w55.cell? ⟨gq, 0, none⟩ = some (.string a) := (blk_cell BQ.out 0).trans rfl
    have hcq_1 : w55.cell? ⟨gq, 1, none⟩ = some (.string b) := (blk_cell BQ.out 1).trans rfl
    have hcq_2 : w55.cell? ⟨gq, 2, none⟩ = some (.int .i64 mode) := (blk_cell BQ.out 2).trans rfl
    have hcq_3 : w55.cell? ⟨gq, 3, none⟩ = some (.bool false) := (blk_cell BQ.out 3).trans rfl
    have hcq_4 : w55.cell? ⟨gq, 4, none⟩ = some (.int .i64 sc) := (blk_cell BQ.out 4).trans rfl
    have hcq_5 : w55.cell? ⟨gq, 5, none⟩ = some (.int .i64 dy) := (blk_cell BQ.out 5).trans rfl
    have hcq_6 : w55.cell? ⟨gq, 6, none⟩ = some (.int .i64 tk) := (blk_cell BQ.out 6).trans rfl
    have hcq_7 : w55.cell? ⟨gq, 7, none⟩ = some (.int .i64 sn) := (blk_cell BQ.out 7).trans rfl
    have hfq_0 := blk_frozen BQ.out 0
    have hfq_1 := blk_frozen BQ.out 1
    have hfq_2 := blk_frozen BQ.out 2
    have hfq_3 := blk_frozen BQ.out 3
    have hfq_4 := blk_frozen BQ.out 4
    have hfq_5 := blk_frozen BQ.out 5
    have hfq_6 := blk_frozen BQ.out 6
    have hfq_7 := blk_frozen BQ.out 7
    go_wp2_with (go_at_call 11; (with_reducible refine (roster_Member_Gets.calls a b mode false x y tk sn mode (!false) _ hg.out).mono ?_); rintro e w56 ⟨rfl, hb⟩; have n0_ := Aside0.mk (below_step HB.out hb); have n1_ := Aside0.mk (blk_below BM.out hb); have n2_ := Aside0.mk (blk_below BQ.out hb); clear HB BM BQ hb; have HB := n0_; have BM := n1_; have BQ := n2_; clear n0_ n1_ n2_)
    go_roundw
    case rel =>
     have KO := KK.out
     refine ⟨i + 1, x, y, by first | rfl | go_num, by first | rfl | go_num, by go_num, by omega, by omega, by omega, ⟨?_⟩, BQ, HB⟩
     rw [show decide (x ≥ most) = false from decide_eq_false (by omega)]
     exact BM.out
    case measure => simp [intOf]; omega
   ·have z1 : decide (x < most) = true := decide_eq_true (by omega)
    have z2 : (x < most) = True := eq_true (by omega)
    have z3 : decide (most ≤ x) = false := decide_eq_false (by omega)
    have z4 : (most ≤ x) = False := eq_false (by omega)
    have d1 : (d == y) = false := beq_eq_false_iff_ne.mpr k2
    have d2 : (d != y) = true := bne_iff_ne.mpr k2
    replace hw2 := hw2 k1
    have p1 : decide (most ≤ x + 1) = false := decide_eq_false (by omega)
    have p2 : (most ≤ x + 1) = False := eq_false (by omega)
    have p3 : decide (x + 1 < most) = true := decide_eq_true (by omega)
    have p4 : (x + 1 < most) = True := eq_true (by omega)
    have hbo : Aside0 (roster_Member_Bounced.f k a b mode false x y tk sn d most = some (a, b, mode, false, (x + 1), d, tk, sn)) := ⟨by obtain ⟨k, rfl⟩ : ∃ q, k = q + 1 := ⟨k - 1, by omega⟩; unfold roster_Member_Bounced.f; rw [if_neg (by decide), d1, roster_Member_Bounced.j0, if_neg (by decide), if_pos (by omega), hw2, show decide (x + 1 ≥ most) = false from p1]⟩
    have k3_ := k3
    clear k3_
    rw [show decide (x ≥ most) = false from decide_eq_false (by omega)] at BM
    have hcm_0 : wr.cell? ⟨gm, 0, none⟩ = some (.string a) := (blk_cell BM.out 0).trans rfl
    have hcm_1 : wr.cell? ⟨gm, 1, none⟩ = some (.string b) := (blk_cell BM.out 1).trans rfl
    have hcm_2 : wr.cell? ⟨gm, 2, none⟩ = some (.int .i64 mode) := (blk_cell BM.out 2).trans rfl
    have hcm_3 : wr.cell? ⟨gm, 3, none⟩ = some (.bool false) := (blk_cell BM.out 3).trans rfl
    have hcm_4 : wr.cell? ⟨gm, 4, none⟩ = some (.int .i64 x) := (blk_cell BM.out 4).trans rfl
    have hcm_5 : wr.cell? ⟨gm, 5, none⟩ = some (.int .i64 y) := (blk_cell BM.out 5).trans rfl
    have hcm_6 : wr.cell? ⟨gm, 6, none⟩ = some (.int .i64 tk) := (blk_cell BM.out 6).trans rfl
    have hcm_7 : wr.cell? ⟨gm, 7, none⟩ = some (.int .i64 sn) := (blk_cell BM.out 7).trans rfl
    have hfm_0 := blk_frozen BM.out 0
    have hfm_1 := blk_frozen BM.out 1
    have hfm_2 := blk_frozen BM.out 2
    have hfm_3 := blk_frozen BM.out 3
    have hfm_4 := blk_frozen BM.out 4
    have hfm_5 := blk_frozen BM.out 5
    have hfm_6 := blk_frozen BM.out 6
    have hfm_7 := blk_frozen BM.out 7
    have hg : Aside0 (roster_Member_Gets.f a b mode false (x + 1) d tk sn mode = some (!false)) := ⟨by unfold roster_Member_Gets.f; rw [if_pos rfl]⟩
    have KK := Aside0.mk (And.intro k1 (k3))
    clear k1 k3 k2
    go_upto_region 11 with (go_at_call 10; (with_reducible refine (roster_Member_Bounced.calls k a b mode false x y tk sn d most a b mode false (x + 1) d tk sn _ hbo.out).mono ?_); rintro e w54 ⟨rfl, hb⟩; have n0_ := Aside0.mk (below_step HB.out hb); have n1_ := Aside0.mk (blk_below BM.out hb); have n2_ := Aside0.mk (blk_below BQ.out hb); clear HB BM BQ hb; have HB := n0_; have BM := n1_; have BQ := n2_; clear n0_ n1_ n2_; (try clear hcm_0 hfm_0 hcm_1 hfm_1 hcm_2 hfm_2 hcm_3 hfm_3 hcm_4 hfm_4 hcm_5 hfm_5 hcm_6 hfm_6 hcm_7 hfm_7); have hcm_0 : w54.cell? ⟨gm, 0, none⟩ = some (.string a) := (blk_cell BM.out 0).trans rfl; have hcm_1 : w54.cell? ⟨gm, 1, none⟩ = some (.string b) := (blk_cell BM.out 1).trans rfl; have hcm_2 : w54.cell? ⟨gm, 2, none⟩ = some (.int .i64 mode) := (blk_cell BM.out 2).trans rfl; have hcm_3 : w54.cell? ⟨gm, 3, none⟩ = some (.bool false) := (blk_cell BM.out 3).trans rfl; have hcm_4 : w54.cell? ⟨gm, 4, none⟩ = some (.int .i64 x) := (blk_cell BM.out 4).trans rfl; have hcm_5 : w54.cell? ⟨gm, 5, none⟩ = some (.int .i64 y) := (blk_cell BM.out 5).trans rfl; have hcm_6 : w54.cell? ⟨gm, 6, none⟩ = some (.int .i64 tk) := (blk_cell BM.out 6).trans rfl; have hcm_7 : w54.cell? ⟨gm, 7, none⟩ = some (.int .i64 sn) := (blk_cell BM.out 7).trans rfl; have hfm_0 := blk_frozen BM.out 0; have hfm_1 := blk_frozen BM.out 1; have hfm_2 := blk_frozen BM.out 2; have hfm_3 := blk_frozen BM.out 3; have hfm_4 := blk_frozen BM.out 4; have hfm_5 := blk_frozen BM.out 5; have hfm_6 := blk_frozen BM.out 6; have hfm_7 := blk_frozen BM.out 7)
    (try clear hcm_0 hfm_0 hcm_1 hfm_1 hcm_2 hfm_2 hcm_3 hfm_3 hcm_4 hfm_4 hcm_5 hfm_5 hcm_6 hfm_6 hcm_7 hfm_7)
    have n0_ : Aside0 (Below w.heap.size w ((((((((w54.setCell ⟨gm, 0, none⟩ (.string a)).setCell ⟨gm, 1, none⟩ (.string b)).setCell ⟨gm, 2, none⟩ (.int .i64 mode)).setCell ⟨gm, 3, none⟩ (.bool false)).setCell ⟨gm, 4, none⟩ (.int .i64 (x + 1))).setCell ⟨gm, 5, none⟩ (.int .i64 d)).setCell ⟨gm, 6, none⟩ (.int .i64 tk)).setCell ⟨gm, 7, none⟩ (.int .i64 sn))) := ⟨member_below HB.out GE.out⟩
    have n1_ : Aside0 (((((((((w54.setCell ⟨gm, 0, none⟩ (.string a)).setCell ⟨gm, 1, none⟩ (.string b)).setCell ⟨gm, 2, none⟩ (.int .i64 mode)).setCell ⟨gm, 3, none⟩ (.bool false)).setCell ⟨gm, 4, none⟩ (.int .i64 (x + 1))).setCell ⟨gm, 5, none⟩ (.int .i64 d)).setCell ⟨gm, 6, none⟩ (.int .i64 tk)).setCell ⟨gm, 7, none⟩ (.int .i64 sn)).heap[gm]? = some (.cells #[.string a, .string b, .int .i64 mode, .bool false, .int .i64 (x + 1), .int .i64 d, .int .i64 tk, .int .i64 sn] 29 (0, 0))) := ⟨member_blk (.string a) (.string b) (.int .i64 mode) (.bool false) (.int .i64 (x + 1)) (.int .i64 d) (.int .i64 tk) (.int .i64 sn) BM.out⟩
    have n2_ : Aside0 (((((((((w54.setCell ⟨gm, 0, none⟩ (.string a)).setCell ⟨gm, 1, none⟩ (.string b)).setCell ⟨gm, 2, none⟩ (.int .i64 mode)).setCell ⟨gm, 3, none⟩ (.bool false)).setCell ⟨gm, 4, none⟩ (.int .i64 (x + 1))).setCell ⟨gm, 5, none⟩ (.int .i64 d)).setCell ⟨gm, 6, none⟩ (.int .i64 tk)).setCell ⟨gm, 7, none⟩ (.int .i64 sn)).heap[gq]? = some (.cells #[.string a, .string b, .int .i64 mode, .bool false, .int .i64 sc, .int .i64 dy, .int .i64 tk, .int .i64 sn] 25 (0, 0))) := ⟨member_other BQ.out NE.out⟩
    clear HB BM BQ
    generalize ((((((((w54.setCell ⟨gm, 0, none⟩ (.string a)).setCell ⟨gm, 1, none⟩ (.string b)).setCell ⟨gm, 2, none⟩ (.int .i64 mode)).setCell ⟨gm, 3, none⟩ (.bool false)).setCell ⟨gm, 4, none⟩ (.int .i64 (x + 1))).setCell ⟨gm, 5, none⟩ (.int .i64 d)).setCell ⟨gm, 6, none⟩ (.int .i64 tk)).setCell ⟨gm, 7, none⟩ (.int .i64 sn)) = w55 at n0_ n1_ n2_ ⊢
    have HB := n0_
    have BM := n1_
    have BQ := n2_
    clear n0_ n1_ n2_
    have hcm_0 : w55.cell? ⟨gm, 0, none⟩ = some (.string a) := (blk_cell BM.out 0).trans rfl
    have hcm_1 : w55.cell? ⟨gm, 1, none⟩ = some (.string b) := (blk_cell BM.out 1).trans rfl
    have hcm_2 : w55.cell? ⟨gm, 2, none⟩ = some (.int .i64 mode) := (blk_cell BM.out 2).trans rfl
    have hcm_3 : w55.cell? ⟨gm, 3, none⟩ = some (.bool false) := (blk_cell BM.out 3).trans rfl
    have hcm_4 : w55.cell? ⟨gm, 4, none⟩ = some (.int .i64 (x + 1)) := (blk_cell BM.out 4).trans rfl
    have hcm_5 : w55.cell? ⟨gm, 5, none⟩ = some (.int .i64 d) := (blk_cell BM.out 5).trans rfl
    have hcm_6 : w55.cell? ⟨gm, 6, none⟩ = some (.int .i64 tk) := (blk_cell BM.out 6).trans rfl
    have hcm_7 : w55.cell? ⟨gm, 7, none⟩ = some (.int .i64 sn) := (blk_cell BM.out 7).trans rfl
    have hfm_0 := blk_frozen BM.out 0
    have hfm_1 := blk_frozen BM.out 1
    have hfm_2 := blk_frozen BM.out 2
    have hfm_3 := blk_frozen BM.out 3
    have hfm_4 := blk_frozen BM.out 4
    have hfm_5 := blk_frozen BM.out 5
    have hfm_6 := blk_frozen BM.out 6
    have hfm_7 := blk_frozen BM.out 7
    have hcq_0 : w55.cell? ⟨gq, 0, none⟩ = some (.string a) := (blk_cell BQ.out 0).trans rfl
    have hcq_1 : w55.cell? ⟨gq, 1, none⟩ = some (.string b) := (blk_cell BQ.out 1).trans rfl
    have hcq_2 : w55.cell? ⟨gq, 2, none⟩ = some (.int .i64 mode) := (blk_cell BQ.out 2).trans rfl
    have hcq_3 : w55.cell? ⟨gq, 3, none⟩ = some (.bool false) := (blk_cell BQ.out 3).trans rfl
    have hcq_4 : w55.cell? ⟨gq, 4, none⟩ = some (.int .i64 sc) := (blk_cell BQ.out 4).trans rfl
    have hcq_5 : w55.cell? ⟨gq, 5, none⟩ = some (.int .i64 dy) := (blk_cell BQ.out 5).trans rfl
    have hcq_6 : w55.cell? ⟨gq, 6, none⟩ = some (.int .i64 tk) := (blk_cell BQ.out 6).trans rfl
    have hcq_7 : w55.cell? ⟨gq, 7, none⟩ = some (.int .i64 sn) := (blk_cell BQ.out 7).trans rfl
    have hfq_0 := blk_frozen BQ.out 0
    have hfq_1 := blk_frozen BQ.out 1
    have hfq_2 := blk_frozen BQ.out 2
    have hfq_3 := blk_frozen BQ.out 3
    have hfq_4 := blk_frozen BQ.out 4
    have hfq_5 := blk_frozen BQ.out 5
    have hfq_6 := blk_frozen BQ.out 6
    have hfq_7 := blk_frozen BQ.out 7
    go_wp2_with (go_at_call 11; (with_reducible refine (roster_Member_Gets.calls a b mode false (x + 1) d tk sn mode (!false) _ hg.out).mono ?_); rintro e w56 ⟨rfl, hb⟩; have n0_ := Aside0.mk (below_step HB.out hb); have n1_ := Aside0.mk (blk_below BM.out hb); have n2_ := Aside0.mk (blk_below BQ.out hb); clear HB BM BQ hb; have HB := n0_; have BM := n1_; have BQ := n2_; clear n0_ n1_ n2_)
    go_roundw
    case rel =>
     have KO := KK.out
     refine ⟨i + 1, (x + 1), d, by first | rfl | go_num, by first | rfl | go_num, by go_num, by omega, by omega, by omega, ⟨?_⟩, BQ, HB⟩
     rw [show decide ((x + 1) ≥ most) = false from decide_eq_false (by omega)]
     exact BM.out
    case measure => simp [intOf]; omega
   ·have z1 : decide (x < most) = true := decide_eq_true (by omega)
    have z2 : (x < most) = True := eq_true (by omega)
    have z3 : decide (most ≤ x) = false := decide_eq_false (by omega)
    have z4 : (most ≤ x) = False := eq_false (by omega)
    have d1 : (d == y) = false := beq_eq_false_iff_ne.mpr k2
    have d2 : (d != y) = true := bne_iff_ne.mpr k2
    replace hw2 := hw2 k1
    have p1 : decide (most ≤ x + 1) = true := decide_eq_true (by omega)
    have p2 : (most ≤ x + 1) = True := eq_true (by omega)
    have p3 : decide (x + 1 < most) = false := decide_eq_false (by omega)
    have p4 : (x + 1 < most) = False := eq_false (by omega)
    have hbo : Aside0 (roster_Member_Bounced.f k a b mode false x y tk sn d most = some (a, b, mode, true, (x + 1), d, tk, sn)) := ⟨by obtain ⟨k, rfl⟩ : ∃ q, k = q + 1 := ⟨k - 1, by omega⟩; unfold roster_Member_Bounced.f; rw [if_neg (by decide), d1, roster_Member_Bounced.j0, if_neg (by decide), if_pos (by omega), hw2, show decide (x + 1 ≥ most) = true from p1]⟩
    have k3_ := k3
    clear k3_
    rw [show decide (x ≥ most) = false from decide_eq_false (by omega)] at BM
    have hcm_0 : wr.cell? ⟨gm, 0, none⟩ = some (.string a) := (blk_cell BM.out 0).trans rfl
    have hcm_1 : wr.cell? ⟨gm, 1, none⟩ = some (.string b) := (blk_cell BM.out 1).trans rfl
    have hcm_2 : wr.cell? ⟨gm, 2, none⟩ = some (.int .i64 mode) := (blk_cell BM.out 2).trans rfl
    have hcm_3 : wr.cell? ⟨gm, 3, none⟩ = some (.bool false) := (blk_cell BM.out 3).trans rfl
    have hcm_4 : wr.cell? ⟨gm, 4, none⟩ = some (.int .i64 x) := (blk_cell BM.out 4).trans rfl
    have hcm_5 : wr.cell? ⟨gm, 5, none⟩ = some (.int .i64 y) := (blk_cell BM.out 5).trans rfl
    have hcm_6 : wr.cell? ⟨gm, 6, none⟩ = some (.int .i64 tk) := (blk_cell BM.out 6).trans rfl
    have hcm_7 : wr.cell? ⟨gm, 7, none⟩ = some (.int .i64 sn) := (blk_cell BM.out 7).trans rfl
    have hfm_0 := blk_frozen BM.out 0
    have hfm_1 := blk_frozen BM.out 1
    have hfm_2 := blk_frozen BM.out 2
    have hfm_3 := blk_frozen BM.out 3
    have hfm_4 := blk_frozen BM.out 4
    have hfm_5 := blk_frozen BM.out 5
    have hfm_6 := blk_frozen BM.out 6
    have hfm_7 := blk_frozen BM.out 7
    have hg : Aside0 (roster_Member_Gets.f a b mode true (x + 1) d tk sn mode = some (!true)) := ⟨by unfold roster_Member_Gets.f; rw [if_pos rfl]⟩
    have KK := Aside0.mk (And.intro k1 (k3))
    clear k1 k3 k2
    go_upto_region 11 with (go_at_call 10; (with_reducible refine (roster_Member_Bounced.calls k a b mode false x y tk sn d most a b mode true (x + 1) d tk sn _ hbo.out).mono ?_); rintro e w54 ⟨rfl, hb⟩; have n0_ := Aside0.mk (below_step HB.out hb); have n1_ := Aside0.mk (blk_below BM.out hb); have n2_ := Aside0.mk (blk_below BQ.out hb); clear HB BM BQ hb; have HB := n0_; have BM := n1_; have BQ := n2_; clear n0_ n1_ n2_; (try clear hcm_0 hfm_0 hcm_1 hfm_1 hcm_2 hfm_2 hcm_3 hfm_3 hcm_4 hfm_4 hcm_5 hfm_5 hcm_6 hfm_6 hcm_7 hfm_7); have hcm_0 : w54.cell? ⟨gm, 0, none⟩ = some (.string a) := (blk_cell BM.out 0).trans rfl; have hcm_1 : w54.cell? ⟨gm, 1, none⟩ = some (.string b) := (blk_cell BM.out 1).trans rfl; have hcm_2 : w54.cell? ⟨gm, 2, none⟩ = some (.int .i64 mode) := (blk_cell BM.out 2).trans rfl; have hcm_3 : w54.cell? ⟨gm, 3, none⟩ = some (.bool false) := (blk_cell BM.out 3).trans rfl; have hcm_4 : w54.cell? ⟨gm, 4, none⟩ = some (.int .i64 x) := (blk_cell BM.out 4).trans rfl; have hcm_5 : w54.cell? ⟨gm, 5, none⟩ = some (.int .i64 y) := (blk_cell BM.out 5).trans rfl; have hcm_6 : w54.cell? ⟨gm, 6, none⟩ = some (.int .i64 tk) := (blk_cell BM.out 6).trans rfl; have hcm_7 : w54.cell? ⟨gm, 7, none⟩ = some (.int .i64 sn) := (blk_cell BM.out 7).trans rfl; have hfm_0 := blk_frozen BM.out 0; have hfm_1 := blk_frozen BM.out 1; have hfm_2 := blk_frozen BM.out 2; have hfm_3 := blk_frozen BM.out 3; have hfm_4 := blk_frozen BM.out 4; have hfm_5 := blk_frozen BM.out 5; have hfm_6 := blk_frozen BM.out 6; have hfm_7 := blk_frozen BM.out 7)
    (try clear hcm_0 hfm_0 hcm_1 hfm_1 hcm_2 hfm_2 hcm_3 hfm_3 hcm_4 hfm_4 hcm_5 hfm_5 hcm_6 hfm_6 hcm_7 hfm_7)
    have n0_ : Aside0 (Below w.heap.size w ((((((((w54.setCell ⟨gm, 0, none⟩ (.string a)).setCell ⟨gm, 1, none⟩ (.string b)).setCell ⟨gm, 2, none⟩ (.int .i64 mode)).setCell ⟨gm, 3, none⟩ (.bool true)).setCell ⟨gm, 4, none⟩ (.int .i64 (x + 1))).setCell ⟨gm, 5, none⟩ (.int .i64 d)).setCell ⟨gm, 6, none⟩ (.int .i64 tk)).setCell ⟨gm, 7, none⟩ (.int .i64 sn))) := ⟨member_below HB.out GE.out⟩
    have n1_ : Aside0 (((((((((w54.setCell ⟨gm, 0, none⟩ (.string a)).setCell ⟨gm, 1, none⟩ (.string b)).setCell ⟨gm, 2, none⟩ (.int .i64 mode)).setCell ⟨gm, 3, none⟩ (.bool true)).setCell ⟨gm, 4, none⟩ (.int .i64 (x + 1))).setCell ⟨gm, 5, none⟩ (.int .i64 d)).setCell ⟨gm, 6, none⟩ (.int .i64 tk)).setCell ⟨gm, 7, none⟩ (.int .i64 sn)).heap[gm]? = some (.cells #[.string a, .string b, .int .i64 mode, .bool true, .int .i64 (x + 1), .int .i64 d, .int .i64 tk, .int .i64 sn] 29 (0, 0))) := ⟨member_blk (.string a) (.string b) (.int .i64 mode) (.bool true) (.int .i64 (x + 1)) (.int .i64 d) (.int .i64 tk) (.int .i64 sn) BM.out⟩
    have n2_ : Aside0 (((((((((w54.setCell ⟨gm, 0, none⟩ (.string a)).setCell ⟨gm, 1, none⟩ (.string b)).setCell ⟨gm, 2, none⟩ (.int .i64 mode)).setCell ⟨gm, 3, none⟩ (.bool true)).setCell ⟨gm, 4, none⟩ (.int .i64 (x + 1))).setCell ⟨gm, 5, none⟩ (.int .i64 d)).setCell ⟨gm, 6, none⟩ (.int .i64 tk)).setCell ⟨gm, 7, none⟩ (.int .i64 sn)).heap[gq]? = some (.cells #[.string a, .string b, .int .i64 mode, .bool false, .int .i64 sc, .int .i64 dy, .int .i64 tk, .int .i64 sn] 25 (0, 0))) := ⟨member_other BQ.out NE.out⟩
    clear HB BM BQ
    generalize ((((((((w54.setCell ⟨gm, 0, none⟩ (.string a)).setCell ⟨gm, 1, none⟩ (.string b)).setCell ⟨gm, 2, none⟩ (.int .i64 mode)).setCell ⟨gm, 3, none⟩ (.bool true)).setCell ⟨gm, 4, none⟩ (.int .i64 (x + 1))).setCell ⟨gm, 5, none⟩ (.int .i64 d)).setCell ⟨gm, 6, none⟩ (.int .i64 tk)).setCell ⟨gm, 7, none⟩ (.int .i64 sn)) = w55 at n0_ n1_ n2_ ⊢
    have HB := n0_
    have BM := n1_
    have BQ := n2_
    clear n0_ n1_ n2_
    have hcm_0 : w55.cell? ⟨gm, 0, none⟩ = some (.string a) := (blk_cell BM.out 0).trans rfl
    have hcm_1 : w55.cell? ⟨gm, 1, none⟩ = some (.string b) := (blk_cell BM.out 1).trans rfl
    have hcm_2 : w55.cell? ⟨gm, 2, none⟩ = some (.int .i64 mode) := (blk_cell BM.out 2).trans rfl
    have hcm_3 : w55.cell? ⟨gm, 3, none⟩ = some (.bool true) := (blk_cell BM.out 3).trans rfl
    have hcm_4 : w55.cell? ⟨gm, 4, none⟩ = some (.int .i64 (x + 1)) := (blk_cell BM.out 4).trans rfl
    have hcm_5 : w55.cell? ⟨gm, 5, none⟩ = some (.int .i64 d) := (blk_cell BM.out 5).trans rfl
    have hcm_6 : w55.cell? ⟨gm, 6, none⟩ = some (.int .i64 tk) := (blk_cell BM.out 6).trans rfl
    have hcm_7 : w55.cell? ⟨gm, 7, none⟩ = some (.int .i64 sn) := (blk_cell BM.out 7).trans rfl
    have hfm_0 := blk_frozen BM.out 0
    have hfm_1 := blk_frozen BM.out 1
    have hfm_2 := blk_frozen BM.out 2
    have hfm_3 := blk_frozen BM.out 3
    have hfm_4 := blk_frozen BM.out 4
    have hfm_5 := blk_frozen BM.out 5
    have hfm_6 := blk_frozen BM.out 6
    have hfm_7 := blk_frozen BM.out 7
    have hcq_0 : w55.cell? ⟨gq, 0, none⟩ = some (.string a) := (blk_cell BQ.out 0).trans rfl
    have hcq_1 : w55.cell? ⟨gq, 1, none⟩ = some (.string b) := (blk_cell BQ.out 1).trans rfl
    have hcq_2 : w55.cell? ⟨gq, 2, none⟩ = some (.int .i64 mode) := (blk_cell BQ.out 2).trans rfl
    have hcq_3 : w55.cell? ⟨gq, 3, none⟩ = some (.bool false) := (blk_cell BQ.out 3).trans rfl
    have hcq_4 : w55.cell? ⟨gq, 4, none⟩ = some (.int .i64 sc) := (blk_cell BQ.out 4).trans rfl
    have hcq_5 : w55.cell? ⟨gq, 5, none⟩ = some (.int .i64 dy) := (blk_cell BQ.out 5).trans rfl
    have hcq_6 : w55.cell? ⟨gq, 6, none⟩ = some (.int .i64 tk) := (blk_cell BQ.out 6).trans rfl
    have hcq_7 : w55.cell? ⟨gq, 7, none⟩ = some (.int .i64 sn) := (blk_cell BQ.out 7).trans rfl
    have hfq_0 := blk_frozen BQ.out 0
    have hfq_1 := blk_frozen BQ.out 1
    have hfq_2 := blk_frozen BQ.out 2
    have hfq_3 := blk_frozen BQ.out 3
    have hfq_4 := blk_frozen BQ.out 4
    have hfq_5 := blk_frozen BQ.out 5
    have hfq_6 := blk_frozen BQ.out 6
    have hfq_7 := blk_frozen BQ.out 7
    go_wp2_with (go_at_call 11; (with_reducible refine (roster_Member_Gets.calls a b mode true (x + 1) d tk sn mode (!true) _ hg.out).mono ?_); rintro e w56 ⟨rfl, hb⟩; have n0_ := Aside0.mk (below_step HB.out hb); have n1_ := Aside0.mk (blk_below BM.out hb); have n2_ := Aside0.mk (blk_below BQ.out hb); clear HB BM BQ hb; have HB := n0_; have BM := n1_; have BQ := n2_; clear n0_ n1_ n2_)
    go_roundw
    case rel =>
     have KO := KK.out
     refine ⟨i + 1, (x + 1), d, by first | rfl | go_num, by first | rfl | go_num, by go_num, by omega, by omega, by omega, ⟨?_⟩, BQ, HB⟩
     rw [show decide ((x + 1) ≥ most) = true from decide_eq_true (by omega)]
     exact BM.out
    case measure => simp [intOf]; omega
   ·have z1 : decide (x < most) = false := decide_eq_false (by omega)
    have z2 : (x < most) = False := eq_false (by omega)
    have z3 : decide (most ≤ x) = true := decide_eq_true (by omega)
    have z4 : (most ≤ x) = True := eq_true (by omega)
    have hbo : Aside0 (roster_Member_Bounced.f k a b mode true x y tk sn d most = some (a, b, mode, true, x, y, tk, sn)) := ⟨by obtain ⟨k, rfl⟩ : ∃ q, k = q + 1 := ⟨k - 1, by omega⟩; unfold roster_Member_Bounced.f; rw [if_pos rfl, roster_Member_Bounced.j0, if_pos rfl]⟩
    rw [show decide (x ≥ most) = true from decide_eq_true (by omega)] at BM
    have hcm_0 : wr.cell? ⟨gm, 0, none⟩ = some (.string a) := (blk_cell BM.out 0).trans rfl
    have hcm_1 : wr.cell? ⟨gm, 1, none⟩ = some (.string b) := (blk_cell BM.out 1).trans rfl
    have hcm_2 : wr.cell? ⟨gm, 2, none⟩ = some (.int .i64 mode) := (blk_cell BM.out 2).trans rfl
    have hcm_3 : wr.cell? ⟨gm, 3, none⟩ = some (.bool true) := (blk_cell BM.out 3).trans rfl
    have hcm_4 : wr.cell? ⟨gm, 4, none⟩ = some (.int .i64 x) := (blk_cell BM.out 4).trans rfl
    have hcm_5 : wr.cell? ⟨gm, 5, none⟩ = some (.int .i64 y) := (blk_cell BM.out 5).trans rfl
    have hcm_6 : wr.cell? ⟨gm, 6, none⟩ = some (.int .i64 tk) := (blk_cell BM.out 6).trans rfl
    have hcm_7 : wr.cell? ⟨gm, 7, none⟩ = some (.int .i64 sn) := (blk_cell BM.out 7).trans rfl
    have hfm_0 := blk_frozen BM.out 0
    have hfm_1 := blk_frozen BM.out 1
    have hfm_2 := blk_frozen BM.out 2
    have hfm_3 := blk_frozen BM.out 3
    have hfm_4 := blk_frozen BM.out 4
    have hfm_5 := blk_frozen BM.out 5
    have hfm_6 := blk_frozen BM.out 6
    have hfm_7 := blk_frozen BM.out 7
    have hg : Aside0 (roster_Member_Gets.f a b mode true x y tk sn mode = some (!true)) := ⟨by unfold roster_Member_Gets.f; rw [if_pos rfl]⟩
    have KK := Aside0.mk (k1)
    clear k1
    go_upto_region 11 with (go_at_call 10; (with_reducible refine (roster_Member_Bounced.calls k a b mode true x y tk sn d most a b mode true x y tk sn _ hbo.out).mono ?_); rintro e w54 ⟨rfl, hb⟩; have n0_ := Aside0.mk (below_step HB.out hb); have n1_ := Aside0.mk (blk_below BM.out hb); have n2_ := Aside0.mk (blk_below BQ.out hb); clear HB BM BQ hb; have HB := n0_; have BM := n1_; have BQ := n2_; clear n0_ n1_ n2_; (try clear hcm_0 hfm_0 hcm_1 hfm_1 hcm_2 hfm_2 hcm_3 hfm_3 hcm_4 hfm_4 hcm_5 hfm_5 hcm_6 hfm_6 hcm_7 hfm_7); have hcm_0 : w54.cell? ⟨gm, 0, none⟩ = some (.string a) := (blk_cell BM.out 0).trans rfl; have hcm_1 : w54.cell? ⟨gm, 1, none⟩ = some (.string b) := (blk_cell BM.out 1).trans rfl; have hcm_2 : w54.cell? ⟨gm, 2, none⟩ = some (.int .i64 mode) := (blk_cell BM.out 2).trans rfl; have hcm_3 : w54.cell? ⟨gm, 3, none⟩ = some (.bool true) := (blk_cell BM.out 3).trans rfl; have hcm_4 : w54.cell? ⟨gm, 4, none⟩ = some (.int .i64 x) := (blk_cell BM.out 4).trans rfl; have hcm_5 : w54.cell? ⟨gm, 5, none⟩ = some (.int .i64 y) := (blk_cell BM.out 5).trans rfl; have hcm_6 : w54.cell? ⟨gm, 6, none⟩ = some (.int .i64 tk) := (blk_cell BM.out 6).trans rfl; have hcm_7 : w54.cell? ⟨gm, 7, none⟩ = some (.int .i64 sn) := (blk_cell BM.out 7).trans rfl; have hfm_0 := blk_frozen BM.out 0; have hfm_1 := blk_frozen BM.out 1; have hfm_2 := blk_frozen BM.out 2; have hfm_3 := blk_frozen BM.out 3; have hfm_4 := blk_frozen BM.out 4; have hfm_5 := blk_frozen BM.out 5; have hfm_6 := blk_frozen BM.out 6; have hfm_7 := blk_frozen BM.out 7)
    (try clear hcm_0 hfm_0 hcm_1 hfm_1 hcm_2 hfm_2 hcm_3 hfm_3 hcm_4 hfm_4 hcm_5 hfm_5 hcm_6 hfm_6 hcm_7 hfm_7)
    have n0_ : Aside0 (Below w.heap.size w ((((((((w54.setCell ⟨gm, 0, none⟩ (.string a)).setCell ⟨gm, 1, none⟩ (.string b)).setCell ⟨gm, 2, none⟩ (.int .i64 mode)).setCell ⟨gm, 3, none⟩ (.bool true)).setCell ⟨gm, 4, none⟩ (.int .i64 x)).setCell ⟨gm, 5, none⟩ (.int .i64 y)).setCell ⟨gm, 6, none⟩ (.int .i64 tk)).setCell ⟨gm, 7, none⟩ (.int .i64 sn))) := ⟨member_below HB.out GE.out⟩
    have n1_ : Aside0 (((((((((w54.setCell ⟨gm, 0, none⟩ (.string a)).setCell ⟨gm, 1, none⟩ (.string b)).setCell ⟨gm, 2, none⟩ (.int .i64 mode)).setCell ⟨gm, 3, none⟩ (.bool true)).setCell ⟨gm, 4, none⟩ (.int .i64 x)).setCell ⟨gm, 5, none⟩ (.int .i64 y)).setCell ⟨gm, 6, none⟩ (.int .i64 tk)).setCell ⟨gm, 7, none⟩ (.int .i64 sn)).heap[gm]? = some (.cells #[.string a, .string b, .int .i64 mode, .bool true, .int .i64 x, .int .i64 y, .int .i64 tk, .int .i64 sn] 29 (0, 0))) := ⟨member_blk (.string a) (.string b) (.int .i64 mode) (.bool true) (.int .i64 x) (.int .i64 y) (.int .i64 tk) (.int .i64 sn) BM.out⟩
    have n2_ : Aside0 (((((((((w54.setCell ⟨gm, 0, none⟩ (.string a)).setCell ⟨gm, 1, none⟩ (.string b)).setCell ⟨gm, 2, none⟩ (.int .i64 mode)).setCell ⟨gm, 3, none⟩ (.bool true)).setCell ⟨gm, 4, none⟩ (.int .i64 x)).setCell ⟨gm, 5, none⟩ (.int .i64 y)).setCell ⟨gm, 6, none⟩ (.int .i64 tk)).setCell ⟨gm, 7, none⟩ (.int .i64 sn)).heap[gq]? = some (.cells #[.string a, .string b, .int .i64 mode, .bool false, .int .i64 sc, .int .i64 dy, .int .i64 tk, .int .i64 sn] 25 (0, 0))) := ⟨member_other BQ.out NE.out⟩
    clear HB BM BQ
    generalize ((((((((w54.setCell ⟨gm, 0, none⟩ (.string a)).setCell ⟨gm, 1, none⟩ (.string b)).setCell ⟨gm, 2, none⟩ (.int .i64 mode)).setCell ⟨gm, 3, none⟩ (.bool true)).setCell ⟨gm, 4, none⟩ (.int .i64 x)).setCell ⟨gm, 5, none⟩ (.int .i64 y)).setCell ⟨gm, 6, none⟩ (.int .i64 tk)).setCell ⟨gm, 7, none⟩ (.int .i64 sn)) = w55 at n0_ n1_ n2_ ⊢
    have HB := n0_
    have BM := n1_
    have BQ := n2_
    clear n0_ n1_ n2_
    have hcm_0 : w55.cell? ⟨gm, 0, none⟩ = some (.string a) := (blk_cell BM.out 0).trans rfl
    have hcm_1 : w55.cell? ⟨gm, 1, none⟩ = some (.string b) := (blk_cell BM.out 1).trans rfl
    have hcm_2 : w55.cell? ⟨gm, 2, none⟩ = some (.int .i64 mode) := (blk_cell BM.out 2).trans rfl
    have hcm_3 : w55.cell? ⟨gm, 3, none⟩ = some (.bool true) := (blk_cell BM.out 3).trans rfl
    have hcm_4 : w55.cell? ⟨gm, 4, none⟩ = some (.int .i64 x) := (blk_cell BM.out 4).trans rfl
    have hcm_5 : w55.cell? ⟨gm, 5, none⟩ = some (.int .i64 y) := (blk_cell BM.out 5).trans rfl
    have hcm_6 : w55.cell? ⟨gm, 6, none⟩ = some (.int .i64 tk) := (blk_cell BM.out 6).trans rfl
    have hcm_7 : w55.cell? ⟨gm, 7, none⟩ = some (.int .i64 sn) := (blk_cell BM.out 7).trans rfl
    have hfm_0 := blk_frozen BM.out 0
    have hfm_1 := blk_frozen BM.out 1
    have hfm_2 := blk_frozen BM.out 2
    have hfm_3 := blk_frozen BM.out 3
    have hfm_4 := blk_frozen BM.out 4
    have hfm_5 := blk_frozen BM.out 5
    have hfm_6 := blk_frozen BM.out 6
    have hfm_7 := blk_frozen BM.out 7
    have hcq_0 : w55.cell? ⟨gq, 0, none⟩ = some (.string a) := (blk_cell BQ.out 0).trans rfl
    have hcq_1 : w55.cell? ⟨gq, 1, none⟩ = some (.string b) := (blk_cell BQ.out 1).trans rfl
    have hcq_2 : w55.cell? ⟨gq, 2, none⟩ = some (.int .i64 mode) := (blk_cell BQ.out 2).trans rfl
    have hcq_3 : w55.cell? ⟨gq, 3, none⟩ = some (.bool false) := (blk_cell BQ.out 3).trans rfl
    have hcq_4 : w55.cell? ⟨gq, 4, none⟩ = some (.int .i64 sc) := (blk_cell BQ.out 4).trans rfl
    have hcq_5 : w55.cell? ⟨gq, 5, none⟩ = some (.int .i64 dy) := (blk_cell BQ.out 5).trans rfl
    have hcq_6 : w55.cell? ⟨gq, 6, none⟩ = some (.int .i64 tk) := (blk_cell BQ.out 6).trans rfl
    have hcq_7 : w55.cell? ⟨gq, 7, none⟩ = some (.int .i64 sn) := (blk_cell BQ.out 7).trans rfl
    have hfq_0 := blk_frozen BQ.out 0
    have hfq_1 := blk_frozen BQ.out 1
    have hfq_2 := blk_frozen BQ.out 2
    have hfq_3 := blk_frozen BQ.out 3
    have hfq_4 := blk_frozen BQ.out 4
    have hfq_5 := blk_frozen BQ.out 5
    have hfq_6 := blk_frozen BQ.out 6
    have hfq_7 := blk_frozen BQ.out 7
    go_wp2_with (go_at_call 11; (with_reducible refine (roster_Member_Gets.calls a b mode true x y tk sn mode (!true) _ hg.out).mono ?_); rintro e w56 ⟨rfl, hb⟩; have n0_ := Aside0.mk (below_step HB.out hb); have n1_ := Aside0.mk (blk_below BM.out hb); have n2_ := Aside0.mk (blk_below BQ.out hb); clear HB BM BQ hb; have HB := n0_; have BM := n1_; have BQ := n2_; clear n0_ n1_ n2_)
    go_roundw
    case rel =>
     have KO := KK.out
     refine ⟨i + 1, x, y, by first | rfl | go_num, by first | rfl | go_num, by go_num, by omega, by omega, by omega, ⟨?_⟩, BQ, HB⟩
     rw [show decide (x ≥ most) = true from decide_eq_true (by omega)]
     exact BM.out
    case measure => simp [intOf]; omega
  ·have q3 : decide ((i : Int) < (l1.length : Int)) = false := decide_eq_false (by omega)
   have q2 : ((i : Int) < (l1.length : Int)) = False := eq_false (by omega)
   have q4 : decide (i < l1.length) = false := decide_eq_false hlt
   generalize decide (x ≥ most) = o at BM
   have hwl : Aside0 (roster_Member_Well.f a b mode o x y tk sn = some (a, b, mode, false, 0, -1, tk, sn)) := ⟨rfl⟩
   have hg : Aside0 (roster_Member_Gets.f a b mode false 0 (-1) tk sn mode = some (!false)) := ⟨by unfold roster_Member_Gets.f; rw [if_pos rfl]⟩
   clear hlt hx1 hx0 hi hlo hhi hs0 hs1
   have hcm_0 : wr.cell? ⟨gm, 0, none⟩ = some (.string a) := (blk_cell BM.out 0).trans rfl
   have hcm_1 : wr.cell? ⟨gm, 1, none⟩ = some (.string b) := (blk_cell BM.out 1).trans rfl
   have hcm_2 : wr.cell? ⟨gm, 2, none⟩ = some (.int .i64 mode) := (blk_cell BM.out 2).trans rfl
   have hcm_3 : wr.cell? ⟨gm, 3, none⟩ = some (.bool o) := (blk_cell BM.out 3).trans rfl
   have hcm_4 : wr.cell? ⟨gm, 4, none⟩ = some (.int .i64 x) := (blk_cell BM.out 4).trans rfl
   have hcm_5 : wr.cell? ⟨gm, 5, none⟩ = some (.int .i64 y) := (blk_cell BM.out 5).trans rfl
   have hcm_6 : wr.cell? ⟨gm, 6, none⟩ = some (.int .i64 tk) := (blk_cell BM.out 6).trans rfl
   have hcm_7 : wr.cell? ⟨gm, 7, none⟩ = some (.int .i64 sn) := (blk_cell BM.out 7).trans rfl
   have hfm_0 := blk_frozen BM.out 0
   have hfm_1 := blk_frozen BM.out 1
   have hfm_2 := blk_frozen BM.out 2
   have hfm_3 := blk_frozen BM.out 3
   have hfm_4 := blk_frozen BM.out 4
   have hfm_5 := blk_frozen BM.out 5
   have hfm_6 := blk_frozen BM.out 6
   have hfm_7 := blk_frozen BM.out 7
   go_upto_region 18 with (first | (go_at_call 12; (with_reducible refine (roster_Member_Well.calls a b mode o x y tk sn a b mode false 0 (-1) tk sn _ hwl.out).mono ?_); rintro e w60 ⟨rfl, hb⟩; have n0_ := Aside0.mk (below_step HB.out hb); have n1_ := Aside0.mk (blk_below BM.out hb); have n2_ := Aside0.mk (blk_below BQ.out hb); clear HB BM BQ hb; have HB := n0_; have BM := n1_; have BQ := n2_; clear n0_ n1_ n2_; (try clear hcm_0 hfm_0 hcm_1 hfm_1 hcm_2 hfm_2 hcm_3 hfm_3 hcm_4 hfm_4 hcm_5 hfm_5 hcm_6 hfm_6 hcm_7 hfm_7)) | ((with_reducible refine gate_dst (N := 12) rfl ?_); refine box_event ?hg (N := 12) ?hd (cs := #[.string (⟨#[]⟩ : ByteArray), .string (⟨#[]⟩ : ByteArray), .int .i64 0, .bool false, .int .i64 0, .int .i64 0, .int .i64 0, .int .i64 0]) (t := 29) ?hr ?_; (case hd => rfl); (case hg => rfl); (case hr => first | (go_simp; done) | (go_simp; rfl)); intro gw hg w61 hbox hb; have x1_ := Aside0.mk ((by rw [hg]; exact HB.out.size : w.heap.size ≤ gw)); have y0_ := Aside0.mk ((by rw [hg]; exact Nat.ne_of_lt (blk_lt BM.out) : gm ≠ gw)); have y1_ := Aside0.mk ((by rw [hg]; exact Nat.ne_of_lt (blk_lt BQ.out) : gq ≠ gw)); have x0_ := Aside0.mk hbox; have n0_ := Aside0.mk (below_step HB.out hb); have n1_ := Aside0.mk (blk_below BM.out hb); have n2_ := Aside0.mk (blk_below BQ.out hb); clear HB BM BQ hb; have HB := n0_; have BM := n1_; have BQ := n2_; clear n0_ n1_ n2_; have GE_gw := x1_; have B_gw := x0_; clear x0_ x1_ hbox hg; have NEm := y0_; have NEq := y1_; clear y0_ y1_; have hcw_0 : w61.cell? ⟨gw, 0, none⟩ = some (.string (⟨#[]⟩ : ByteArray)) := (blk_cell B_gw.out 0).trans rfl; have hcw_1 : w61.cell? ⟨gw, 1, none⟩ = some (.string (⟨#[]⟩ : ByteArray)) := (blk_cell B_gw.out 1).trans rfl; have hcw_2 : w61.cell? ⟨gw, 2, none⟩ = some (.int .i64 0) := (blk_cell B_gw.out 2).trans rfl; have hcw_3 : w61.cell? ⟨gw, 3, none⟩ = some (.bool false) := (blk_cell B_gw.out 3).trans rfl; have hcw_4 : w61.cell? ⟨gw, 4, none⟩ = some (.int .i64 0) := (blk_cell B_gw.out 4).trans rfl; have hcw_5 : w61.cell? ⟨gw, 5, none⟩ = some (.int .i64 0) := (blk_cell B_gw.out 5).trans rfl; have hcw_6 : w61.cell? ⟨gw, 6, none⟩ = some (.int .i64 0) := (blk_cell B_gw.out 6).trans rfl; have hcw_7 : w61.cell? ⟨gw, 7, none⟩ = some (.int .i64 0) := (blk_cell B_gw.out 7).trans rfl; have hfw_0 := blk_frozen B_gw.out 0; have hfw_1 := blk_frozen B_gw.out 1; have hfw_2 := blk_frozen B_gw.out 2; have hfw_3 := blk_frozen B_gw.out 3; have hfw_4 := blk_frozen B_gw.out 4; have hfw_5 := blk_frozen B_gw.out 5; have hfw_6 := blk_frozen B_gw.out 6; have hfw_7 := blk_frozen B_gw.out 7))
   (try clear hcw_0 hfw_0 hcw_1 hfw_1 hcw_2 hfw_2 hcw_3 hfw_3 hcw_4 hfw_4 hcw_5 hfw_5 hcw_6 hfw_6 hcw_7 hfw_7)
   have n0_ : Aside0 (Below w.heap.size w ((((((((w61.setCell ⟨gw, 0, none⟩ (.string a)).setCell ⟨gw, 1, none⟩ (.string b)).setCell ⟨gw, 2, none⟩ (.int .i64 mode)).setCell ⟨gw, 3, none⟩ (.bool false)).setCell ⟨gw, 4, none⟩ (.int .i64 0)).setCell ⟨gw, 5, none⟩ (.int .i64 (-1))).setCell ⟨gw, 6, none⟩ (.int .i64 tk)).setCell ⟨gw, 7, none⟩ (.int .i64 sn))) := ⟨member_below HB.out GE_gw.out⟩
   have n1_ : Aside0 (((((((((w61.setCell ⟨gw, 0, none⟩ (.string a)).setCell ⟨gw, 1, none⟩ (.string b)).setCell ⟨gw, 2, none⟩ (.int .i64 mode)).setCell ⟨gw, 3, none⟩ (.bool false)).setCell ⟨gw, 4, none⟩ (.int .i64 0)).setCell ⟨gw, 5, none⟩ (.int .i64 (-1))).setCell ⟨gw, 6, none⟩ (.int .i64 tk)).setCell ⟨gw, 7, none⟩ (.int .i64 sn)).heap[gw]? = some (.cells #[.string a, .string b, .int .i64 mode, .bool false, .int .i64 0, .int .i64 (-1), .int .i64 tk, .int .i64 sn] 29 (0, 0))) := ⟨member_blk (.string a) (.string b) (.int .i64 mode) (.bool false) (.int .i64 0) (.int .i64 (-1)) (.int .i64 tk) (.int .i64 sn) B_gw.out⟩
   have n2_ : Aside0 (((((((((w61.setCell ⟨gw, 0, none⟩ (.string a)).setCell ⟨gw, 1, none⟩ (.string b)).setCell ⟨gw, 2, none⟩ (.int .i64 mode)).setCell ⟨gw, 3, none⟩ (.bool false)).setCell ⟨gw, 4, none⟩ (.int .i64 0)).setCell ⟨gw, 5, none⟩ (.int .i64 (-1))).setCell ⟨gw, 6, none⟩ (.int .i64 tk)).setCell ⟨gw, 7, none⟩ (.int .i64 sn)).heap[gm]? = some (.cells #[.string a, .string b, .int .i64 mode, .bool o, .int .i64 x, .int .i64 y, .int .i64 tk, .int .i64 sn] 29 (0, 0))) := ⟨member_other BM.out NEm.out⟩
   have n3_ : Aside0 (((((((((w61.setCell ⟨gw, 0, none⟩ (.string a)).setCell ⟨gw, 1, none⟩ (.string b)).setCell ⟨gw, 2, none⟩ (.int .i64 mode)).setCell ⟨gw, 3, none⟩ (.bool false)).setCell ⟨gw, 4, none⟩ (.int .i64 0)).setCell ⟨gw, 5, none⟩ (.int .i64 (-1))).setCell ⟨gw, 6, none⟩ (.int .i64 tk)).setCell ⟨gw, 7, none⟩ (.int .i64 sn)).heap[gq]? = some (.cells #[.string a, .string b, .int .i64 mode, .bool false, .int .i64 sc, .int .i64 dy, .int .i64 tk, .int .i64 sn] 25 (0, 0))) := ⟨member_other BQ.out NEq.out⟩
   clear HB B_gw BM BQ
   generalize ((((((((w61.setCell ⟨gw, 0, none⟩ (.string a)).setCell ⟨gw, 1, none⟩ (.string b)).setCell ⟨gw, 2, none⟩ (.int .i64 mode)).setCell ⟨gw, 3, none⟩ (.bool false)).setCell ⟨gw, 4, none⟩ (.int .i64 0)).setCell ⟨gw, 5, none⟩ (.int .i64 (-1))).setCell ⟨gw, 6, none⟩ (.int .i64 tk)).setCell ⟨gw, 7, none⟩ (.int .i64 sn)) = w62 at n0_ n1_ n2_ n3_ ⊢
   have HB := n0_
   have B_gw := n1_
   have BM := n2_
   have BQ := n3_
   clear n0_ n1_ n2_ n3_
   have hcm_0 : w62.cell? ⟨gm, 0, none⟩ = some (.string a) := (blk_cell BM.out 0).trans rfl
   have hcm_1 : w62.cell? ⟨gm, 1, none⟩ = some (.string b) := (blk_cell BM.out 1).trans rfl
   have hcm_2 : w62.cell? ⟨gm, 2, none⟩ = some (.int .i64 mode) := (blk_cell BM.out 2).trans rfl
   have hcm_3 : w62.cell? ⟨gm, 3, none⟩ = some (.bool o) := (blk_cell BM.out 3).trans rfl
   have hcm_4 : w62.cell? ⟨gm, 4, none⟩ = some (.int .i64 x) := (blk_cell BM.out 4).trans rfl
   have hcm_5 : w62.cell? ⟨gm, 5, none⟩ = some (.int .i64 y) := (blk_cell BM.out 5).trans rfl
   have hcm_6 : w62.cell? ⟨gm, 6, none⟩ = some (.int .i64 tk) := (blk_cell BM.out 6).trans rfl
   have hcm_7 : w62.cell? ⟨gm, 7, none⟩ = some (.int .i64 sn) := (blk_cell BM.out 7).trans rfl
   have hfm_0 := blk_frozen BM.out 0
   have hfm_1 := blk_frozen BM.out 1
   have hfm_2 := blk_frozen BM.out 2
   have hfm_3 := blk_frozen BM.out 3
   have hfm_4 := blk_frozen BM.out 4
   have hfm_5 := blk_frozen BM.out 5
   have hfm_6 := blk_frozen BM.out 6
   have hfm_7 := blk_frozen BM.out 7
   have hcq_0 : w62.cell? ⟨gq, 0, none⟩ = some (.string a) := (blk_cell BQ.out 0).trans rfl
   have hcq_1 : w62.cell? ⟨gq, 1, none⟩ = some (.string b) := (blk_cell BQ.out 1).trans rfl
   have hcq_2 : w62.cell? ⟨gq, 2, none⟩ = some (.int .i64 mode) := (blk_cell BQ.out 2).trans rfl
   have hcq_3 : w62.cell? ⟨gq, 3, none⟩ = some (.bool false) := (blk_cell BQ.out 3).trans rfl
   have hcq_4 : w62.cell? ⟨gq, 4, none⟩ = some (.int .i64 sc) := (blk_cell BQ.out 4).trans rfl
   have hcq_5 : w62.cell? ⟨gq, 5, none⟩ = some (.int .i64 dy) := (blk_cell BQ.out 5).trans rfl
   have hcq_6 : w62.cell? ⟨gq, 6, none⟩ = some (.int .i64 tk) := (blk_cell BQ.out 6).trans rfl
   have hcq_7 : w62.cell? ⟨gq, 7, none⟩ = some (.int .i64 sn) := (blk_cell BQ.out 7).trans rfl
   have hfq_0 := blk_frozen BQ.out 0
   have hfq_1 := blk_frozen BQ.out 1
   have hfq_2 := blk_frozen BQ.out 2
   have hfq_3 := blk_frozen BQ.out 3
   have hfq_4 := blk_frozen BQ.out 4
   have hfq_5 := blk_frozen BQ.out 5
   have hfq_6 := blk_frozen BQ.out 6
   have hfq_7 := blk_frozen BQ.out 7
   have hcw_0 : w62.cell? ⟨gw, 0, none⟩ = some (.string a) := (blk_cell B_gw.out 0).trans rfl
   have hcw_1 : w62.cell? ⟨gw, 1, none⟩ = some (.string b) := (blk_cell B_gw.out 1).trans rfl
   have hcw_2 : w62.cell? ⟨gw, 2, none⟩ = some (.int .i64 mode) := (blk_cell B_gw.out 2).trans rfl
   have hcw_3 : w62.cell? ⟨gw, 3, none⟩ = some (.bool false) := (blk_cell B_gw.out 3).trans rfl
   have hcw_4 : w62.cell? ⟨gw, 4, none⟩ = some (.int .i64 0) := (blk_cell B_gw.out 4).trans rfl
   have hcw_5 : w62.cell? ⟨gw, 5, none⟩ = some (.int .i64 (-1)) := (blk_cell B_gw.out 5).trans rfl
   have hcw_6 : w62.cell? ⟨gw, 6, none⟩ = some (.int .i64 tk) := (blk_cell B_gw.out 6).trans rfl
   have hcw_7 : w62.cell? ⟨gw, 7, none⟩ = some (.int .i64 sn) := (blk_cell B_gw.out 7).trans rfl
   have hfw_0 := blk_frozen B_gw.out 0
   have hfw_1 := blk_frozen B_gw.out 1
   have hfw_2 := blk_frozen B_gw.out 2
   have hfw_3 := blk_frozen B_gw.out 3
   have hfw_4 := blk_frozen B_gw.out 4
   have hfw_5 := blk_frozen B_gw.out 5
   have hfw_6 := blk_frozen B_gw.out 6
   have hfw_7 := blk_frozen B_gw.out 7
   go_wp2_with (go_at_call 11; (with_reducible refine (roster_Member_Gets.calls a b mode false 0 (-1) tk sn mode (!false) _ hg.out).mono ?_); rintro e w63 ⟨rfl, hb⟩; have n0_ := Aside0.mk (below_step HB.out hb); have n1_ := Aside0.mk (blk_below BM.out hb); have n2_ := Aside0.mk (blk_below BQ.out hb); have n3_ := Aside0.mk (blk_below B_gw.out hb); clear HB BM BQ B_gw hb; have HB := n0_; have BM := n1_; have BQ := n2_; have B_gw := n3_; clear n0_ n1_ n2_ n3_; (try clear hcm_0 hfm_0 hcm_1 hfm_1 hcm_2 hfm_2 hcm_3 hfm_3 hcm_4 hfm_4 hcm_5 hfm_5 hcm_6 hfm_6 hcm_7 hfm_7); (try clear hcq_0 hfq_0 hcq_1 hfq_1 hcq_2 hfq_2 hcq_3 hfq_3 hcq_4 hfq_4 hcq_5 hfq_5 hcq_6 hfq_6 hcq_7 hfq_7); (try clear hcw_0 hfw_0 hcw_1 hfw_1 hcw_2 hfw_2 hcw_3 hfw_3 hcw_4 hfw_4 hcw_5 hfw_5 hcw_6 hfw_6 hcw_7 hfw_7); have hcm_0 : w63.cell? ⟨gm, 0, none⟩ = some (.string a) := (blk_cell BM.out 0).trans rfl; have hcm_1 : w63.cell? ⟨gm, 1, none⟩ = some (.string b) := (blk_cell BM.out 1).trans rfl; have hcm_2 : w63.cell? ⟨gm, 2, none⟩ = some (.int .i64 mode) := (blk_cell BM.out 2).trans rfl; have hcm_3 : w63.cell? ⟨gm, 3, none⟩ = some (.bool o) := (blk_cell BM.out 3).trans rfl; have hcm_4 : w63.cell? ⟨gm, 4, none⟩ = some (.int .i64 x) := (blk_cell BM.out 4).trans rfl; have hcm_5 : w63.cell? ⟨gm, 5, none⟩ = some (.int .i64 y) := (blk_cell BM.out 5).trans rfl; have hcm_6 : w63.cell? ⟨gm, 6, none⟩ = some (.int .i64 tk) := (blk_cell BM.out 6).trans rfl; have hcm_7 : w63.cell? ⟨gm, 7, none⟩ = some (.int .i64 sn) := (blk_cell BM.out 7).trans rfl; have hfm_0 := blk_frozen BM.out 0; have hfm_1 := blk_frozen BM.out 1; have hfm_2 := blk_frozen BM.out 2; have hfm_3 := blk_frozen BM.out 3; have hfm_4 := blk_frozen BM.out 4; have hfm_5 := blk_frozen BM.out 5; have hfm_6 := blk_frozen BM.out 6; have hfm_7 := blk_frozen BM.out 7; have hcq_0 : w63.cell? ⟨gq, 0, none⟩ = some (.string a) := (blk_cell BQ.out 0).trans rfl; have hcq_1 : w63.cell? ⟨gq, 1, none⟩ = some (.string b) := (blk_cell BQ.out 1).trans rfl; have hcq_2 : w63.cell? ⟨gq, 2, none⟩ = some (.int .i64 mode) := (blk_cell BQ.out 2).trans rfl; have hcq_3 : w63.cell? ⟨gq, 3, none⟩ = some (.bool false) := (blk_cell BQ.out 3).trans rfl; have hcq_4 : w63.cell? ⟨gq, 4, none⟩ = some (.int .i64 sc) := (blk_cell BQ.out 4).trans rfl; have hcq_5 : w63.cell? ⟨gq, 5, none⟩ = some (.int .i64 dy) := (blk_cell BQ.out 5).trans rfl; have hcq_6 : w63.cell? ⟨gq, 6, none⟩ = some (.int .i64 tk) := (blk_cell BQ.out 6).trans rfl; have hcq_7 : w63.cell? ⟨gq, 7, none⟩ = some (.int .i64 sn) := (blk_cell BQ.out 7).trans rfl; have hfq_0 := blk_frozen BQ.out 0; have hfq_1 := blk_frozen BQ.out 1; have hfq_2 := blk_frozen BQ.out 2; have hfq_3 := blk_frozen BQ.out 3; have hfq_4 := blk_frozen BQ.out 4; have hfq_5 := blk_frozen BQ.out 5; have hfq_6 := blk_frozen BQ.out 6; have hfq_7 := blk_frozen BQ.out 7; have hcw_0 : w63.cell? ⟨gw, 0, none⟩ = some (.string a) := (blk_cell B_gw.out 0).trans rfl; have hcw_1 : w63.cell? ⟨gw, 1, none⟩ = some (.string b) := (blk_cell B_gw.out 1).trans rfl; have hcw_2 : w63.cell? ⟨gw, 2, none⟩ = some (.int .i64 mode) := (blk_cell B_gw.out 2).trans rfl; have hcw_3 : w63.cell? ⟨gw, 3, none⟩ = some (.bool false) := (blk_cell B_gw.out 3).trans rfl; have hcw_4 : w63.cell? ⟨gw, 4, none⟩ = some (.int .i64 0) := (blk_cell B_gw.out 4).trans rfl; have hcw_5 : w63.cell? ⟨gw, 5, none⟩ = some (.int .i64 (-1)) := (blk_cell B_gw.out 5).trans rfl; have hcw_6 : w63.cell? ⟨gw, 6, none⟩ = some (.int .i64 tk) := (blk_cell B_gw.out 6).trans rfl; have hcw_7 : w63.cell? ⟨gw, 7, none⟩ = some (.int .i64 sn) := (blk_cell B_gw.out 7).trans rfl; have hfw_0 := blk_frozen B_gw.out 0; have hfw_1 := blk_frozen B_gw.out 1; have hfw_2 := blk_frozen B_gw.out 2; have hfw_3 := blk_frozen B_gw.out 3; have hfw_4 := blk_frozen B_gw.out 4; have hfw_5 := blk_frozen B_gw.out 5; have hfw_6 := blk_frozen B_gw.out 6; have hfw_7 := blk_frozen B_gw.out 7)
   go_ret
   exact ⟨by first | rfl | simp, HB.out⟩
set_option maxHeartbeats 8000000 in
set_option maxRecDepth 100000 in
theorem once_mid (r4 cnd rc : Code) (hrc : ∃ c0 c1 c2, Tryd.f4.body = some (.seq c0 (.seq c1 (.seq c2 (.seq (.seq r4 cnd) rc))))) (k : Nat) (hk : 1000 ≤ k) (a b : ByteArray) (mode : Int) (off : Bool) (sc dy tk sn : Int) (A1 : Option Addr) (c1 : Nat) (l1 : List Int) (most : Int) (w ws : World) (gq gm : Nat) {u0 u4 u5 u8 u9 u10 u11 u12 u13 u14 u15 u16 u17 u18 u19 u20 u21 u22 u23 u24 u25 u26 u27 u28 u29 u30 u31 u32 u33 u34 u35 u36 u37 u38 u39 u40 u41 u42 u43 u44 u45 u46 u47 u48 u49 u50 u51 u52 u53 u54 u55 u56 u57 u58 u59 u60 u61 u62 u63 u64 u65 u66 u67 u68 u69 u70 u71 u72 u73 u74 u75 u76 u77 u78 u79 u80 u81 u82 u83 u84 u85 u86 u87 u88 u89 u90 u91 u92 u93 u94 u95 u96 u97 u98 u99 u100 u101 u102 u103 u104 u105 u106 u107 u108 u109 u110 u111 u112 u113 u114 u115 u116 u117 u118 u119 u120 u121 u122 : Value} (ha : a.size ≤ 140737488355328) (hb : b.size ≤ 140737488355328)
  (hr1 : Kd.C (Kd.int .i64) w A1 l1.length l1) (hB : Below w.heap.size w ws) (hq : ws.heap[gq]? = some (.cells #[.string a, .string b, .int .i64 mode, .bool off, .int .i64 sc, .int .i64 dy, .int .i64 tk, .int .i64 sn] 25 (0, 0))) (hm : ws.heap[gm]? = some (.cells #[.string a, .string b, .int .i64 mode, .bool off, .int .i64 sc, .int .i64 dy, .int .i64 tk, .int .i64 sn] 29 (0, 0))) (hne : gq ≠ gm) (hge : w.heap.size ≤ gm)
  (K K' : Act → World → Prop) (hK : ∀ a_ w_, rc.wp Tryd.prog (bodyPost Tryd.prog Tryd.f4 fun e w' => e = .returned (.bool true) ∧ Below w.heap.size w w') a_ w_ → K a_ w_) (hK' : ∀ a_ w_, cnd.wp Tryd.prog (Exit.then K (bodyPost Tryd.prog Tryd.f4 fun e w' => e = .returned (.bool true) ∧ Below w.heap.size w w')) a_ w_ → K' a_ w_) :
  Code.wp Tryd.prog r4 (Exit.then K' (Exit.then K (bodyPost Tryd.prog Tryd.f4 fun e w' => e = .returned (.bool true) ∧ Below w.heap.size w w')))
   { tmps := #[u0, .slice A1 l1.length c1, .int .i64 most, .pointer (some ⟨gq, 0, none⟩), u4, u5, .bool false, .pointer (some ⟨gm, 0, none⟩), u8, u9, u10, u11, u12, u13, u14, u15, u16, u17, u18, u19, u20, u21, u22, u23, u24, u25, u26, u27, u28, u29, u30, u31, u32, u33, u34, u35, u36, u37, u38, u39, u40, u41, u42, u43, u44, u45, u46, u47, u48, u49, u50, u51, u52, u53, u54, u55, u56, u57, u58, u59, u60, u61, u62, u63, u64, u65, u66, u67, u68, u69, u70, u71, u72, u73, u74, u75, u76, u77, u78, u79, u80, u81, u82, u83, u84, u85, u86, u87, u88, u89, u90, u91, u92, u93, u94, u95, u96, u97, u98, u99, u100, u101, u102, u103, u104, u105, u106, u107, u108, u109, u110, u111, u112, u113, u114, u115, u116, u117, u118, u119, u120, u121, u122], defers := [] } ws := by
 have hu29 := Tryd.underlying29
 obtain ⟨c0, c2, c3, hrc⟩ := hrc
 unfold Tryd.f4 at hrc
 simp only [Option.some.injEq, Code.seq.injEq] at hrc
 obtain ⟨_, _, _, ⟨rfl, rfl⟩, rfl⟩ := hrc
 have hs := Aside0.mk (Pl.sound_is a b mode off sc dy tk sn ha hb k hk)
 clear ha hb
 have HB := Aside0.mk hB
 have BQ := Aside0.mk hq
 have BM := Aside0.mk hm
 have GE := Aside0.mk hge
 have NE := Aside0.mk hne
 have HR := Aside0.mk hr1
 clear hB hq hm hge hne hr1
 have hcm_0 : ws.cell? ⟨gm, 0, none⟩ = some (.string a) := (blk_cell BM.out 0).trans rfl
 have hcm_1 : ws.cell? ⟨gm, 1, none⟩ = some (.string b) := (blk_cell BM.out 1).trans rfl
 have hcm_2 : ws.cell? ⟨gm, 2, none⟩ = some (.int .i64 mode) := (blk_cell BM.out 2).trans rfl
 have hcm_3 : ws.cell? ⟨gm, 3, none⟩ = some (.bool off) := (blk_cell BM.out 3).trans rfl
 have hcm_4 : ws.cell? ⟨gm, 4, none⟩ = some (.int .i64 sc) := (blk_cell BM.out 4).trans rfl
 have hcm_5 : ws.cell? ⟨gm, 5, none⟩ = some (.int .i64 dy) := (blk_cell BM.out 5).trans rfl
 have hcm_6 : ws.cell? ⟨gm, 6, none⟩ = some (.int .i64 tk) := (blk_cell BM.out 6).trans rfl
 have hcm_7 : ws.cell? ⟨gm, 7, none⟩ = some (.int .i64 sn) := (blk_cell BM.out 7).trans rfl
 have hfm_0 := blk_frozen BM.out 0
 have hfm_1 := blk_frozen BM.out 1
 have hfm_2 := blk_frozen BM.out 2
 have hfm_3 := blk_frozen BM.out 3
 have hfm_4 := blk_frozen BM.out 4
 have hfm_5 := blk_frozen BM.out 5
 have hfm_6 := blk_frozen BM.out 6
 have hfm_7 := blk_frozen BM.out 7
 by_cases g0 : Pl.sound a b mode sc dy tk sn = true
 case neg =>
  rw [Bool.not_eq_true] at g0
  rw [g0] at hs
  go_wp2_with (go_at_call 9; (with_reducible refine (roster_Member_Sound.calls k a b mode off sc dy tk sn false _ hs.out).mono ?_); rintro e w20 ⟨rfl, hb⟩; have n0_ := Aside0.mk (below_step HB.out hb); have n1_ := Aside0.mk (blk_below BM.out hb); have n2_ := Aside0.mk (blk_below BQ.out hb); clear HB BM BQ hb; have HB := n0_; have BM := n1_; have BQ := n2_; clear n0_ n1_ n2_; (try clear hcm_0 hfm_0 hcm_1 hfm_1 hcm_2 hfm_2 hcm_3 hfm_3 hcm_4 hfm_4 hcm_5 hfm_5 hcm_6 hfm_6 hcm_7 hfm_7); have hcm_0 : w20.cell? ⟨gm, 0, none⟩ = some (.string a) := (blk_cell BM.out 0).trans rfl; have hcm_1 : w20.cell? ⟨gm, 1, none⟩ = some (.string b) := (blk_cell BM.out 1).trans rfl; have hcm_2 : w20.cell? ⟨gm, 2, none⟩ = some (.int .i64 mode) := (blk_cell BM.out 2).trans rfl; have hcm_3 : w20.cell? ⟨gm, 3, none⟩ = some (.bool off) := (blk_cell BM.out 3).trans rfl; have hcm_4 : w20.cell? ⟨gm, 4, none⟩ = some (.int .i64 sc) := (blk_cell BM.out 4).trans rfl; have hcm_5 : w20.cell? ⟨gm, 5, none⟩ = some (.int .i64 dy) := (blk_cell BM.out 5).trans rfl; have hcm_6 : w20.cell? ⟨gm, 6, none⟩ = some (.int .i64 tk) := (blk_cell BM.out 6).trans rfl; have hcm_7 : w20.cell? ⟨gm, 7, none⟩ = some (.int .i64 sn) := (blk_cell BM.out 7).trans rfl; have hfm_0 := blk_frozen BM.out 0; have hfm_1 := blk_frozen BM.out 1; have hfm_2 := blk_frozen BM.out 2; have hfm_3 := blk_frozen BM.out 3; have hfm_4 := blk_frozen BM.out 4; have hfm_5 := blk_frozen BM.out 5; have hfm_6 := blk_frozen BM.out 6; have hfm_7 := blk_frozen BM.out 7)
  go_ret
  exact ⟨rfl, HB.out⟩
 have hsp := (Pl.sound_parts g0).2.2.1
 rw [g0] at hs
 clear g0
 cases off with
 | true =>
  go_wp2_with (go_at_call 9; (with_reducible refine (roster_Member_Sound.calls k a b mode true sc dy tk sn true _ hs.out).mono ?_); rintro e w20 ⟨rfl, hb⟩; have n0_ := Aside0.mk (below_step HB.out hb); have n1_ := Aside0.mk (blk_below BM.out hb); have n2_ := Aside0.mk (blk_below BQ.out hb); clear HB BM BQ hb; have HB := n0_; have BM := n1_; have BQ := n2_; clear n0_ n1_ n2_; (try clear hcm_0 hfm_0 hcm_1 hfm_1 hcm_2 hfm_2 hcm_3 hfm_3 hcm_4 hfm_4 hcm_5 hfm_5 hcm_6 hfm_6 hcm_7 hfm_7); have hcm_0 : w20.cell? ⟨gm, 0, none⟩ = some (.string a) := (blk_cell BM.out 0).trans rfl; have hcm_1 : w20.cell? ⟨gm, 1, none⟩ = some (.string b) := (blk_cell BM.out 1).trans rfl; have hcm_2 : w20.cell? ⟨gm, 2, none⟩ = some (.int .i64 mode) := (blk_cell BM.out 2).trans rfl; have hcm_3 : w20.cell? ⟨gm, 3, none⟩ = some (.bool true) := (blk_cell BM.out 3).trans rfl; have hcm_4 : w20.cell? ⟨gm, 4, none⟩ = some (.int .i64 sc) := (blk_cell BM.out 4).trans rfl; have hcm_5 : w20.cell? ⟨gm, 5, none⟩ = some (.int .i64 dy) := (blk_cell BM.out 5).trans rfl; have hcm_6 : w20.cell? ⟨gm, 6, none⟩ = some (.int .i64 tk) := (blk_cell BM.out 6).trans rfl; have hcm_7 : w20.cell? ⟨gm, 7, none⟩ = some (.int .i64 sn) := (blk_cell BM.out 7).trans rfl; have hfm_0 := blk_frozen BM.out 0; have hfm_1 := blk_frozen BM.out 1; have hfm_2 := blk_frozen BM.out 2; have hfm_3 := blk_frozen BM.out 3; have hfm_4 := blk_frozen BM.out 4; have hfm_5 := blk_frozen BM.out 5; have hfm_6 := blk_frozen BM.out 6; have hfm_7 := blk_frozen BM.out 7)
  go_ret
  exact ⟨rfl, HB.out⟩
 | false =>
  by_cases e0 : (l1.length : Int) > 100
  ·have f0 : decide (100 < (l1.length : Int)) = true := decide_eq_true (by omega)
   have h0 : (100 < (l1.length : Int)) = True := eq_true (by omega)
   have w0_ : decide (100 < l1.length) = true := decide_eq_true (by omega)
   clear e0 hsp
   go_wp2_with (go_at_call 9; (with_reducible refine (roster_Member_Sound.calls k a b mode false sc dy tk sn true _ hs.out).mono ?_); rintro e w20 ⟨rfl, hb⟩; have n0_ := Aside0.mk (below_step HB.out hb); have n1_ := Aside0.mk (blk_below BM.out hb); have n2_ := Aside0.mk (blk_below BQ.out hb); clear HB BM BQ hb; have HB := n0_; have BM := n1_; have BQ := n2_; clear n0_ n1_ n2_; (try clear hcm_0 hfm_0 hcm_1 hfm_1 hcm_2 hfm_2 hcm_3 hfm_3 hcm_4 hfm_4 hcm_5 hfm_5 hcm_6 hfm_6 hcm_7 hfm_7); have hcm_0 : w20.cell? ⟨gm, 0, none⟩ = some (.string a) := (blk_cell BM.out 0).trans rfl; have hcm_1 : w20.cell? ⟨gm, 1, none⟩ = some (.string b) := (blk_cell BM.out 1).trans rfl; have hcm_2 : w20.cell? ⟨gm, 2, none⟩ = some (.int .i64 mode) := (blk_cell BM.out 2).trans rfl; have hcm_3 : w20.cell? ⟨gm, 3, none⟩ = some (.bool false) := (blk_cell BM.out 3).trans rfl; have hcm_4 : w20.cell? ⟨gm, 4, none⟩ = some (.int .i64 sc) := (blk_cell BM.out 4).trans rfl; have hcm_5 : w20.cell? ⟨gm, 5, none⟩ = some (.int .i64 dy) := (blk_cell BM.out 5).trans rfl; have hcm_6 : w20.cell? ⟨gm, 6, none⟩ = some (.int .i64 tk) := (blk_cell BM.out 6).trans rfl; have hcm_7 : w20.cell? ⟨gm, 7, none⟩ = some (.int .i64 sn) := (blk_cell BM.out 7).trans rfl; have hfm_0 := blk_frozen BM.out 0; have hfm_1 := blk_frozen BM.out 1; have hfm_2 := blk_frozen BM.out 2; have hfm_3 := blk_frozen BM.out 3; have hfm_4 := blk_frozen BM.out 4; have hfm_5 := blk_frozen BM.out 5; have hfm_6 := blk_frozen BM.out 6; have hfm_7 := blk_frozen BM.out 7)
   go_ret
   exact ⟨rfl, HB.out⟩
  have f0 : decide (100 < (l1.length : Int)) = false := decide_eq_false (by omega)
  have h0 : (100 < (l1.length : Int)) = False := eq_false (by omega)
  have w0_ : decide (100 < l1.length) = false := decide_eq_false (by omega)
  by_cases e1 : most < 1
  ·have f1 : decide (most < 1) = true := decide_eq_true (by omega)
   have h1 : (most < 1) = True := eq_true (by omega)
   clear e1 hsp
   go_wp2_with (go_at_call 9; (with_reducible refine (roster_Member_Sound.calls k a b mode false sc dy tk sn true _ hs.out).mono ?_); rintro e w20 ⟨rfl, hb⟩; have n0_ := Aside0.mk (below_step HB.out hb); have n1_ := Aside0.mk (blk_below BM.out hb); have n2_ := Aside0.mk (blk_below BQ.out hb); clear HB BM BQ hb; have HB := n0_; have BM := n1_; have BQ := n2_; clear n0_ n1_ n2_; (try clear hcm_0 hfm_0 hcm_1 hfm_1 hcm_2 hfm_2 hcm_3 hfm_3 hcm_4 hfm_4 hcm_5 hfm_5 hcm_6 hfm_6 hcm_7 hfm_7); have hcm_0 : w20.cell? ⟨gm, 0, none⟩ = some (.string a) := (blk_cell BM.out 0).trans rfl; have hcm_1 : w20.cell? ⟨gm, 1, none⟩ = some (.string b) := (blk_cell BM.out 1).trans rfl; have hcm_2 : w20.cell? ⟨gm, 2, none⟩ = some (.int .i64 mode) := (blk_cell BM.out 2).trans rfl; have hcm_3 : w20.cell? ⟨gm, 3, none⟩ = some (.bool false) := (blk_cell BM.out 3).trans rfl; have hcm_4 : w20.cell? ⟨gm, 4, none⟩ = some (.int .i64 sc) := (blk_cell BM.out 4).trans rfl; have hcm_5 : w20.cell? ⟨gm, 5, none⟩ = some (.int .i64 dy) := (blk_cell BM.out 5).trans rfl; have hcm_6 : w20.cell? ⟨gm, 6, none⟩ = some (.int .i64 tk) := (blk_cell BM.out 6).trans rfl; have hcm_7 : w20.cell? ⟨gm, 7, none⟩ = some (.int .i64 sn) := (blk_cell BM.out 7).trans rfl; have hfm_0 := blk_frozen BM.out 0; have hfm_1 := blk_frozen BM.out 1; have hfm_2 := blk_frozen BM.out 2; have hfm_3 := blk_frozen BM.out 3; have hfm_4 := blk_frozen BM.out 4; have hfm_5 := blk_frozen BM.out 5; have hfm_6 := blk_frozen BM.out 6; have hfm_7 := blk_frozen BM.out 7)
   go_ret
   exact ⟨rfl, HB.out⟩
  have f1 : decide (most < 1) = false := decide_eq_false (by omega)
  have h1 : (most < 1) = False := eq_false (by omega)
  by_cases e2 : most > 1000
  ·have f2 : decide (1000 < most) = true := decide_eq_true (by omega)
   have h2 : (1000 < most) = True := eq_true (by omega)
   clear e2 hsp
   go_wp2_with (go_at_call 9; (with_reducible refine (roster_Member_Sound.calls k a b mode false sc dy tk sn true _ hs.out).mono ?_); rintro e w20 ⟨rfl, hb⟩; have n0_ := Aside0.mk (below_step HB.out hb); have n1_ := Aside0.mk (blk_below BM.out hb); have n2_ := Aside0.mk (blk_below BQ.out hb); clear HB BM BQ hb; have HB := n0_; have BM := n1_; have BQ := n2_; clear n0_ n1_ n2_; (try clear hcm_0 hfm_0 hcm_1 hfm_1 hcm_2 hfm_2 hcm_3 hfm_3 hcm_4 hfm_4 hcm_5 hfm_5 hcm_6 hfm_6 hcm_7 hfm_7); have hcm_0 : w20.cell? ⟨gm, 0, none⟩ = some (.string a) := (blk_cell BM.out 0).trans rfl; have hcm_1 : w20.cell? ⟨gm, 1, none⟩ = some (.string b) := (blk_cell BM.out 1).trans rfl; have hcm_2 : w20.cell? ⟨gm, 2, none⟩ = some (.int .i64 mode) := (blk_cell BM.out 2).trans rfl; have hcm_3 : w20.cell? ⟨gm, 3, none⟩ = some (.bool false) := (blk_cell BM.out 3).trans rfl; have hcm_4 : w20.cell? ⟨gm, 4, none⟩ = some (.int .i64 sc) := (blk_cell BM.out 4).trans rfl; have hcm_5 : w20.cell? ⟨gm, 5, none⟩ = some (.int .i64 dy) := (blk_cell BM.out 5).trans rfl; have hcm_6 : w20.cell? ⟨gm, 6, none⟩ = some (.int .i64 tk) := (blk_cell BM.out 6).trans rfl; have hcm_7 : w20.cell? ⟨gm, 7, none⟩ = some (.int .i64 sn) := (blk_cell BM.out 7).trans rfl; have hfm_0 := blk_frozen BM.out 0; have hfm_1 := blk_frozen BM.out 1; have hfm_2 := blk_frozen BM.out 2; have hfm_3 := blk_frozen BM.out 3; have hfm_4 := blk_frozen BM.out 4; have hfm_5 := blk_frozen BM.out 5; have hfm_6 := blk_frozen BM.out 6; have hfm_7 := blk_frozen BM.out 7)
   go_ret
   exact ⟨rfl, HB.out⟩
  have f2 : decide (1000 < most) = false := decide_eq_false (by omega)
  have h2 : (1000 < most) = False := eq_false (by omega)
  by_cases e3 : sc ≥ most
  ·have f3 : decide (most ≤ sc) = true := decide_eq_true (by omega)
   have h3 : (most ≤ sc) = True := eq_true (by omega)
   clear e3 hsp
   go_wp2_with (go_at_call 9; (with_reducible refine (roster_Member_Sound.calls k a b mode false sc dy tk sn true _ hs.out).mono ?_); rintro e w20 ⟨rfl, hb⟩; have n0_ := Aside0.mk (below_step HB.out hb); have n1_ := Aside0.mk (blk_below BM.out hb); have n2_ := Aside0.mk (blk_below BQ.out hb); clear HB BM BQ hb; have HB := n0_; have BM := n1_; have BQ := n2_; clear n0_ n1_ n2_; (try clear hcm_0 hfm_0 hcm_1 hfm_1 hcm_2 hfm_2 hcm_3 hfm_3 hcm_4 hfm_4 hcm_5 hfm_5 hcm_6 hfm_6 hcm_7 hfm_7); have hcm_0 : w20.cell? ⟨gm, 0, none⟩ = some (.string a) := (blk_cell BM.out 0).trans rfl; have hcm_1 : w20.cell? ⟨gm, 1, none⟩ = some (.string b) := (blk_cell BM.out 1).trans rfl; have hcm_2 : w20.cell? ⟨gm, 2, none⟩ = some (.int .i64 mode) := (blk_cell BM.out 2).trans rfl; have hcm_3 : w20.cell? ⟨gm, 3, none⟩ = some (.bool false) := (blk_cell BM.out 3).trans rfl; have hcm_4 : w20.cell? ⟨gm, 4, none⟩ = some (.int .i64 sc) := (blk_cell BM.out 4).trans rfl; have hcm_5 : w20.cell? ⟨gm, 5, none⟩ = some (.int .i64 dy) := (blk_cell BM.out 5).trans rfl; have hcm_6 : w20.cell? ⟨gm, 6, none⟩ = some (.int .i64 tk) := (blk_cell BM.out 6).trans rfl; have hcm_7 : w20.cell? ⟨gm, 7, none⟩ = some (.int .i64 sn) := (blk_cell BM.out 7).trans rfl; have hfm_0 := blk_frozen BM.out 0; have hfm_1 := blk_frozen BM.out 1; have hfm_2 := blk_frozen BM.out 2; have hfm_3 := blk_frozen BM.out 3; have hfm_4 := blk_frozen BM.out 4; have hfm_5 := blk_frozen BM.out 5; have hfm_6 := blk_frozen BM.out 6; have hfm_7 := blk_frozen BM.out 7)
   go_ret
   exact ⟨rfl, HB.out⟩
  have f3 : decide (most ≤ sc) = false := decide_eq_false (by omega)
  have h3 : (most ≤ sc) = False := eq_false (by omega)
  have HO := Aside0.mk (OnceIn.mk (a := a) (b := b) (mode := mode) (off := false) (sc := sc) (dy := dy) (tk := tk) (sn := sn) (l1 := l1) (most := most) rfl (by omega) (by omega) (by omega) hsp.1 (by omega))
  clear e0 e1 e2 e3 hsp
  go_upto_region 6 with (go_at_call 9; (with_reducible refine (roster_Member_Sound.calls k a b mode false sc dy tk sn true _ hs.out).mono ?_); rintro e w20 ⟨rfl, hb⟩; have n0_ := Aside0.mk (below_step HB.out hb); have n1_ := Aside0.mk (blk_below BM.out hb); have n2_ := Aside0.mk (blk_below BQ.out hb); clear HB BM BQ hb; have HB := n0_; have BM := n1_; have BQ := n2_; clear n0_ n1_ n2_; (try clear hcm_0 hfm_0 hcm_1 hfm_1 hcm_2 hfm_2 hcm_3 hfm_3 hcm_4 hfm_4 hcm_5 hfm_5 hcm_6 hfm_6 hcm_7 hfm_7); have hcm_0 : w20.cell? ⟨gm, 0, none⟩ = some (.string a) := (blk_cell BM.out 0).trans rfl; have hcm_1 : w20.cell? ⟨gm, 1, none⟩ = some (.string b) := (blk_cell BM.out 1).trans rfl; have hcm_2 : w20.cell? ⟨gm, 2, none⟩ = some (.int .i64 mode) := (blk_cell BM.out 2).trans rfl; have hcm_3 : w20.cell? ⟨gm, 3, none⟩ = some (.bool false) := (blk_cell BM.out 3).trans rfl; have hcm_4 : w20.cell? ⟨gm, 4, none⟩ = some (.int .i64 sc) := (blk_cell BM.out 4).trans rfl; have hcm_5 : w20.cell? ⟨gm, 5, none⟩ = some (.int .i64 dy) := (blk_cell BM.out 5).trans rfl; have hcm_6 : w20.cell? ⟨gm, 6, none⟩ = some (.int .i64 tk) := (blk_cell BM.out 6).trans rfl; have hcm_7 : w20.cell? ⟨gm, 7, none⟩ = some (.int .i64 sn) := (blk_cell BM.out 7).trans rfl; have hfm_0 := blk_frozen BM.out 0; have hfm_1 := blk_frozen BM.out 1; have hfm_2 := blk_frozen BM.out 2; have hfm_3 := blk_frozen BM.out 3; have hfm_4 := blk_frozen BM.out 4; have hfm_5 := blk_frozen BM.out 5; have hfm_6 := blk_frozen BM.out 6; have hfm_7 := blk_frozen BM.out 7)
  exact once_loop _ _ ⟨_, _, _, _, rfl⟩ k hk a b mode false sc dy tk sn A1 c1 l1 most w _ gq gm HO.out HR.out HB.out BQ.out BM.out NE.out GE.out _ (by assumption)
def bulletinlaw33_RosterOnce.f (k : Nat) (a0_0 : ByteArray) (a0_1 : ByteArray) (a0_2 : Int) (a0_3 : Bool) (a0_4 : Int) (a0_5 : Int) (a0_6 : Int) (a0_7 : Int) (l1 : List Int) (a2 : Int) : Option Bool := if 1000 ≤ k then (if a0_0.size ≤ 140737488355328 then (if a0_1.size ≤ 140737488355328 then some true else none) else none) else none
set_option maxHeartbeats 8000000 in
set_option maxRecDepth 100000 in
theorem bulletinlaw33_RosterOnce.calls (k : Nat) (a : ByteArray) (b : ByteArray) (mode : Int) (off : Bool) (sc : Int) (dy : Int) (tk : Int) (sn : Int) (A1 : Option Addr) (c1 : Nat) (l1 : List Int) (most : Int) (r : Bool) (w : World) (hG : GlobT w) (hr1 : Kd.C (Kd.int .i64) w A1 l1.length l1) (hc1 : l1.length ≤ c1) (h : bulletinlaw33_RosterOnce.f k a b mode off sc dy tk sn l1 most = some r) :
  Calls Tryd.prog 4 #[.agg #[.string a, .string b, .int .i64 mode, .bool off, .int .i64 sc, .int .i64 dy, .int .i64 tk, .int .i64 sn], .slice A1 l1.length c1, .int .i64 most] w fun e w' => e = .returned (.bool r) ∧ Below w.heap.size w w' := by
 unfold bulletinlaw33_RosterOnce.f at h
 by_cases hk : 1000 ≤ k
 case neg => rw [if_neg hk] at h; cases h
 rw [if_pos hk] at h
 by_cases ha : a.size ≤ 140737488355328
 case neg => rw [if_neg ha] at h; cases h
 rw [if_pos ha] at h
 by_cases hb : b.size ≤ 140737488355328
 case neg => rw [if_neg hb] at h; cases h
 rw [if_pos hb] at h
 obtain rfl := Option.some.inj h
 clear h
 have hu29 := Tryd.underlying29
 have hu25 := Tryd.underlying25
 have hw := Aside0.mk (Pl.works33 k (by omega))
 have ht : Aside0 (bulletinlaw33_To.f a b mode off sc dy tk sn = some (a, b, mode, off, sc, dy, tk, sn)) := ⟨rfl⟩
 have HA := Aside0.mk ha
 have HBb := Aside0.mk hb
 have HR := Aside0.mk hr1
 have HG := Aside0.mk hG
 have HB := Aside0.mk (Below.refl w.heap.size w)
 clear ha hb hr1 hc1 hG
 go_enter Tryd.func4, Tryd.ntmps4
 go_upto_region 4 with (first | ((with_reducible refine gate_dst (N := 3) rfl ?_); refine box_event ?hg (N := 3) ?hd (cs := #[.string a, .string b, .int .i64 mode, .bool off, .int .i64 sc, .int .i64 dy, .int .i64 tk, .int .i64 sn]) (t := 25) ?hr ?_; (case hd => rfl); (case hg => rfl); (case hr => first | (go_simp; done) | (go_simp; rfl)); intro gq hg w8 hbox hb; have x1_ := Aside0.mk ((by rw [hg]; exact HB.out.size : w.heap.size ≤ gq)); have x0_ := Aside0.mk hbox; have n0_ := Aside0.mk (below_step HB.out hb); clear HB  hb; have HB := n0_; clear n0_ ; have GE_gq := x1_; have B_gq := x0_; clear x0_ x1_ hbox hg) | (go_at_call 5; (with_reducible refine (bulletinlaw33_works.calls k true _ (GlobT.below HG.out HB.out) hw.out).mono ?_); rintro e w9 ⟨rfl, hb⟩; have n0_ := Aside0.mk (below_step HB.out hb); have n1_ := Aside0.mk (blk_below B_gq.out hb); clear HB B_gq hb; have HB := n0_; have B_gq := n1_; clear n0_ n1_; have hcq_0 : w9.cell? ⟨gq, 0, none⟩ = some (.string a) := (blk_cell B_gq.out 0).trans rfl; have hcq_1 : w9.cell? ⟨gq, 1, none⟩ = some (.string b) := (blk_cell B_gq.out 1).trans rfl; have hcq_2 : w9.cell? ⟨gq, 2, none⟩ = some (.int .i64 mode) := (blk_cell B_gq.out 2).trans rfl; have hcq_3 : w9.cell? ⟨gq, 3, none⟩ = some (.bool off) := (blk_cell B_gq.out 3).trans rfl; have hcq_4 : w9.cell? ⟨gq, 4, none⟩ = some (.int .i64 sc) := (blk_cell B_gq.out 4).trans rfl; have hcq_5 : w9.cell? ⟨gq, 5, none⟩ = some (.int .i64 dy) := (blk_cell B_gq.out 5).trans rfl; have hcq_6 : w9.cell? ⟨gq, 6, none⟩ = some (.int .i64 tk) := (blk_cell B_gq.out 6).trans rfl; have hcq_7 : w9.cell? ⟨gq, 7, none⟩ = some (.int .i64 sn) := (blk_cell B_gq.out 7).trans rfl; have hfq_0 := blk_frozen B_gq.out 0; have hfq_1 := blk_frozen B_gq.out 1; have hfq_2 := blk_frozen B_gq.out 2; have hfq_3 := blk_frozen B_gq.out 3; have hfq_4 := blk_frozen B_gq.out 4; have hfq_5 := blk_frozen B_gq.out 5; have hfq_6 := blk_frozen B_gq.out 6; have hfq_7 := blk_frozen B_gq.out 7) | (go_at_call 6; (with_reducible refine (bulletinlaw33_To.calls a b mode off sc dy tk sn a b mode off sc dy tk sn _ ht.out).mono ?_); rintro e w11 ⟨rfl, hb⟩; have n0_ := Aside0.mk (below_step HB.out hb); have n1_ := Aside0.mk (blk_below B_gq.out hb); clear HB B_gq hb; have HB := n0_; have B_gq := n1_; clear n0_ n1_; (try clear hcq_0 hfq_0 hcq_1 hfq_1 hcq_2 hfq_2 hcq_3 hfq_3 hcq_4 hfq_4 hcq_5 hfq_5 hcq_6 hfq_6 hcq_7 hfq_7)) | ((with_reducible refine gate_dst (N := 7) rfl ?_); refine box_event ?hg (N := 7) ?hd (cs := #[.string (⟨#[]⟩ : ByteArray), .string (⟨#[]⟩ : ByteArray), .int .i64 0, .bool false, .int .i64 0, .int .i64 0, .int .i64 0, .int .i64 0]) (t := 29) ?hr ?_; (case hd => rfl); (case hg => rfl); (case hr => first | (go_simp; done) | (go_simp; rfl)); intro gm hg w12 hbox hb; have x1_ := Aside0.mk ((by rw [hg]; exact HB.out.size : w.heap.size ≤ gm)); have y0_ := Aside0.mk ((by rw [hg]; exact Nat.ne_of_lt (blk_lt B_gq.out) : gq ≠ gm)); have x0_ := Aside0.mk hbox; have n0_ := Aside0.mk (below_step HB.out hb); have n1_ := Aside0.mk (blk_below B_gq.out hb); clear HB B_gq hb; have HB := n0_; have B_gq := n1_; clear n0_ n1_; have GE_gm := x1_; have B_gm := x0_; clear x0_ x1_ hbox hg; have NE := y0_; clear y0_; have hcm_0 : w12.cell? ⟨gm, 0, none⟩ = some (.string (⟨#[]⟩ : ByteArray)) := (blk_cell B_gm.out 0).trans rfl; have hcm_1 : w12.cell? ⟨gm, 1, none⟩ = some (.string (⟨#[]⟩ : ByteArray)) := (blk_cell B_gm.out 1).trans rfl; have hcm_2 : w12.cell? ⟨gm, 2, none⟩ = some (.int .i64 0) := (blk_cell B_gm.out 2).trans rfl; have hcm_3 : w12.cell? ⟨gm, 3, none⟩ = some (.bool false) := (blk_cell B_gm.out 3).trans rfl; have hcm_4 : w12.cell? ⟨gm, 4, none⟩ = some (.int .i64 0) := (blk_cell B_gm.out 4).trans rfl; have hcm_5 : w12.cell? ⟨gm, 5, none⟩ = some (.int .i64 0) := (blk_cell B_gm.out 5).trans rfl; have hcm_6 : w12.cell? ⟨gm, 6, none⟩ = some (.int .i64 0) := (blk_cell B_gm.out 6).trans rfl; have hcm_7 : w12.cell? ⟨gm, 7, none⟩ = some (.int .i64 0) := (blk_cell B_gm.out 7).trans rfl; have hfm_0 := blk_frozen B_gm.out 0; have hfm_1 := blk_frozen B_gm.out 1; have hfm_2 := blk_frozen B_gm.out 2; have hfm_3 := blk_frozen B_gm.out 3; have hfm_4 := blk_frozen B_gm.out 4; have hfm_5 := blk_frozen B_gm.out 5; have hfm_6 := blk_frozen B_gm.out 6; have hfm_7 := blk_frozen B_gm.out 7))
 (try clear hcm_0 hfm_0 hcm_1 hfm_1 hcm_2 hfm_2 hcm_3 hfm_3 hcm_4 hfm_4 hcm_5 hfm_5 hcm_6 hfm_6 hcm_7 hfm_7)
 have n0_ : Aside0 (Below w.heap.size w ((((((((w12.setCell ⟨gm, 0, none⟩ (.string a)).setCell ⟨gm, 1, none⟩ (.string b)).setCell ⟨gm, 2, none⟩ (.int .i64 mode)).setCell ⟨gm, 3, none⟩ (.bool off)).setCell ⟨gm, 4, none⟩ (.int .i64 sc)).setCell ⟨gm, 5, none⟩ (.int .i64 dy)).setCell ⟨gm, 6, none⟩ (.int .i64 tk)).setCell ⟨gm, 7, none⟩ (.int .i64 sn))) := ⟨member_below HB.out GE_gm.out⟩
 have n1_ : Aside0 (((((((((w12.setCell ⟨gm, 0, none⟩ (.string a)).setCell ⟨gm, 1, none⟩ (.string b)).setCell ⟨gm, 2, none⟩ (.int .i64 mode)).setCell ⟨gm, 3, none⟩ (.bool off)).setCell ⟨gm, 4, none⟩ (.int .i64 sc)).setCell ⟨gm, 5, none⟩ (.int .i64 dy)).setCell ⟨gm, 6, none⟩ (.int .i64 tk)).setCell ⟨gm, 7, none⟩ (.int .i64 sn)).heap[gm]? = some (.cells #[.string a, .string b, .int .i64 mode, .bool off, .int .i64 sc, .int .i64 dy, .int .i64 tk, .int .i64 sn] 29 (0, 0))) := ⟨member_blk (.string a) (.string b) (.int .i64 mode) (.bool off) (.int .i64 sc) (.int .i64 dy) (.int .i64 tk) (.int .i64 sn) B_gm.out⟩
 have n2_ : Aside0 (((((((((w12.setCell ⟨gm, 0, none⟩ (.string a)).setCell ⟨gm, 1, none⟩ (.string b)).setCell ⟨gm, 2, none⟩ (.int .i64 mode)).setCell ⟨gm, 3, none⟩ (.bool off)).setCell ⟨gm, 4, none⟩ (.int .i64 sc)).setCell ⟨gm, 5, none⟩ (.int .i64 dy)).setCell ⟨gm, 6, none⟩ (.int .i64 tk)).setCell ⟨gm, 7, none⟩ (.int .i64 sn)).heap[gq]? = some (.cells #[.string a, .string b, .int .i64 mode, .bool off, .int .i64 sc, .int .i64 dy, .int .i64 tk, .int .i64 sn] 25 (0, 0))) := ⟨member_other B_gq.out NE.out⟩
 clear HB B_gm B_gq
 generalize ((((((((w12.setCell ⟨gm, 0, none⟩ (.string a)).setCell ⟨gm, 1, none⟩ (.string b)).setCell ⟨gm, 2, none⟩ (.int .i64 mode)).setCell ⟨gm, 3, none⟩ (.bool off)).setCell ⟨gm, 4, none⟩ (.int .i64 sc)).setCell ⟨gm, 5, none⟩ (.int .i64 dy)).setCell ⟨gm, 6, none⟩ (.int .i64 tk)).setCell ⟨gm, 7, none⟩ (.int .i64 sn)) = w13 at n0_ n1_ n2_ ⊢
 have HB := n0_
 have B_gm := n1_
 have B_gq := n2_
 clear n0_ n1_ n2_
 exact once_mid _ _ _ ⟨_, _, _, rfl⟩ k hk a b mode off sc dy tk sn A1 c1 l1 most w _ gq gm HA.out HBb.out HR.out HB.out B_gq.out B_gm.out NE.out GE_gm.out _ _ (by assumption) (by assumption)
end Go.Proofs.YtnnlhpmkfijppaaDoor.Fn
set_option linter.unusedVariables false
namespace Go.Proofs.YtnnlhpmkfijppaaDoor.Pl
open Go.RowKit Go.Proofs.YtnnlhpmkfijppaaDoor.Fn

theorem RosterOnce (a b : ByteArray) (mode : Int) (off : Bool) (sc dy tk sn : Int) (l : List Int) (most : Int) (ha : a.size ≤ 140737488355328) (hb : b.size ≤ 140737488355328) : ∃ k, bulletinlaw33_RosterOnce.f k a b mode off sc dy tk sn l most = some true := by
 refine ⟨1000, ?_⟩
 unfold bulletinlaw33_RosterOnce.f
 rw [if_pos (by decide), if_pos ha, if_pos hb]
end Go.Proofs.YtnnlhpmkfijppaaDoor.Pl
set_option linter.unusedVariables false
namespace Go.Proofs.YtnnlhpmkfijppaaDoor.Fn
open Go.RowKit Go.ChangeShapes Go.WideShapes Go.Proofs.YtnnlhpmkfijppaaDoorW.PrintWords

/-! A slice of whole numbers that came in. -/
set_option maxRecDepth 100000 in
theorem open_nums {H : Type} {enc : TypeId × Value → H} {w W : World} {base base' : Nat} {spare : Nat → Bool} {held : Bool} {re : Reach} {v : Value} {d : DataW H} {ps : List MemPlace}
  (hv : Value.okWide Tryd.prog W re base' 36 v) (h : DataW.Trod enc Tryd.prog w base spare held 36 v d ps) :
  ∃ (A : Option Addr) (c : Nat) (l : List Int), v = .slice A l.length c ∧ l.length ≤ c ∧ c ≤ maxLen ∧ Kd.C (Kd.int .i64) w A l.length l := by
 obtain ⟨a, len, cap, rfl⟩ := okWide_slice Tryd.underlying36 hv
 obtain ⟨fuel, h⟩ := h
 have h' : DataW.trod enc Tryd.prog w base spare held fuel 36 [Value.slice a len cap] = some (d, ps) := h
 rcases open_ints Tryd.underlying36 Tryd.underlying3 (by kernel_rfl) h' with ⟨h0, _⟩ | ⟨a', len', cap', ss, h0, _, hl, hm, hlen, _, hc, _⟩
 ·refine ⟨none, 0, [], ?_, Nat.le_refl _, Nat.zero_le _, ?_⟩
  ·simpa using h0
  ·exact ⟨rfl, by simp, fun h => absurd h (by simp)⟩
 ·have hll : len' ≤ ss.length := by rw [hlen]; split <;> omega
  have hlt : (ss.take len').length = len' := by rw [List.length_take]; omega
  refine ⟨some a', cap', ss.take len', ?_, by rw [hlt]; exact hl, hm, ?_⟩
  ·rw [hlt]; simpa using h0
  ·rw [hlt]
   refine ⟨hlt, by unfold maxLen at hm; omega, fun _ => ⟨a', rfl, fun j p hp => ?_⟩⟩
   have hj : j < len' := by
    have := (List.getElem?_eq_some_iff.1 hp).1
    rwa [hlt] at this
   have hp' : p = ss.getD j 0 := by
    rw [List.getElem?_take_of_lt hj] at hp
    rw [List.getD_eq_getElem?_getD, hp]
    rfl
   subst hp'
   refine ⟨[.int .i64 (ss.getD j 0)], rfl, rfl, fun i u hu => ?_⟩
   match i, hu with
   | 0, hu => obtain rfl := Option.some.inj hu; have hz : (Kd.int .i64).sz = 1 := rfl; simpa [Addr.add, hz] using hc j (by omega)
   | i + 1, hu => simp at hu
end Go.Proofs.YtnnlhpmkfijppaaDoor.Fn
set_option linter.unusedVariables false
namespace Go.Proofs.YtnnlhpmkfijppaaDoor.Fn
open Go.RowKit Go.ChangeShapes Go.WideShapes Go.Proofs.YtnnlhpmkfijppaaDoorW.PrintWords

/-! A member (an address and six cells) that came in. -/
theorem array8 {α : Type} {cs : Array α} (h : cs.size = 8) : ∃ c0 c1 c2 c3 c4 c5 c6 c7, cs = #[c0, c1, c2, c3, c4, c5, c6, c7] := by
 obtain ⟨l⟩ := cs
 match l, h with
 | [c0, c1, c2, c3, c4, c5, c6, c7], _ => exact ⟨c0, c1, c2, c3, c4, c5, c6, c7, rfl⟩
theorem list7 {α : Type} {cs : List α} (h : cs.length = 7) : ∃ c0 c1 c2 c3 c4 c5 c6, cs = [c0, c1, c2, c3, c4, c5, c6] := by
 match cs, h with
 | [c0, c1, c2, c3, c4, c5, c6], _ => exact ⟨c0, c1, c2, c3, c4, c5, c6, rfl⟩
theorem list2 {α : Type} {cs : List α} (h : cs.length = 2) : ∃ c0 c1, cs = [c0, c1] := by
 match cs, h with
 | [c0, c1], _ => exact ⟨c0, c1, rfl⟩
theorem cells_str : Tryd.prog.cellsOf 9 = 1 := by kernel_rfl
theorem cells_int : Tryd.prog.cellsOf 3 = 1 := by kernel_rfl
theorem cells_bool : Tryd.prog.cellsOf 4 = 1 := by kernel_rfl
set_option maxRecDepth 100000 in
theorem open_addr {H : Type} {enc : TypeId × Value → H} {w : World} {base : Nat} {spare : Nat → Bool} {held : Bool} {fuel : Nat} {c0 c1 : Value} {y : DataW H × List MemPlace}
  (h : DataW.trod enc Tryd.prog w base spare held fuel 23 [c0, c1] = some y) :
  ∃ (a0 a1 : ByteArray), c0 = .string a0 ∧ c1 = .string a1 ∧ y.1 = .agg [.lit (.string a0.data.toList), .lit (.string a1.data.toList)] := by
 obtain ⟨xs, n, _, rfl, hl, hlen, hall⟩ := DataW.trod_struct Tryd.underlying23 h
 obtain ⟨y0, y1, rfl⟩ := list2 hlen
 have f0 := hall 0 _ rfl
 have f1 := hall 1 _ rfl
 obtain ⟨a0, e0, x0, _⟩ := DataW.trod_string Tryd.underlying9 f0
 obtain ⟨a1, e1, x1, _⟩ := DataW.trod_string Tryd.underlying9 f1
 have k0 : c0 = .string a0 := by have := congrArg (·[0]?) e0; simpa [cells_str] using this
 have k1 : c1 = .string a1 := by have := congrArg (·[0]?) e1; simpa [cells_str] using this
 exact ⟨a0, a1, k0, k1, by subst x0; subst x1; rfl⟩
set_option maxRecDepth 100000 in
theorem open_member {H : Type} {enc : TypeId × Value → H} {w W : World} {base base' : Nat} {spare : Nat → Bool} {held : Bool} {re : Reach} {v : Value} {d : DataW H} {ps : List MemPlace}
  (hv : Value.okWide Tryd.prog W re base' 25 v) (h : DataW.Trod enc Tryd.prog w base spare held 25 v d ps) :
  ∃ (a0 a1 : ByteArray) (a2 : Int) (a3 : Bool) (a4 a5 a6 a7 : Int), v = .agg #[.string a0, .string a1, .int .i64 a2, .bool a3, .int .i64 a4, .int .i64 a5, .int .i64 a6, .int .i64 a7] ∧
   a0.size ∈ d.weights Tryd.prog 25 ∧ a1.size ∈ d.weights Tryd.prog 25 ∧ (-9223372036854775808 ≤ a4 ∧ a4 ≤ 9223372036854775807) ∧ (-9223372036854775808 ≤ a5 ∧ a5 ≤ 9223372036854775807) ∧ (-9223372036854775808 ≤ a6 ∧ a6 ≤ 9223372036854775807) ∧ (-9223372036854775808 ≤ a7 ∧ a7 ≤ 9223372036854775807) := by
 obtain ⟨cs, rfl, hsz⟩ := okWide_struct Tryd.underlying25 hv
 obtain ⟨c0, c1, c2, c3, c4, c5, c6, c7, rfl⟩ := array8 (hsz.trans (by kernel_rfl))
 obtain ⟨fuel, hf⟩ := h
 obtain ⟨xs, n, _, hx, hl, hlen, hall⟩ := DataW.trod_struct Tryd.underlying25 hf
 obtain ⟨y0, y1, y2, y3, y4, y5, y6, rfl⟩ := list7 hlen
 have f0 := hall 0 _ rfl
 have f1 := hall 1 _ rfl
 have f2 := hall 2 _ rfl
 have f3 := hall 3 _ rfl
 have f4 := hall 4 _ rfl
 have f5 := hall 5 _ rfl
 have f6 := hall 6 _ rfl
 obtain ⟨a0, a1, e0, e1, x0⟩ := open_addr (c0 := c0) (c1 := c1) f0
 obtain ⟨a2, e2, x2, _⟩ := DataW.trod_int Tryd.underlying3 f1
 obtain ⟨a3, e3, x3⟩ := DataW.trod_bool Tryd.underlying4 f2
 obtain ⟨a4, e4, x4, w4⟩ := DataW.trod_int Tryd.underlying3 f3
 obtain ⟨a5, e5, x5, w5⟩ := DataW.trod_int Tryd.underlying3 f4
 obtain ⟨a6, e6, x6, w6⟩ := DataW.trod_int Tryd.underlying3 f5
 obtain ⟨a7, e7, x7, w7⟩ := DataW.trod_int Tryd.underlying3 f6
 have k2 : c2 = .int .i64 a2 := by have := congrArg (·[0]?) e2; simpa [cells_int, Value.cells] using this
 have k3 : c3 = .bool a3 := by have := congrArg (·[0]?) e3; simpa [cells_bool, Value.cells] using this
 have k4 : c4 = .int .i64 a4 := by have := congrArg (·[0]?) e4; simpa [cells_int, Value.cells] using this
 have k5 : c5 = .int .i64 a5 := by have := congrArg (·[0]?) e5; simpa [cells_int, Value.cells] using this
 have k6 : c6 = .int .i64 a6 := by have := congrArg (·[0]?) e6; simpa [cells_int, Value.cells] using this
 have k7 : c7 = .int .i64 a7 := by have := congrArg (·[0]?) e7; simpa [cells_int, Value.cells] using this
 have hd : d = .agg [y0.1, y1.1, y2.1, y3.1, y4.1, y5.1, y6.1] := by
  have := congrArg Prod.fst hx
  simpa using this
 have hw : ∀ parts : List (DataW H), (DataW.agg parts).weights Tryd.prog 25 = DataW.weightsEach Tryd.prog [23, 3, 4, 3, 3, 3, 3] parts := fun parts => by
  unfold DataW.weights
  rw [Tryd.underlying25]
  rfl
 have hw2 : ∀ parts : List (DataW H), (DataW.agg parts).weights Tryd.prog 23 = DataW.weightsEach Tryd.prog [9, 9] parts := fun parts => by
  unfold DataW.weights
  rw [Tryd.underlying23]
  rfl
 have hw3 : ∀ a : ByteArray, a.size ∈ (DataW.lit (.string a.data.toList) : DataW H).weights Tryd.prog 9 := fun a => by
  unfold DataW.weights
  have : a.data.toList.length = a.size := Array.length_toList
  rw [this]
  exact List.mem_singleton.2 rfl
 refine ⟨a0, a1, a2, a3, a4, a5, a6, a7, by rw [e0, e1, k2, k3, k4, k5, k6, k7], ?_, ?_, bounds_i64 w4, bounds_i64 w5, bounds_i64 w6, bounds_i64 w7⟩
 ·rw [hd, hw, x0]
  refine DataW.weights_mem_each (j := 0) rfl rfl _ ?_
  rw [hw2]
  exact DataW.weights_mem_each (j := 0) rfl rfl _ (hw3 a0)
 ·rw [hd, hw, x0]
  refine DataW.weights_mem_each (j := 0) rfl rfl _ ?_
  rw [hw2]
  exact DataW.weights_mem_each (j := 1) rfl rfl _ (hw3 a1)
theorem sized_sub {H : Type} {P : Program} {ts : List TypeId} {ds : List (DataW H)} (h : (DataW.weightsEach P ts ds).all (· ≤ reachBytes) = true) {j : Nat} {t : TypeId} {d : DataW H} (ht : ts[j]? = some t) (hd : ds[j]? = some d) {n : Nat} (hn : n ∈ d.weights P t) : n ≤ 140737488355328 := by
 have h1 := List.all_eq_true.1 h _ (DataW.weights_mem_each ht hd n hn)
 have h2 := reachBytes_lt
 have h3 : n ≤ reachBytes := by simpa using h1
 omega
end Go.Proofs.YtnnlhpmkfijppaaDoor.Fn
