/- A part of the proof of this sentence: A right member is read again of its text, and what any text is read as is right and has just that text -/
import Derived.Test.YtnnlhpmkfijppaaDoorCRosterBack3
namespace Go.Proofs.YtnnlhpmkfijppaaDoor.Fn
open Go.RowKit Go.Proofs.YtnnlhpmkfijppaaDoorW.PrintWords Go.Proofs.YtnnlhpmkfijppaaDoorW.PrintLast Go.Proofs.YtnnlhpmkfijppaaDoorW.PrintMore
attribute [local go_sem] max2_int min2_int max_two min_two max_three min_three max_four min_four
set_option linter.unusedVariables false
set_option linter.unusedSimpArgs false

attribute [local go_sem high] eqA29
def bulletinlaw33_works.f (k : Nat)  : Option (Bool) := (roster_New.f (⟨#[97]⟩ : ByteArray) (⟨#[98]⟩ : ByteArray) 1 7 9).bind fun bt310 => ((roster_Member_Bounced.f k bt310.1 bt310.2.1 bt310.2.2.1 bt310.2.2.2.1 bt310.2.2.2.2.1 bt310.2.2.2.2.2.1 bt310.2.2.2.2.2.2.1 bt310.2.2.2.2.2.2.2 5 2).bind fun bt319 => ((roster_Member_Bounced.f k bt319.1 bt319.2.1 bt319.2.2.1 bt319.2.2.2.1 bt319.2.2.2.2.1 bt319.2.2.2.2.2.1 bt319.2.2.2.2.2.2.1 bt319.2.2.2.2.2.2.2 5 2).bind fun bt327 => ((roster_Member_Bounced.f k bt327.1 bt327.2.1 bt327.2.2.1 bt327.2.2.2.1 bt327.2.2.2.2.1 bt327.2.2.2.2.2.1 bt327.2.2.2.2.2.2.1 bt327.2.2.2.2.2.2.2 6 2).bind fun bt336 => ((roster_Member_Row.f k bt336.1 bt336.2.1 bt336.2.2.1 bt336.2.2.2.1 bt336.2.2.2.2.1 bt336.2.2.2.2.2.1 bt336.2.2.2.2.2.2.1 bt336.2.2.2.2.2.2.2).bind fun t345 => ((roster_Read.f k t345).bind fun bt346 => ((roster_Member_Gets.f bt310.1 bt310.2.1 bt310.2.2.1 bt310.2.2.2.1 bt310.2.2.2.2.1 bt310.2.2.2.2.2.1 bt310.2.2.2.2.2.2.1 bt310.2.2.2.2.2.2.2 1).bind fun t356 => (if t356 = true then ((roster_Member_Gets.f bt310.1 bt310.2.1 bt310.2.2.1 bt310.2.2.2.1 bt310.2.2.2.2.1 bt310.2.2.2.2.2.1 bt310.2.2.2.2.2.2.1 bt310.2.2.2.2.2.2.2 2).bind fun t357 => (if t357 = true then (some false) else (if bt327.2.2.2.2.1 = 1 then (if bt327.2.2.2.1 = true then (some false) else (if bt336.2.2.2.2.1 = 2 then (if bt336.2.2.2.1 = true then (if bt346.2.2.2.2.2.2.2.2 = 0 then (some ((bt346.1.toList == bt336.1.toList && (bt346.2.1.toList == bt336.2.1.toList)) && (bt346.2.2.1 == bt336.2.2.1 && (bt346.2.2.2.1 == bt336.2.2.2.1 && (bt346.2.2.2.2.1 == bt336.2.2.2.2.1 && (bt346.2.2.2.2.2.1 == bt336.2.2.2.2.2.1 && (bt346.2.2.2.2.2.2.1 == bt336.2.2.2.2.2.2.1 && (bt346.2.2.2.2.2.2.2.1 == bt336.2.2.2.2.2.2.2)))))))) else (some false)) else (some false)) else (some false))) else (some false)))) else (some false))))))))
theorem bulletinlaw33_works.mono : ∀ k, LeO (bulletinlaw33_works.f k ) (bulletinlaw33_works.f (k + 1) ) := by
 intro  k; unfold bulletinlaw33_works.f
 repeat' first
   | (with_reducible exact roster_Member_Bounced.mono _ _ _ _ _ _ _ _ _ _ _)
   | (with_reducible exact roster_Member_Row.mono _ _ _ _ _ _ _ _ _)
   | (with_reducible exact roster_Read.mono _ _)
   | (with_reducible exact LeO.refl _)
   | (with_reducible exact LeO.none _)
   | (with_reducible refine LeO.ite ?_ ?_)
   | (with_reducible refine LeO.bind ?_ (fun _ => ?_))
   | exact roster_Member_Bounced.mono _ _ _ _ _ _ _ _ _ _ _
   | exact roster_Member_Row.mono _ _ _ _ _ _ _ _ _
   | exact roster_Read.mono _ _
   | exact LeO.none _
   | refine LeO.ite ?_ ?_
   | refine LeO.bind ?_ (fun _ => ?_)
set_option maxHeartbeats 8000000 in
set_option maxRecDepth 100000 in
theorem bulletinlaw33_works.callsT (k : Nat)  (r : Bool) (w : World) (hG : GlobT w) (h : bulletinlaw33_works.f k  = some r) (hT : r = true) :
  Calls Tryd.prog 5 #[] w fun e w' => e = .returned (.bool r) ∧ Below w.heap.size w w' := by
 have HT := Aside0.mk hT; clear hT; have hu27 := Tryd.underlying27; have hu29 := Tryd.underlying29; have HB := Aside0.mk (Below.refl w.heap.size w); have H : ((roster_New.f (⟨#[97]⟩ : ByteArray) (⟨#[98]⟩ : ByteArray) 1 7 9).bind fun bt310 => ((roster_Member_Bounced.f k bt310.1 bt310.2.1 bt310.2.2.1 bt310.2.2.2.1 bt310.2.2.2.2.1 bt310.2.2.2.2.2.1 bt310.2.2.2.2.2.2.1 bt310.2.2.2.2.2.2.2 5 2).bind fun bt319 => ((roster_Member_Bounced.f k bt319.1 bt319.2.1 bt319.2.2.1 bt319.2.2.2.1 bt319.2.2.2.2.1 bt319.2.2.2.2.2.1 bt319.2.2.2.2.2.2.1 bt319.2.2.2.2.2.2.2 5 2).bind fun bt327 => ((roster_Member_Bounced.f k bt327.1 bt327.2.1 bt327.2.2.1 bt327.2.2.2.1 bt327.2.2.2.2.1 bt327.2.2.2.2.2.1 bt327.2.2.2.2.2.2.1 bt327.2.2.2.2.2.2.2 6 2).bind fun bt336 => ((roster_Member_Row.f k bt336.1 bt336.2.1 bt336.2.2.1 bt336.2.2.2.1 bt336.2.2.2.2.1 bt336.2.2.2.2.2.1 bt336.2.2.2.2.2.2.1 bt336.2.2.2.2.2.2.2).bind fun t345 => ((roster_Read.f k t345).bind fun bt346 => ((roster_Member_Gets.f bt310.1 bt310.2.1 bt310.2.2.1 bt310.2.2.2.1 bt310.2.2.2.2.1 bt310.2.2.2.2.2.1 bt310.2.2.2.2.2.2.1 bt310.2.2.2.2.2.2.2 1).bind fun t356 => (if t356 = true then ((roster_Member_Gets.f bt310.1 bt310.2.1 bt310.2.2.1 bt310.2.2.2.1 bt310.2.2.2.2.1 bt310.2.2.2.2.2.1 bt310.2.2.2.2.2.2.1 bt310.2.2.2.2.2.2.2 2).bind fun t357 => (if t357 = true then (some false) else (if bt327.2.2.2.2.1 = 1 then (if bt327.2.2.2.1 = true then (some false) else (if bt336.2.2.2.2.1 = 2 then (if bt336.2.2.2.1 = true then (if bt346.2.2.2.2.2.2.2.2 = 0 then (some ((bt346.1.toList == bt336.1.toList && (bt346.2.1.toList == bt336.2.1.toList)) && (bt346.2.2.1 == bt336.2.2.1 && (bt346.2.2.2.1 == bt336.2.2.2.1 && (bt346.2.2.2.2.1 == bt336.2.2.2.2.1 && (bt346.2.2.2.2.2.1 == bt336.2.2.2.2.2.1 && (bt346.2.2.2.2.2.2.1 == bt336.2.2.2.2.2.2.1 && (bt346.2.2.2.2.2.2.2.1 == bt336.2.2.2.2.2.2.2)))))))) else (some false)) else (some false)) else (some false))) else (some false)))) else (some false))))))))) = some r := h; clear h; replace H := Option.bind_eq_some_iff.mp H; obtain ⟨⟨t310, t311, t312, t313, t314, t315, t316, t317⟩, A10, H⟩ := H; replace H : ((roster_Member_Bounced.f k t310 t311 t312 t313 t314 t315 t316 t317 5 2).bind fun bt319 => ((roster_Member_Bounced.f k bt319.1 bt319.2.1 bt319.2.2.1 bt319.2.2.2.1 bt319.2.2.2.2.1 bt319.2.2.2.2.2.1 bt319.2.2.2.2.2.2.1 bt319.2.2.2.2.2.2.2 5 2).bind fun bt327 => ((roster_Member_Bounced.f k bt327.1 bt327.2.1 bt327.2.2.1 bt327.2.2.2.1 bt327.2.2.2.2.1 bt327.2.2.2.2.2.1 bt327.2.2.2.2.2.2.1 bt327.2.2.2.2.2.2.2 6 2).bind fun bt336 => ((roster_Member_Row.f k bt336.1 bt336.2.1 bt336.2.2.1 bt336.2.2.2.1 bt336.2.2.2.2.1 bt336.2.2.2.2.2.1 bt336.2.2.2.2.2.2.1 bt336.2.2.2.2.2.2.2).bind fun t345 => ((roster_Read.f k t345).bind fun bt346 => ((roster_Member_Gets.f t310 t311 t312 t313 t314 t315 t316 t317 1).bind fun t356 => (if t356 = true then ((roster_Member_Gets.f t310 t311 t312 t313 t314 t315 t316 t317 2).bind fun t357 => (if t357 = true then (some false) else (if bt327.2.2.2.2.1 = 1 then (if bt327.2.2.2.1 = true then (some false) else (if bt336.2.2.2.2.1 = 2 then (if bt336.2.2.2.1 = true then (if bt346.2.2.2.2.2.2.2.2 = 0 then (some ((bt346.1.toList == bt336.1.toList && (bt346.2.1.toList == bt336.2.1.toList)) && (bt346.2.2.1 == bt336.2.2.1 && (bt346.2.2.2.1 == bt336.2.2.2.1 && (bt346.2.2.2.2.1 == bt336.2.2.2.2.1 && (bt346.2.2.2.2.2.1 == bt336.2.2.2.2.2.1 && (bt346.2.2.2.2.2.2.1 == bt336.2.2.2.2.2.2.1 && (bt346.2.2.2.2.2.2.2.1 == bt336.2.2.2.2.2.2.2)))))))) else (some false)) else (some false)) else (some false))) else (some false)))) else (some false)))))))) = some r := H; have A1 := Aside0.mk A10; clear A10; replace H := Option.bind_eq_some_iff.mp H; obtain ⟨⟨t319, t320, t321, t322, t323, t324, t325, t326⟩, A20, H⟩ := H; replace H : ((roster_Member_Bounced.f k t319 t320 t321 t322 t323 t324 t325 t326 5 2).bind fun bt327 => ((roster_Member_Bounced.f k bt327.1 bt327.2.1 bt327.2.2.1 bt327.2.2.2.1 bt327.2.2.2.2.1 bt327.2.2.2.2.2.1 bt327.2.2.2.2.2.2.1 bt327.2.2.2.2.2.2.2 6 2).bind fun bt336 => ((roster_Member_Row.f k bt336.1 bt336.2.1 bt336.2.2.1 bt336.2.2.2.1 bt336.2.2.2.2.1 bt336.2.2.2.2.2.1 bt336.2.2.2.2.2.2.1 bt336.2.2.2.2.2.2.2).bind fun t345 => ((roster_Read.f k t345).bind fun bt346 => ((roster_Member_Gets.f t310 t311 t312 t313 t314 t315 t316 t317 1).bind fun t356 => (if t356 = true then ((roster_Member_Gets.f t310 t311 t312 t313 t314 t315 t316 t317 2).bind fun t357 => (if t357 = true then (some false) else (if bt327.2.2.2.2.1 = 1 then (if bt327.2.2.2.1 = true then (some false) else (if bt336.2.2.2.2.1 = 2 then (if bt336.2.2.2.1 = true then (if bt346.2.2.2.2.2.2.2.2 = 0 then (some ((bt346.1.toList == bt336.1.toList && (bt346.2.1.toList == bt336.2.1.toList)) && (bt346.2.2.1 == bt336.2.2.1 && (bt346.2.2.2.1 == bt336.2.2.2.1 && (bt346.2.2.2.2.1 == bt336.2.2.2.2.1 && (bt346.2.2.2.2.2.1 == bt336.2.2.2.2.2.1 && (bt346.2.2.2.2.2.2.1 == bt336.2.2.2.2.2.2.1 && (bt346.2.2.2.2.2.2.2.1 == bt336.2.2.2.2.2.2.2)))))))) else (some false)) else (some false)) else (some false))) else (some false)))) else (some false))))))) = some r := H; have A2 := Aside0.mk A20; clear A20; replace H := Option.bind_eq_some_iff.mp H; obtain ⟨⟨t327, t328, t329, t330, t331, t332, t333, t334⟩, A30, H⟩ := H; replace H : ((roster_Member_Bounced.f k t327 t328 t329 t330 t331 t332 t333 t334 6 2).bind fun bt336 => ((roster_Member_Row.f k bt336.1 bt336.2.1 bt336.2.2.1 bt336.2.2.2.1 bt336.2.2.2.2.1 bt336.2.2.2.2.2.1 bt336.2.2.2.2.2.2.1 bt336.2.2.2.2.2.2.2).bind fun t345 => ((roster_Read.f k t345).bind fun bt346 => ((roster_Member_Gets.f t310 t311 t312 t313 t314 t315 t316 t317 1).bind fun t356 => (if t356 = true then ((roster_Member_Gets.f t310 t311 t312 t313 t314 t315 t316 t317 2).bind fun t357 => (if t357 = true then (some false) else (if t331 = 1 then (if t330 = true then (some false) else (if bt336.2.2.2.2.1 = 2 then (if bt336.2.2.2.1 = true then (if bt346.2.2.2.2.2.2.2.2 = 0 then (some ((bt346.1.toList == bt336.1.toList && (bt346.2.1.toList == bt336.2.1.toList)) && (bt346.2.2.1 == bt336.2.2.1 && (bt346.2.2.2.1 == bt336.2.2.2.1 && (bt346.2.2.2.2.1 == bt336.2.2.2.2.1 && (bt346.2.2.2.2.2.1 == bt336.2.2.2.2.2.1 && (bt346.2.2.2.2.2.2.1 == bt336.2.2.2.2.2.2.1 && (bt346.2.2.2.2.2.2.2.1 == bt336.2.2.2.2.2.2.2)))))))) else (some false)) else (some false)) else (some false))) else (some false)))) else (some false)))))) = some r := H; have A3 := Aside0.mk A30; clear A30; replace H := Option.bind_eq_some_iff.mp H; obtain ⟨⟨t336, t337, t338, t339, t340, t341, t342, t343⟩, A40, H⟩ := H; replace H : ((roster_Member_Row.f k t336 t337 t338 t339 t340 t341 t342 t343).bind fun t345 => ((roster_Read.f k t345).bind fun bt346 => ((roster_Member_Gets.f t310 t311 t312 t313 t314 t315 t316 t317 1).bind fun t356 => (if t356 = true then ((roster_Member_Gets.f t310 t311 t312 t313 t314 t315 t316 t317 2).bind fun t357 => (if t357 = true then (some false) else (if t331 = 1 then (if t330 = true then (some false) else (if t340 = 2 then (if t339 = true then (if bt346.2.2.2.2.2.2.2.2 = 0 then (some ((bt346.1.toList == t336.toList && (bt346.2.1.toList == t337.toList)) && (bt346.2.2.1 == t338 && (bt346.2.2.2.1 == t339 && (bt346.2.2.2.2.1 == t340 && (bt346.2.2.2.2.2.1 == t341 && (bt346.2.2.2.2.2.2.1 == t342 && (bt346.2.2.2.2.2.2.2.1 == t343)))))))) else (some false)) else (some false)) else (some false))) else (some false)))) else (some false))))) = some r := H; have A4 := Aside0.mk A40; clear A40; replace H := Option.bind_eq_some_iff.mp H; obtain ⟨t345, A50, H⟩ := H; replace H : ((roster_Read.f k t345).bind fun bt346 => ((roster_Member_Gets.f t310 t311 t312 t313 t314 t315 t316 t317 1).bind fun t356 => (if t356 = true then ((roster_Member_Gets.f t310 t311 t312 t313 t314 t315 t316 t317 2).bind fun t357 => (if t357 = true then (some false) else (if t331 = 1 then (if t330 = true then (some false) else (if t340 = 2 then (if t339 = true then (if bt346.2.2.2.2.2.2.2.2 = 0 then (some ((bt346.1.toList == t336.toList && (bt346.2.1.toList == t337.toList)) && (bt346.2.2.1 == t338 && (bt346.2.2.2.1 == t339 && (bt346.2.2.2.2.1 == t340 && (bt346.2.2.2.2.2.1 == t341 && (bt346.2.2.2.2.2.2.1 == t342 && (bt346.2.2.2.2.2.2.2.1 == t343)))))))) else (some false)) else (some false)) else (some false))) else (some false)))) else (some false)))) = some r := H; have A5 := Aside0.mk A50; clear A50; replace H := Option.bind_eq_some_iff.mp H; obtain ⟨⟨t346, t347, t348, t349, t350, t351, t352, t353, t354⟩, A60, H⟩ := H; replace H : ((roster_Member_Gets.f t310 t311 t312 t313 t314 t315 t316 t317 1).bind fun t356 => (if t356 = true then ((roster_Member_Gets.f t310 t311 t312 t313 t314 t315 t316 t317 2).bind fun t357 => (if t357 = true then (some false) else (if t331 = 1 then (if t330 = true then (some false) else (if t340 = 2 then (if t339 = true then (if t354 = 0 then (some ((t346.toList == t336.toList && (t347.toList == t337.toList)) && (t348 == t338 && (t349 == t339 && (t350 == t340 && (t351 == t341 && (t352 == t342 && (t353 == t343)))))))) else (some false)) else (some false)) else (some false))) else (some false)))) else (some false))) = some r := H; have A6 := Aside0.mk A60; clear A60; replace H := Option.bind_eq_some_iff.mp H; obtain ⟨t356, A70, H⟩ := H; replace H : (if t356 = true then ((roster_Member_Gets.f t310 t311 t312 t313 t314 t315 t316 t317 2).bind fun t357 => (if t357 = true then (some false) else (if t331 = 1 then (if t330 = true then (some false) else (if t340 = 2 then (if t339 = true then (if t354 = 0 then (some ((t346.toList == t336.toList && (t347.toList == t337.toList)) && (t348 == t338 && (t349 == t339 && (t350 == t340 && (t351 == t341 && (t352 == t342 && (t353 == t343)))))))) else (some false)) else (some false)) else (some false))) else (some false)))) else (some false)) = some r := H; have A7 := Aside0.mk A70; clear A70
 by_cases c8 : t356 = true
 ·subst c8; have H1 : ((roster_Member_Gets.f t310 t311 t312 t313 t314 t315 t316 t317 2).bind fun t357 => (if t357 = true then (some false) else (if t331 = 1 then (if t330 = true then (some false) else (if t340 = 2 then (if t339 = true then (if t354 = 0 then (some ((t346.toList == t336.toList && (t347.toList == t337.toList)) && (t348 == t338 && (t349 == t339 && (t350 == t340 && (t351 == t341 && (t352 == t342 && (t353 == t343)))))))) else (some false)) else (some false)) else (some false))) else (some false)))) = some r := by rw [if_pos rfl] at H; exact H
  clear H; have H := H1; clear H1; replace H := Option.bind_eq_some_iff.mp H; obtain ⟨t357, A90, H⟩ := H; replace H : (if t357 = true then (some false) else (if t331 = 1 then (if t330 = true then (some false) else (if t340 = 2 then (if t339 = true then (if t354 = 0 then (some ((t346.toList == t336.toList && (t347.toList == t337.toList)) && (t348 == t338 && (t349 == t339 && (t350 == t340 && (t351 == t341 && (t352 == t342 && (t353 == t343)))))))) else (some false)) else (some false)) else (some false))) else (some false))) = some r := H; have A9 := Aside0.mk A90; clear A90
  by_cases c10 : t357 = true
  ·subst c10; have H1 : (some false) = some r := by rw [if_pos rfl] at H; exact H
   clear H; have H := H1; clear H1; obtain rfl := Option.some.inj H; exact absurd HT.out (by decide)
  ·replace c10 := Bool.eq_false_iff.mpr c10; subst c10; have H1 : (if t331 = 1 then (if t330 = true then (some false) else (if t340 = 2 then (if t339 = true then (if t354 = 0 then (some ((t346.toList == t336.toList && (t347.toList == t337.toList)) && (t348 == t338 && (t349 == t339 && (t350 == t340 && (t351 == t341 && (t352 == t342 && (t353 == t343)))))))) else (some false)) else (some false)) else (some false))) else (some false)) = some r := by rw [if_neg (show ¬ (false = true) by decide)] at H; exact H
   clear H; have H := H1; clear H1
   by_cases c35 : t331 = 1
   ·rw [if_pos c35] at H; have c35b0 : (t331 == 1) = true := beq_iff_eq.mpr c35; have c35b1 : (t331 != 1) = false := bne_eq_false_iff_eq.mpr c35; clear c35
    by_cases c36 : t330 = true
    ·subst c36; have H1 : (some false) = some r := by rw [if_pos rfl] at H; exact H
     clear H; have H := H1; clear H1; obtain rfl := Option.some.inj H; exact absurd HT.out (by decide)
    ·replace c36 := Bool.eq_false_iff.mpr c36; subst c36; have H1 : (if t340 = 2 then (if t339 = true then (if t354 = 0 then (some ((t346.toList == t336.toList && (t347.toList == t337.toList)) && (t348 == t338 && (t349 == t339 && (t350 == t340 && (t351 == t341 && (t352 == t342 && (t353 == t343)))))))) else (some false)) else (some false)) else (some false)) = some r := by rw [if_neg (show ¬ (false = true) by decide)] at H; exact H
     clear H; have H := H1; clear H1
     by_cases c62 : t340 = 2
     ·rw [if_pos c62] at H; have c62b0 : (t340 == 2) = true := beq_iff_eq.mpr c62; have c62b1 : (t340 != 2) = false := bne_eq_false_iff_eq.mpr c62; clear c62
      by_cases c63 : t339 = true
      ·subst c63; have H1 : (if t354 = 0 then (some ((t346.toList == t336.toList && (t347.toList == t337.toList)) && (t348 == t338 && (t349 == true && (t350 == t340 && (t351 == t341 && (t352 == t342 && (t353 == t343)))))))) else (some false)) = some r := by rw [if_pos rfl] at H; exact H
       clear H; have H := H1; clear H1
       by_cases c64 : t354 = 0
       ·rw [if_pos c64] at H; have c64b0 : (t354 == 0) = true := beq_iff_eq.mpr c64; have c64b1 : (t354 != 0) = false := bne_eq_false_iff_eq.mpr c64; clear c64; obtain rfl := Option.some.inj H
        go_enter Tryd.func5, Tryd.ntmps5
        go_wp2_with (first | ((with_reducible refine gate_callee (f := 13) rfl ?_); refine goesL_ (some 7) rfl rfl Tryd.func13 (by kernel_rfl) rfl #[.agg #[.string (⟨#[97]⟩ : ByteArray), .string (⟨#[98]⟩ : ByteArray)], .int .i64 1, .int .i64 7, .int .i64 9] rfl am ?_; (with_reducible refine (roster_New.calls (⟨#[97]⟩ : ByteArray) (⟨#[98]⟩ : ByteArray) 1 7 9 t310 t311 t312 t313 t314 t315 t316 t317 _ A1.out).mono ?_); rintro e w65 ⟨rfl, hb⟩; refine ⟨_, rfl, ?_⟩; have n0_ := Aside0.mk (below_step bw hb); clear HB; have HB := n0_; clear n0_; (try clear hb); (try clear hb2); (try clear hk); (try clear hi)) | ((with_reducible refine gate_dst (N := 1) rfl ?_); refine box_event ?hg (N := 1) ?hd (cs := #[.string (⟨#[]⟩ : ByteArray), .string (⟨#[]⟩ : ByteArray), .int .i64 0, .bool false, .int .i64 0, .int .i64 0, .int .i64 0, .int .i64 0]) (t := 29) ?hr ?_; (case hd => rfl); (case hg => rfl); (case hr => first | (go_simp; done) | (go_simp; rfl)); intro gb318 hg w66 hbox hb; have n0_ := Aside0.mk (below_step bw hb); have n1_ := Aside0.mk (hbox); have n2_ := Aside0.mk ((by rw [hg]; exact (below_size bw) : w.heap.size ≤ gb318)); have n3_ := Aside0.mk ((by rw [hg]; exact (below_size bw) : w.heap.size ≤ gb318)); clear HB; have HB := n0_; have BK318 := n1_; have GW318 := n2_; have GE318 := n3_; clear n0_ n1_ n2_ n3_; clear hb hbox hg; have hcz67_0 : w66.cell? ⟨gb318, 0, none⟩ = some (.string (⟨#[]⟩ : ByteArray)) := (blk_cell BK318.out 0).trans rfl; have hcz67_1 : w66.cell? ⟨gb318, 1, none⟩ = some (.string (⟨#[]⟩ : ByteArray)) := (blk_cell BK318.out 1).trans rfl; have hcz67_2 : w66.cell? ⟨gb318, 2, none⟩ = some (.int .i64 0) := (blk_cell BK318.out 2).trans rfl; have hcz67_3 : w66.cell? ⟨gb318, 3, none⟩ = some (.bool false) := (blk_cell BK318.out 3).trans rfl; have hcz67_4 : w66.cell? ⟨gb318, 4, none⟩ = some (.int .i64 0) := (blk_cell BK318.out 4).trans rfl; have hcz67_5 : w66.cell? ⟨gb318, 5, none⟩ = some (.int .i64 0) := (blk_cell BK318.out 5).trans rfl; have hcz67_6 : w66.cell? ⟨gb318, 6, none⟩ = some (.int .i64 0) := (blk_cell BK318.out 6).trans rfl; have hcz67_7 : w66.cell? ⟨gb318, 7, none⟩ = some (.int .i64 0) := (blk_cell BK318.out 7).trans rfl; have hfz67_0 := blk_frozen BK318.out 0; have hfz67_1 := blk_frozen BK318.out 1; have hfz67_2 := blk_frozen BK318.out 2; have hfz67_3 := blk_frozen BK318.out 3; have hfz67_4 := blk_frozen BK318.out 4; have hfz67_5 := blk_frozen BK318.out 5; have hfz67_6 := blk_frozen BK318.out 6; have hfz67_7 := blk_frozen BK318.out 7) | ((with_reducible refine gate_callee (f := 10) rfl ?_); refine goesL_ (some 9) rfl rfl Tryd.func10 (by kernel_rfl) rfl #[.agg #[.string t310, .string t311, .int .i64 t312, .bool t313, .int .i64 t314, .int .i64 t315, .int .i64 t316, .int .i64 t317], .int .i64 5, .int .i64 2] rfl am ?_; (with_reducible refine (roster_Member_Bounced.calls k t310 t311 t312 t313 t314 t315 t316 t317 5 2 t319 t320 t321 t322 t323 t324 t325 t326 _ A2.out).mono ?_); rintro e w68 ⟨rfl, hb⟩; refine ⟨_, rfl, ?_⟩; have n0_ := Aside0.mk (blk_below (g := gb318) (o := .cells #[.string t310, .string t311, .int .i64 t312, .bool t313, .int .i64 t314, .int .i64 t315, .int .i64 t316, .int .i64 t317] 29 (0, 0)) (by (with_reducible repeat (first | refine blk_drewN ?_ _ | refine blk_drew ?_ | refine blk_alloc ?_ _)); refine blk_put (cs := #[.string t310, .string t311, .int .i64 t312, .bool t313, .int .i64 t314, .int .i64 t315, .int .i64 t316, .int .i64 0]) ?_ 7 _ rfl; (with_reducible repeat (first | refine blk_drewN ?_ _ | refine blk_drew ?_ | refine blk_alloc ?_ _)); refine blk_put (cs := #[.string t310, .string t311, .int .i64 t312, .bool t313, .int .i64 t314, .int .i64 t315, .int .i64 0, .int .i64 0]) ?_ 6 _ rfl; (with_reducible repeat (first | refine blk_drewN ?_ _ | refine blk_drew ?_ | refine blk_alloc ?_ _)); refine blk_put (cs := #[.string t310, .string t311, .int .i64 t312, .bool t313, .int .i64 t314, .int .i64 0, .int .i64 0, .int .i64 0]) ?_ 5 _ rfl; (with_reducible repeat (first | refine blk_drewN ?_ _ | refine blk_drew ?_ | refine blk_alloc ?_ _)); refine blk_put (cs := #[.string t310, .string t311, .int .i64 t312, .bool t313, .int .i64 0, .int .i64 0, .int .i64 0, .int .i64 0]) ?_ 4 _ rfl; (with_reducible repeat (first | refine blk_drewN ?_ _ | refine blk_drew ?_ | refine blk_alloc ?_ _)); refine blk_put (cs := #[.string t310, .string t311, .int .i64 t312, .bool false, .int .i64 0, .int .i64 0, .int .i64 0, .int .i64 0]) ?_ 3 _ rfl; (with_reducible repeat (first | refine blk_drewN ?_ _ | refine blk_drew ?_ | refine blk_alloc ?_ _)); refine blk_put (cs := #[.string t310, .string t311, .int .i64 0, .bool false, .int .i64 0, .int .i64 0, .int .i64 0, .int .i64 0]) ?_ 2 _ rfl; (with_reducible repeat (first | refine blk_drewN ?_ _ | refine blk_drew ?_ | refine blk_alloc ?_ _)); refine blk_put (cs := #[.string t310, .string (⟨#[]⟩ : ByteArray), .int .i64 0, .bool false, .int .i64 0, .int .i64 0, .int .i64 0, .int .i64 0]) ?_ 1 _ rfl; (with_reducible repeat (first | refine blk_drewN ?_ _ | refine blk_drew ?_ | refine blk_alloc ?_ _)); exact blk_put (cs := #[.string (⟨#[]⟩ : ByteArray), .string (⟨#[]⟩ : ByteArray), .int .i64 0, .bool false, .int .i64 0, .int .i64 0, .int .i64 0, .int .i64 0]) bk 0 _ rfl) hb); have n1_ := Aside0.mk (below_step bwS hb); clear BK318; clear HB; have BK318 := n0_; have HB := n1_; clear n0_ n1_; (try clear hb); (try clear hb2); (try clear hk); (try clear hi)) | ((with_reducible refine gate_callee (f := 10) rfl ?_); refine goesL_ (some 10) rfl rfl Tryd.func10 (by kernel_rfl) rfl #[.agg #[.string t319, .string t320, .int .i64 t321, .bool t322, .int .i64 t323, .int .i64 t324, .int .i64 t325, .int .i64 t326], .int .i64 5, .int .i64 2] rfl am ?_; (with_reducible refine (roster_Member_Bounced.calls k t319 t320 t321 t322 t323 t324 t325 t326 5 2 t327 t328 t329 false t331 t332 t333 t334 _ A3.out).mono ?_); rintro e w69 ⟨rfl, hb⟩; refine ⟨_, rfl, ?_⟩; have n0_ := Aside0.mk (blk_below (g := gb318) (o := .cells #[.string t310, .string t311, .int .i64 t312, .bool t313, .int .i64 t314, .int .i64 t315, .int .i64 t316, .int .i64 t317] 29 (0, 0)) bk hb); have n1_ := Aside0.mk (below_step bwS hb); clear BK318; clear HB; have BK318 := n0_; have HB := n1_; clear n0_ n1_; (try clear hb); (try clear hb2); (try clear hk); (try clear hi)) | ((with_reducible refine gate_dst (N := 2) rfl ?_); refine box_event ?hg (N := 2) ?hd (cs := #[.string (⟨#[]⟩ : ByteArray), .string (⟨#[]⟩ : ByteArray), .int .i64 0, .bool false, .int .i64 0, .int .i64 0, .int .i64 0, .int .i64 0]) (t := 29) ?hr ?_; (case hd => rfl); (case hg => rfl); (case hr => first | (go_simp; done) | (go_simp; rfl)); intro gb335 hg w70 hbox hb; have n0_ := Aside0.mk (blk_below (g := gb318) (o := .cells #[.string t310, .string t311, .int .i64 t312, .bool t313, .int .i64 t314, .int .i64 t315, .int .i64 t316, .int .i64 t317] 29 (0, 0)) bk hb); have n1_ := Aside0.mk (below_step bwS hb); have n2_ := Aside0.mk (hbox); have n3_ := Aside0.mk ((by rw [hg]; exact (below_size bwS) : w.heap.size ≤ gb335)); have n4_ := Aside0.mk ((by rw [hg]; exact (below_size bwS) : w.heap.size ≤ gb335)); have n5_ := Aside0.mk ((by rw [hg]; exact Nat.ne_of_lt (blk_lt (g := gb318) (o := .cells #[.string t310, .string t311, .int .i64 t312, .bool t313, .int .i64 t314, .int .i64 t315, .int .i64 t316, .int .i64 t317] 29 (0, 0)) bk) : gb318 ≠ gb335)); have n6_ := Aside0.mk ((by rw [hg]; exact Nat.ne_of_gt (blk_lt (g := gb318) (o := .cells #[.string t310, .string t311, .int .i64 t312, .bool t313, .int .i64 t314, .int .i64 t315, .int .i64 t316, .int .i64 t317] 29 (0, 0)) bk) : gb335 ≠ gb318)); clear BK318; clear HB; have BK318 := n0_; have HB := n1_; have BK335 := n2_; have GW335 := n3_; have GE335 := n4_; have NB318_335 := n5_; have NB335_318 := n6_; clear n0_ n1_ n2_ n3_ n4_ n5_ n6_; clear hb hbox hg; have hnb71 := NB335_318.out; have hnc71 := NB318_335.out; have hcz72_0 : w70.cell? ⟨gb335, 0, none⟩ = some (.string (⟨#[]⟩ : ByteArray)) := (blk_cell BK335.out 0).trans rfl; have hcz72_1 : w70.cell? ⟨gb335, 1, none⟩ = some (.string (⟨#[]⟩ : ByteArray)) := (blk_cell BK335.out 1).trans rfl; have hcz72_2 : w70.cell? ⟨gb335, 2, none⟩ = some (.int .i64 0) := (blk_cell BK335.out 2).trans rfl; have hcz72_3 : w70.cell? ⟨gb335, 3, none⟩ = some (.bool false) := (blk_cell BK335.out 3).trans rfl; have hcz72_4 : w70.cell? ⟨gb335, 4, none⟩ = some (.int .i64 0) := (blk_cell BK335.out 4).trans rfl; have hcz72_5 : w70.cell? ⟨gb335, 5, none⟩ = some (.int .i64 0) := (blk_cell BK335.out 5).trans rfl; have hcz72_6 : w70.cell? ⟨gb335, 6, none⟩ = some (.int .i64 0) := (blk_cell BK335.out 6).trans rfl; have hcz72_7 : w70.cell? ⟨gb335, 7, none⟩ = some (.int .i64 0) := (blk_cell BK335.out 7).trans rfl; have hfz72_0 := blk_frozen BK335.out 0; have hfz72_1 := blk_frozen BK335.out 1; have hfz72_2 := blk_frozen BK335.out 2; have hfz72_3 := blk_frozen BK335.out 3; have hfz72_4 := blk_frozen BK335.out 4; have hfz72_5 := blk_frozen BK335.out 5; have hfz72_6 := blk_frozen BK335.out 6; have hfz72_7 := blk_frozen BK335.out 7) | ((with_reducible refine gate_callee (f := 10) rfl ?_); refine goesL_ (some 12) rfl rfl Tryd.func10 (by kernel_rfl) rfl #[.agg #[.string t327, .string t328, .int .i64 t329, .bool false, .int .i64 t331, .int .i64 t332, .int .i64 t333, .int .i64 t334], .int .i64 6, .int .i64 2] rfl am ?_; (with_reducible refine (roster_Member_Bounced.calls k t327 t328 t329 false t331 t332 t333 t334 6 2 t336 t337 t338 true t340 t341 t342 t343 _ A4.out).mono ?_); rintro e w73 ⟨rfl, hb⟩; refine ⟨_, rfl, ?_⟩; have n0_ := Aside0.mk (blk_below (g := gb318) (o := .cells #[.string t310, .string t311, .int .i64 t312, .bool t313, .int .i64 t314, .int .i64 t315, .int .i64 t316, .int .i64 t317] 29 (0, 0)) (by (with_reducible repeat (first | refine blk_drewN ?_ _ | refine blk_drew ?_ | refine blk_alloc ?_ _)); refine blk_far ?_ NB318_335.out _; (with_reducible repeat (first | refine blk_drewN ?_ _ | refine blk_drew ?_ | refine blk_alloc ?_ _)); refine blk_far ?_ NB318_335.out _; (with_reducible repeat (first | refine blk_drewN ?_ _ | refine blk_drew ?_ | refine blk_alloc ?_ _)); refine blk_far ?_ NB318_335.out _; (with_reducible repeat (first | refine blk_drewN ?_ _ | refine blk_drew ?_ | refine blk_alloc ?_ _)); refine blk_far ?_ NB318_335.out _; (with_reducible repeat (first | refine blk_drewN ?_ _ | refine blk_drew ?_ | refine blk_alloc ?_ _)); refine blk_far ?_ NB318_335.out _; (with_reducible repeat (first | refine blk_drewN ?_ _ | refine blk_drew ?_ | refine blk_alloc ?_ _)); refine blk_far ?_ NB318_335.out _; (with_reducible repeat (first | refine blk_drewN ?_ _ | refine blk_drew ?_ | refine blk_alloc ?_ _)); refine blk_far ?_ NB318_335.out _; (with_reducible repeat (first | refine blk_drewN ?_ _ | refine blk_drew ?_ | refine blk_alloc ?_ _)); refine blk_far ?_ NB318_335.out _; (with_reducible repeat (first | refine blk_drewN ?_ _ | refine blk_drew ?_ | refine blk_alloc ?_ _)); exact BK318.out) hb); have n1_ := Aside0.mk (blk_below (g := gb335) (o := .cells #[.string t327, .string t328, .int .i64 t329, .bool false, .int .i64 t331, .int .i64 t332, .int .i64 t333, .int .i64 t334] 29 (0, 0)) (by (with_reducible repeat (first | refine blk_drewN ?_ _ | refine blk_drew ?_ | refine blk_alloc ?_ _)); refine blk_put (cs := #[.string t327, .string t328, .int .i64 t329, .bool false, .int .i64 t331, .int .i64 t332, .int .i64 t333, .int .i64 0]) ?_ 7 _ rfl; (with_reducible repeat (first | refine blk_drewN ?_ _ | refine blk_drew ?_ | refine blk_alloc ?_ _)); refine blk_put (cs := #[.string t327, .string t328, .int .i64 t329, .bool false, .int .i64 t331, .int .i64 t332, .int .i64 0, .int .i64 0]) ?_ 6 _ rfl; (with_reducible repeat (first | refine blk_drewN ?_ _ | refine blk_drew ?_ | refine blk_alloc ?_ _)); refine blk_put (cs := #[.string t327, .string t328, .int .i64 t329, .bool false, .int .i64 t331, .int .i64 0, .int .i64 0, .int .i64 0]) ?_ 5 _ rfl; (with_reducible repeat (first | refine blk_drewN ?_ _ | refine blk_drew ?_ | refine blk_alloc ?_ _)); refine blk_put (cs := #[.string t327, .string t328, .int .i64 t329, .bool false, .int .i64 0, .int .i64 0, .int .i64 0, .int .i64 0]) ?_ 4 _ rfl; (with_reducible repeat (first | refine blk_drewN ?_ _ | refine blk_drew ?_ | refine blk_alloc ?_ _)); refine blk_put (cs := #[.string t327, .string t328, .int .i64 t329, .bool false, .int .i64 0, .int .i64 0, .int .i64 0, .int .i64 0]) ?_ 3 _ rfl; (with_reducible repeat (first | refine blk_drewN ?_ _ | refine blk_drew ?_ | refine blk_alloc ?_ _)); refine blk_put (cs := #[.string t327, .string t328, .int .i64 0, .bool false, .int .i64 0, .int .i64 0, .int .i64 0, .int .i64 0]) ?_ 2 _ rfl; (with_reducible repeat (first | refine blk_drewN ?_ _ | refine blk_drew ?_ | refine blk_alloc ?_ _)); refine blk_put (cs := #[.string t327, .string (⟨#[]⟩ : ByteArray), .int .i64 0, .bool false, .int .i64 0, .int .i64 0, .int .i64 0, .int .i64 0]) ?_ 1 _ rfl; (with_reducible repeat (first | refine blk_drewN ?_ _ | refine blk_drew ?_ | refine blk_alloc ?_ _)); exact blk_put (cs := #[.string (⟨#[]⟩ : ByteArray), .string (⟨#[]⟩ : ByteArray), .int .i64 0, .bool false, .int .i64 0, .int .i64 0, .int .i64 0, .int .i64 0]) bk 0 _ rfl) hb); have n2_ := Aside0.mk (below_step bwS hb); clear BK318; clear BK335; clear HB; have BK318 := n0_; have BK335 := n1_; have HB := n2_; clear n0_ n1_ n2_; (try clear hb); (try clear hb2); (try clear hk); (try clear hi)) | ((with_reducible refine gate_dst (N := 3) rfl ?_); refine box_event ?hg (N := 3) ?hd (cs := #[.string (⟨#[]⟩ : ByteArray), .string (⟨#[]⟩ : ByteArray), .int .i64 0, .bool false, .int .i64 0, .int .i64 0, .int .i64 0, .int .i64 0]) (t := 29) ?hr ?_; (case hd => rfl); (case hg => rfl); (case hr => first | (go_simp; done) | (go_simp; rfl)); intro gb344 hg w74 hbox hb; have n0_ := Aside0.mk (blk_below (g := gb318) (o := .cells #[.string t310, .string t311, .int .i64 t312, .bool t313, .int .i64 t314, .int .i64 t315, .int .i64 t316, .int .i64 t317] 29 (0, 0)) bk hb); have n1_ := Aside0.mk (blk_below (g := gb335) (o := .cells #[.string t327, .string t328, .int .i64 t329, .bool false, .int .i64 t331, .int .i64 t332, .int .i64 t333, .int .i64 t334] 29 (0, 0)) bk hb); have n2_ := Aside0.mk (below_step bwS hb); have n3_ := Aside0.mk (hbox); have n4_ := Aside0.mk ((by rw [hg]; exact (below_size bwS) : w.heap.size ≤ gb344)); have n5_ := Aside0.mk ((by rw [hg]; exact (below_size bwS) : w.heap.size ≤ gb344)); have n6_ := Aside0.mk ((by rw [hg]; exact Nat.ne_of_lt (blk_lt (g := gb318) (o := .cells #[.string t310, .string t311, .int .i64 t312, .bool t313, .int .i64 t314, .int .i64 t315, .int .i64 t316, .int .i64 t317] 29 (0, 0)) bk) : gb318 ≠ gb344)); have n7_ := Aside0.mk ((by rw [hg]; exact Nat.ne_of_gt (blk_lt (g := gb318) (o := .cells #[.string t310, .string t311, .int .i64 t312, .bool t313, .int .i64 t314, .int .i64 t315, .int .i64 t316, .int .i64 t317] 29 (0, 0)) bk) : gb344 ≠ gb318)); have n8_ := Aside0.mk ((by rw [hg]; exact Nat.ne_of_lt (blk_lt (g := gb335) (o := .cells #[.string t327, .string t328, .int .i64 t329, .bool false, .int .i64 t331, .int .i64 t332, .int .i64 t333, .int .i64 t334] 29 (0, 0)) bk) : gb335 ≠ gb344)); have n9_ := Aside0.mk ((by rw [hg]; exact Nat.ne_of_gt (blk_lt (g := gb335) (o := .cells #[.string t327, .string t328, .int .i64 t329, .bool false, .int .i64 t331, .int .i64 t332, .int .i64 t333, .int .i64 t334] 29 (0, 0)) bk) : gb344 ≠ gb335)); clear BK318; clear BK335; clear HB; have BK318 := n0_; have BK335 := n1_; have HB := n2_; have BK344 := n3_; have GW344 := n4_; have GE344 := n5_; have NB318_344 := n6_; have NB344_318 := n7_; have NB335_344 := n8_; have NB344_335 := n9_; clear n0_ n1_ n2_ n3_ n4_ n5_ n6_ n7_ n8_ n9_; clear hb hbox hg; have hnb75 := NB344_318.out; have hnc75 := NB318_344.out; have hnb76 := NB344_335.out; have hnc76 := NB335_344.out; have hcz77_0 : w74.cell? ⟨gb344, 0, none⟩ = some (.string (⟨#[]⟩ : ByteArray)) := (blk_cell BK344.out 0).trans rfl; have hcz77_1 : w74.cell? ⟨gb344, 1, none⟩ = some (.string (⟨#[]⟩ : ByteArray)) := (blk_cell BK344.out 1).trans rfl; have hcz77_2 : w74.cell? ⟨gb344, 2, none⟩ = some (.int .i64 0) := (blk_cell BK344.out 2).trans rfl; have hcz77_3 : w74.cell? ⟨gb344, 3, none⟩ = some (.bool false) := (blk_cell BK344.out 3).trans rfl; have hcz77_4 : w74.cell? ⟨gb344, 4, none⟩ = some (.int .i64 0) := (blk_cell BK344.out 4).trans rfl; have hcz77_5 : w74.cell? ⟨gb344, 5, none⟩ = some (.int .i64 0) := (blk_cell BK344.out 5).trans rfl; have hcz77_6 : w74.cell? ⟨gb344, 6, none⟩ = some (.int .i64 0) := (blk_cell BK344.out 6).trans rfl; have hcz77_7 : w74.cell? ⟨gb344, 7, none⟩ = some (.int .i64 0) := (blk_cell BK344.out 7).trans rfl; have hfz77_0 := blk_frozen BK344.out 0; have hfz77_1 := blk_frozen BK344.out 1; have hfz77_2 := blk_frozen BK344.out 2; have hfz77_3 := blk_frozen BK344.out 3; have hfz77_4 := blk_frozen BK344.out 4; have hfz77_5 := blk_frozen BK344.out 5; have hfz77_6 := blk_frozen BK344.out 6; have hfz77_7 := blk_frozen BK344.out 7) | ((with_reducible refine gate_callee (f := 8) rfl ?_); refine goesL_ (some 15) rfl rfl Tryd.func8 (by kernel_rfl) rfl #[.agg #[.string t336, .string t337, .int .i64 t338, .bool true, .int .i64 t340, .int .i64 t341, .int .i64 t342, .int .i64 t343]] rfl am ?_; (with_reducible refine (roster_Member_Row.calls (hG := by first | exact hG | exact GlobT.below hG (by first | exact HB.out | (repeat (first | (with_reducible first | exact HB.out | apply below_alloc | apply pw_below_drewN | apply below_drew1 | refine below_set ?_ GE318.out | refine below_set ?_ GE335.out | refine below_set ?_ GE344.out | refine below_set ?_ GE355.out) | exact HB.out))) | exact GlobT.drawn hG (d0)) k t336 t337 t338 true t340 t341 t342 t343 t345 _ A5.out).mono ?_); rintro e w78 ⟨rfl, hb⟩; refine ⟨_, rfl, ?_⟩; have n0_ := Aside0.mk (blk_below (g := gb318) (o := .cells #[.string t310, .string t311, .int .i64 t312, .bool t313, .int .i64 t314, .int .i64 t315, .int .i64 t316, .int .i64 t317] 29 (0, 0)) (by (with_reducible repeat (first | refine blk_drewN ?_ _ | refine blk_drew ?_ | refine blk_alloc ?_ _)); refine blk_far ?_ NB318_344.out _; (with_reducible repeat (first | refine blk_drewN ?_ _ | refine blk_drew ?_ | refine blk_alloc ?_ _)); refine blk_far ?_ NB318_344.out _; (with_reducible repeat (first | refine blk_drewN ?_ _ | refine blk_drew ?_ | refine blk_alloc ?_ _)); refine blk_far ?_ NB318_344.out _; (with_reducible repeat (first | refine blk_drewN ?_ _ | refine blk_drew ?_ | refine blk_alloc ?_ _)); refine blk_far ?_ NB318_344.out _; (with_reducible repeat (first | refine blk_drewN ?_ _ | refine blk_drew ?_ | refine blk_alloc ?_ _)); refine blk_far ?_ NB318_344.out _; (with_reducible repeat (first | refine blk_drewN ?_ _ | refine blk_drew ?_ | refine blk_alloc ?_ _)); refine blk_far ?_ NB318_344.out _; (with_reducible repeat (first | refine blk_drewN ?_ _ | refine blk_drew ?_ | refine blk_alloc ?_ _)); refine blk_far ?_ NB318_344.out _; (with_reducible repeat (first | refine blk_drewN ?_ _ | refine blk_drew ?_ | refine blk_alloc ?_ _)); refine blk_far ?_ NB318_344.out _; (with_reducible repeat (first | refine blk_drewN ?_ _ | refine blk_drew ?_ | refine blk_alloc ?_ _)); exact BK318.out) hb); have n1_ := Aside0.mk (blk_below (g := gb335) (o := .cells #[.string t327, .string t328, .int .i64 t329, .bool false, .int .i64 t331, .int .i64 t332, .int .i64 t333, .int .i64 t334] 29 (0, 0)) (by (with_reducible repeat (first | refine blk_drewN ?_ _ | refine blk_drew ?_ | refine blk_alloc ?_ _)); refine blk_far ?_ NB335_344.out _; (with_reducible repeat (first | refine blk_drewN ?_ _ | refine blk_drew ?_ | refine blk_alloc ?_ _)); refine blk_far ?_ NB335_344.out _; (with_reducible repeat (first | refine blk_drewN ?_ _ | refine blk_drew ?_ | refine blk_alloc ?_ _)); refine blk_far ?_ NB335_344.out _; (with_reducible repeat (first | refine blk_drewN ?_ _ | refine blk_drew ?_ | refine blk_alloc ?_ _)); refine blk_far ?_ NB335_344.out _; (with_reducible repeat (first | refine blk_drewN ?_ _ | refine blk_drew ?_ | refine blk_alloc ?_ _)); refine blk_far ?_ NB335_344.out _; (with_reducible repeat (first | refine blk_drewN ?_ _ | refine blk_drew ?_ | refine blk_alloc ?_ _)); refine blk_far ?_ NB335_344.out _; (with_reducible repeat (first | refine blk_drewN ?_ _ | refine blk_drew ?_ | refine blk_alloc ?_ _)); refine blk_far ?_ NB335_344.out _; (with_reducible repeat (first | refine blk_drewN ?_ _ | refine blk_drew ?_ | refine blk_alloc ?_ _)); refine blk_far ?_ NB335_344.out _; (with_reducible repeat (first | refine blk_drewN ?_ _ | refine blk_drew ?_ | refine blk_alloc ?_ _)); exact BK335.out) hb); have n2_ := Aside0.mk (blk_below (g := gb344) (o := .cells #[.string t336, .string t337, .int .i64 t338, .bool true, .int .i64 t340, .int .i64 t341, .int .i64 t342, .int .i64 t343] 29 (0, 0)) (by (with_reducible repeat (first | refine blk_drewN ?_ _ | refine blk_drew ?_ | refine blk_alloc ?_ _)); refine blk_put (cs := #[.string t336, .string t337, .int .i64 t338, .bool true, .int .i64 t340, .int .i64 t341, .int .i64 t342, .int .i64 0]) ?_ 7 _ rfl; (with_reducible repeat (first | refine blk_drewN ?_ _ | refine blk_drew ?_ | refine blk_alloc ?_ _)); refine blk_put (cs := #[.string t336, .string t337, .int .i64 t338, .bool true, .int .i64 t340, .int .i64 t341, .int .i64 0, .int .i64 0]) ?_ 6 _ rfl; (with_reducible repeat (first | refine blk_drewN ?_ _ | refine blk_drew ?_ | refine blk_alloc ?_ _)); refine blk_put (cs := #[.string t336, .string t337, .int .i64 t338, .bool true, .int .i64 t340, .int .i64 0, .int .i64 0, .int .i64 0]) ?_ 5 _ rfl; (with_reducible repeat (first | refine blk_drewN ?_ _ | refine blk_drew ?_ | refine blk_alloc ?_ _)); refine blk_put (cs := #[.string t336, .string t337, .int .i64 t338, .bool true, .int .i64 0, .int .i64 0, .int .i64 0, .int .i64 0]) ?_ 4 _ rfl; (with_reducible repeat (first | refine blk_drewN ?_ _ | refine blk_drew ?_ | refine blk_alloc ?_ _)); refine blk_put (cs := #[.string t336, .string t337, .int .i64 t338, .bool false, .int .i64 0, .int .i64 0, .int .i64 0, .int .i64 0]) ?_ 3 _ rfl; (with_reducible repeat (first | refine blk_drewN ?_ _ | refine blk_drew ?_ | refine blk_alloc ?_ _)); refine blk_put (cs := #[.string t336, .string t337, .int .i64 0, .bool false, .int .i64 0, .int .i64 0, .int .i64 0, .int .i64 0]) ?_ 2 _ rfl; (with_reducible repeat (first | refine blk_drewN ?_ _ | refine blk_drew ?_ | refine blk_alloc ?_ _)); refine blk_put (cs := #[.string t336, .string (⟨#[]⟩ : ByteArray), .int .i64 0, .bool false, .int .i64 0, .int .i64 0, .int .i64 0, .int .i64 0]) ?_ 1 _ rfl; (with_reducible repeat (first | refine blk_drewN ?_ _ | refine blk_drew ?_ | refine blk_alloc ?_ _)); exact blk_put (cs := #[.string (⟨#[]⟩ : ByteArray), .string (⟨#[]⟩ : ByteArray), .int .i64 0, .bool false, .int .i64 0, .int .i64 0, .int .i64 0, .int .i64 0]) bk 0 _ rfl) hb); have n3_ := Aside0.mk (below_step bwS hb); clear BK318; clear BK335; clear BK344; clear HB; have BK318 := n0_; have BK335 := n1_; have BK344 := n2_; have HB := n3_; clear n0_ n1_ n2_ n3_; (try clear hb); (try clear hb2); (try clear hk); (try clear hi)) | ((with_reducible refine gate_callee (f := 7) rfl ?_); refine goesL_ (some 16) rfl rfl Tryd.func7 (by kernel_rfl) rfl #[.string t345] rfl am ?_; (with_reducible refine (roster_Read.calls (hG := by first | exact hG | exact GlobT.below hG (by first | exact HB.out | (repeat (first | (with_reducible first | exact HB.out | apply below_alloc | apply pw_below_drewN | apply below_drew1 | refine below_set ?_ GE318.out | refine below_set ?_ GE335.out | refine below_set ?_ GE344.out | refine below_set ?_ GE355.out) | exact HB.out))) | exact GlobT.drawn hG (d0)) k t345 t346 t347 t348 t349 t350 t351 t352 t353 t354 _ A6.out).mono ?_); rintro e w79 ⟨rfl, hb⟩; refine ⟨_, rfl, ?_⟩; have n0_ := Aside0.mk (blk_below (g := gb318) (o := .cells #[.string t310, .string t311, .int .i64 t312, .bool t313, .int .i64 t314, .int .i64 t315, .int .i64 t316, .int .i64 t317] 29 (0, 0)) bk hb); have n1_ := Aside0.mk (blk_below (g := gb335) (o := .cells #[.string t327, .string t328, .int .i64 t329, .bool false, .int .i64 t331, .int .i64 t332, .int .i64 t333, .int .i64 t334] 29 (0, 0)) bk hb); have n2_ := Aside0.mk (blk_below (g := gb344) (o := .cells #[.string t336, .string t337, .int .i64 t338, .bool true, .int .i64 t340, .int .i64 t341, .int .i64 t342, .int .i64 t343] 29 (0, 0)) bk hb); have n3_ := Aside0.mk (below_step bwS hb); clear BK318; clear BK335; clear BK344; clear HB; have BK318 := n0_; have BK335 := n1_; have BK344 := n2_; have HB := n3_; clear n0_ n1_ n2_ n3_; (try clear hb); (try clear hb2); (try clear hk); (try clear hi)) | ((with_reducible refine gate_dst (N := 4) rfl ?_); refine box_event ?hg (N := 4) ?hd (cs := #[.string (⟨#[]⟩ : ByteArray), .string (⟨#[]⟩ : ByteArray), .int .i64 0, .bool false, .int .i64 0, .int .i64 0, .int .i64 0, .int .i64 0]) (t := 29) ?hr ?_; (case hd => rfl); (case hg => rfl); (case hr => first | (go_simp; done) | (go_simp; rfl)); intro gb355 hg w80 hbox hb; have n0_ := Aside0.mk (blk_below (g := gb318) (o := .cells #[.string t310, .string t311, .int .i64 t312, .bool t313, .int .i64 t314, .int .i64 t315, .int .i64 t316, .int .i64 t317] 29 (0, 0)) bk hb); have n1_ := Aside0.mk (blk_below (g := gb335) (o := .cells #[.string t327, .string t328, .int .i64 t329, .bool false, .int .i64 t331, .int .i64 t332, .int .i64 t333, .int .i64 t334] 29 (0, 0)) bk hb); have n2_ := Aside0.mk (blk_below (g := gb344) (o := .cells #[.string t336, .string t337, .int .i64 t338, .bool true, .int .i64 t340, .int .i64 t341, .int .i64 t342, .int .i64 t343] 29 (0, 0)) bk hb); have n3_ := Aside0.mk (below_step bwS hb); have n4_ := Aside0.mk (hbox); have n5_ := Aside0.mk ((by rw [hg]; exact (below_size bwS) : w.heap.size ≤ gb355)); have n6_ := Aside0.mk ((by rw [hg]; exact (below_size bwS) : w.heap.size ≤ gb355)); have n7_ := Aside0.mk ((by rw [hg]; exact Nat.ne_of_lt (blk_lt (g := gb318) (o := .cells #[.string t310, .string t311, .int .i64 t312, .bool t313, .int .i64 t314, .int .i64 t315, .int .i64 t316, .int .i64 t317] 29 (0, 0)) bk) : gb318 ≠ gb355)); have n8_ := Aside0.mk ((by rw [hg]; exact Nat.ne_of_gt (blk_lt (g := gb318) (o := .cells #[.string t310, .string t311, .int .i64 t312, .bool t313, .int .i64 t314, .int .i64 t315, .int .i64 t316, .int .i64 t317] 29 (0, 0)) bk) : gb355 ≠ gb318)); have n9_ := Aside0.mk ((by rw [hg]; exact Nat.ne_of_lt (blk_lt (g := gb335) (o := .cells #[.string t327, .string t328, .int .i64 t329, .bool false, .int .i64 t331, .int .i64 t332, .int .i64 t333, .int .i64 t334] 29 (0, 0)) bk) : gb335 ≠ gb355)); have n10_ := Aside0.mk ((by rw [hg]; exact Nat.ne_of_gt (blk_lt (g := gb335) (o := .cells #[.string t327, .string t328, .int .i64 t329, .bool false, .int .i64 t331, .int .i64 t332, .int .i64 t333, .int .i64 t334] 29 (0, 0)) bk) : gb355 ≠ gb335)); have n11_ := Aside0.mk ((by rw [hg]; exact Nat.ne_of_lt (blk_lt (g := gb344) (o := .cells #[.string t336, .string t337, .int .i64 t338, .bool true, .int .i64 t340, .int .i64 t341, .int .i64 t342, .int .i64 t343] 29 (0, 0)) bk) : gb344 ≠ gb355)); have n12_ := Aside0.mk ((by rw [hg]; exact Nat.ne_of_gt (blk_lt (g := gb344) (o := .cells #[.string t336, .string t337, .int .i64 t338, .bool true, .int .i64 t340, .int .i64 t341, .int .i64 t342, .int .i64 t343] 29 (0, 0)) bk) : gb355 ≠ gb344)); clear BK318; clear BK335; clear BK344; clear HB; have BK318 := n0_; have BK335 := n1_; have BK344 := n2_; have HB := n3_; have BK355 := n4_; have GW355 := n5_; have GE355 := n6_; have NB318_355 := n7_; have NB355_318 := n8_; have NB335_355 := n9_; have NB355_335 := n10_; have NB344_355 := n11_; have NB355_344 := n12_; clear n0_ n1_ n2_ n3_ n4_ n5_ n6_ n7_ n8_ n9_ n10_ n11_ n12_; clear hb hbox hg; have hnb81 := NB355_318.out; have hnc81 := NB318_355.out; have hnb82 := NB355_335.out; have hnc82 := NB335_355.out; have hnb83 := NB355_344.out; have hnc83 := NB344_355.out; have hcz84_0 : w80.cell? ⟨gb355, 0, none⟩ = some (.string (⟨#[]⟩ : ByteArray)) := (blk_cell BK355.out 0).trans rfl; have hcz84_1 : w80.cell? ⟨gb355, 1, none⟩ = some (.string (⟨#[]⟩ : ByteArray)) := (blk_cell BK355.out 1).trans rfl; have hcz84_2 : w80.cell? ⟨gb355, 2, none⟩ = some (.int .i64 0) := (blk_cell BK355.out 2).trans rfl; have hcz84_3 : w80.cell? ⟨gb355, 3, none⟩ = some (.bool false) := (blk_cell BK355.out 3).trans rfl; have hcz84_4 : w80.cell? ⟨gb355, 4, none⟩ = some (.int .i64 0) := (blk_cell BK355.out 4).trans rfl; have hcz84_5 : w80.cell? ⟨gb355, 5, none⟩ = some (.int .i64 0) := (blk_cell BK355.out 5).trans rfl; have hcz84_6 : w80.cell? ⟨gb355, 6, none⟩ = some (.int .i64 0) := (blk_cell BK355.out 6).trans rfl; have hcz84_7 : w80.cell? ⟨gb355, 7, none⟩ = some (.int .i64 0) := (blk_cell BK355.out 7).trans rfl; have hfz84_0 := blk_frozen BK355.out 0; have hfz84_1 := blk_frozen BK355.out 1; have hfz84_2 := blk_frozen BK355.out 2; have hfz84_3 := blk_frozen BK355.out 3; have hfz84_4 := blk_frozen BK355.out 4; have hfz84_5 := blk_frozen BK355.out 5; have hfz84_6 := blk_frozen BK355.out 6; have hfz84_7 := blk_frozen BK355.out 7; have hcz85_0 : w80.cell? ⟨gb318, 0, none⟩ = some (.string t310) := (blk_cell BK318.out 0).trans rfl; have hcz85_1 : w80.cell? ⟨gb318, 1, none⟩ = some (.string t311) := (blk_cell BK318.out 1).trans rfl; have hcz85_2 : w80.cell? ⟨gb318, 2, none⟩ = some (.int .i64 t312) := (blk_cell BK318.out 2).trans rfl; have hcz85_3 : w80.cell? ⟨gb318, 3, none⟩ = some (.bool t313) := (blk_cell BK318.out 3).trans rfl; have hcz85_4 : w80.cell? ⟨gb318, 4, none⟩ = some (.int .i64 t314) := (blk_cell BK318.out 4).trans rfl; have hcz85_5 : w80.cell? ⟨gb318, 5, none⟩ = some (.int .i64 t315) := (blk_cell BK318.out 5).trans rfl; have hcz85_6 : w80.cell? ⟨gb318, 6, none⟩ = some (.int .i64 t316) := (blk_cell BK318.out 6).trans rfl; have hcz85_7 : w80.cell? ⟨gb318, 7, none⟩ = some (.int .i64 t317) := (blk_cell BK318.out 7).trans rfl; have hfz85_0 := blk_frozen BK318.out 0; have hfz85_1 := blk_frozen BK318.out 1; have hfz85_2 := blk_frozen BK318.out 2; have hfz85_3 := blk_frozen BK318.out 3; have hfz85_4 := blk_frozen BK318.out 4; have hfz85_5 := blk_frozen BK318.out 5; have hfz85_6 := blk_frozen BK318.out 6; have hfz85_7 := blk_frozen BK318.out 7) | ((with_reducible refine gate_callee (f := 11) rfl ?_); refine goesL_ (some 20) rfl rfl Tryd.func11 (by kernel_rfl) rfl #[.agg #[.string t310, .string t311, .int .i64 t312, .bool t313, .int .i64 t314, .int .i64 t315, .int .i64 t316, .int .i64 t317], .int .i64 1] rfl am ?_; (with_reducible refine (roster_Member_Gets.calls t310 t311 t312 t313 t314 t315 t316 t317 1 true _ A7.out).mono ?_); rintro e w86 ⟨rfl, hb⟩; refine ⟨_, rfl, ?_⟩; have n0_ := Aside0.mk (blk_below (g := gb318) (o := .cells #[.string t310, .string t311, .int .i64 t312, .bool t313, .int .i64 t314, .int .i64 t315, .int .i64 t316, .int .i64 t317] 29 (0, 0)) (by (with_reducible repeat (first | refine blk_drewN ?_ _ | refine blk_drew ?_ | refine blk_alloc ?_ _)); refine blk_far ?_ NB318_355.out _; (with_reducible repeat (first | refine blk_drewN ?_ _ | refine blk_drew ?_ | refine blk_alloc ?_ _)); refine blk_far ?_ NB318_355.out _; (with_reducible repeat (first | refine blk_drewN ?_ _ | refine blk_drew ?_ | refine blk_alloc ?_ _)); refine blk_far ?_ NB318_355.out _; (with_reducible repeat (first | refine blk_drewN ?_ _ | refine blk_drew ?_ | refine blk_alloc ?_ _)); refine blk_far ?_ NB318_355.out _; (with_reducible repeat (first | refine blk_drewN ?_ _ | refine blk_drew ?_ | refine blk_alloc ?_ _)); refine blk_far ?_ NB318_355.out _; (with_reducible repeat (first | refine blk_drewN ?_ _ | refine blk_drew ?_ | refine blk_alloc ?_ _)); refine blk_far ?_ NB318_355.out _; (with_reducible repeat (first | refine blk_drewN ?_ _ | refine blk_drew ?_ | refine blk_alloc ?_ _)); refine blk_far ?_ NB318_355.out _; (with_reducible repeat (first | refine blk_drewN ?_ _ | refine blk_drew ?_ | refine blk_alloc ?_ _)); refine blk_far ?_ NB318_355.out _; (with_reducible repeat (first | refine blk_drewN ?_ _ | refine blk_drew ?_ | refine blk_alloc ?_ _)); exact BK318.out) hb); have n1_ := Aside0.mk (blk_below (g := gb335) (o := .cells #[.string t327, .string t328, .int .i64 t329, .bool false, .int .i64 t331, .int .i64 t332, .int .i64 t333, .int .i64 t334] 29 (0, 0)) (by (with_reducible repeat (first | refine blk_drewN ?_ _ | refine blk_drew ?_ | refine blk_alloc ?_ _)); refine blk_far ?_ NB335_355.out _; (with_reducible repeat (first | refine blk_drewN ?_ _ | refine blk_drew ?_ | refine blk_alloc ?_ _)); refine blk_far ?_ NB335_355.out _; (with_reducible repeat (first | refine blk_drewN ?_ _ | refine blk_drew ?_ | refine blk_alloc ?_ _)); refine blk_far ?_ NB335_355.out _; (with_reducible repeat (first | refine blk_drewN ?_ _ | refine blk_drew ?_ | refine blk_alloc ?_ _)); refine blk_far ?_ NB335_355.out _; (with_reducible repeat (first | refine blk_drewN ?_ _ | refine blk_drew ?_ | refine blk_alloc ?_ _)); refine blk_far ?_ NB335_355.out _; (with_reducible repeat (first | refine blk_drewN ?_ _ | refine blk_drew ?_ | refine blk_alloc ?_ _)); refine blk_far ?_ NB335_355.out _; (with_reducible repeat (first | refine blk_drewN ?_ _ | refine blk_drew ?_ | refine blk_alloc ?_ _)); refine blk_far ?_ NB335_355.out _; (with_reducible repeat (first | refine blk_drewN ?_ _ | refine blk_drew ?_ | refine blk_alloc ?_ _)); refine blk_far ?_ NB335_355.out _; (with_reducible repeat (first | refine blk_drewN ?_ _ | refine blk_drew ?_ | refine blk_alloc ?_ _)); exact BK335.out) hb); have n2_ := Aside0.mk (blk_below (g := gb344) (o := .cells #[.string t336, .string t337, .int .i64 t338, .bool true, .int .i64 t340, .int .i64 t341, .int .i64 t342, .int .i64 t343] 29 (0, 0)) (by (with_reducible repeat (first | refine blk_drewN ?_ _ | refine blk_drew ?_ | refine blk_alloc ?_ _)); refine blk_far ?_ NB344_355.out _; (with_reducible repeat (first | refine blk_drewN ?_ _ | refine blk_drew ?_ | refine blk_alloc ?_ _)); refine blk_far ?_ NB344_355.out _; (with_reducible repeat (first | refine blk_drewN ?_ _ | refine blk_drew ?_ | refine blk_alloc ?_ _)); refine blk_far ?_ NB344_355.out _; (with_reducible repeat (first | refine blk_drewN ?_ _ | refine blk_drew ?_ | refine blk_alloc ?_ _)); refine blk_far ?_ NB344_355.out _; (with_reducible repeat (first | refine blk_drewN ?_ _ | refine blk_drew ?_ | refine blk_alloc ?_ _)); refine blk_far ?_ NB344_355.out _; (with_reducible repeat (first | refine blk_drewN ?_ _ | refine blk_drew ?_ | refine blk_alloc ?_ _)); refine blk_far ?_ NB344_355.out _; (with_reducible repeat (first | refine blk_drewN ?_ _ | refine blk_drew ?_ | refine blk_alloc ?_ _)); refine blk_far ?_ NB344_355.out _; (with_reducible repeat (first | refine blk_drewN ?_ _ | refine blk_drew ?_ | refine blk_alloc ?_ _)); refine blk_far ?_ NB344_355.out _; (with_reducible repeat (first | refine blk_drewN ?_ _ | refine blk_drew ?_ | refine blk_alloc ?_ _)); exact BK344.out) hb); have n3_ := Aside0.mk (blk_below (g := gb355) (o := .cells #[.string t346, .string t347, .int .i64 t348, .bool t349, .int .i64 t350, .int .i64 t351, .int .i64 t352, .int .i64 t353] 29 (0, 0)) (by (with_reducible repeat (first | refine blk_drewN ?_ _ | refine blk_drew ?_ | refine blk_alloc ?_ _)); refine blk_put (cs := #[.string t346, .string t347, .int .i64 t348, .bool t349, .int .i64 t350, .int .i64 t351, .int .i64 t352, .int .i64 0]) ?_ 7 _ rfl; (with_reducible repeat (first | refine blk_drewN ?_ _ | refine blk_drew ?_ | refine blk_alloc ?_ _)); refine blk_put (cs := #[.string t346, .string t347, .int .i64 t348, .bool t349, .int .i64 t350, .int .i64 t351, .int .i64 0, .int .i64 0]) ?_ 6 _ rfl; (with_reducible repeat (first | refine blk_drewN ?_ _ | refine blk_drew ?_ | refine blk_alloc ?_ _)); refine blk_put (cs := #[.string t346, .string t347, .int .i64 t348, .bool t349, .int .i64 t350, .int .i64 0, .int .i64 0, .int .i64 0]) ?_ 5 _ rfl; (with_reducible repeat (first | refine blk_drewN ?_ _ | refine blk_drew ?_ | refine blk_alloc ?_ _)); refine blk_put (cs := #[.string t346, .string t347, .int .i64 t348, .bool t349, .int .i64 0, .int .i64 0, .int .i64 0, .int .i64 0]) ?_ 4 _ rfl; (with_reducible repeat (first | refine blk_drewN ?_ _ | refine blk_drew ?_ | refine blk_alloc ?_ _)); refine blk_put (cs := #[.string t346, .string t347, .int .i64 t348, .bool false, .int .i64 0, .int .i64 0, .int .i64 0, .int .i64 0]) ?_ 3 _ rfl; (with_reducible repeat (first | refine blk_drewN ?_ _ | refine blk_drew ?_ | refine blk_alloc ?_ _)); refine blk_put (cs := #[.string t346, .string t347, .int .i64 0, .bool false, .int .i64 0, .int .i64 0, .int .i64 0, .int .i64 0]) ?_ 2 _ rfl; (with_reducible repeat (first | refine blk_drewN ?_ _ | refine blk_drew ?_ | refine blk_alloc ?_ _)); refine blk_put (cs := #[.string t346, .string (⟨#[]⟩ : ByteArray), .int .i64 0, .bool false, .int .i64 0, .int .i64 0, .int .i64 0, .int .i64 0]) ?_ 1 _ rfl; (with_reducible repeat (first | refine blk_drewN ?_ _ | refine blk_drew ?_ | refine blk_alloc ?_ _)); exact blk_put (cs := #[.string (⟨#[]⟩ : ByteArray), .string (⟨#[]⟩ : ByteArray), .int .i64 0, .bool false, .int .i64 0, .int .i64 0, .int .i64 0, .int .i64 0]) bk 0 _ rfl) hb); have n4_ := Aside0.mk (below_step bwS hb); clear BK318; clear BK335; clear BK344; clear BK355; clear HB; have BK318 := n0_; have BK335 := n1_; have BK344 := n2_; have BK355 := n3_; have HB := n4_; clear n0_ n1_ n2_ n3_ n4_; (try clear hb); (try clear hb2); (try clear hk); (try clear hi); have hcz87_0 : w86.cell? ⟨gb318, 0, none⟩ = some (.string t310) := (blk_cell BK318.out 0).trans rfl; have hcz87_1 : w86.cell? ⟨gb318, 1, none⟩ = some (.string t311) := (blk_cell BK318.out 1).trans rfl; have hcz87_2 : w86.cell? ⟨gb318, 2, none⟩ = some (.int .i64 t312) := (blk_cell BK318.out 2).trans rfl; have hcz87_3 : w86.cell? ⟨gb318, 3, none⟩ = some (.bool t313) := (blk_cell BK318.out 3).trans rfl; have hcz87_4 : w86.cell? ⟨gb318, 4, none⟩ = some (.int .i64 t314) := (blk_cell BK318.out 4).trans rfl; have hcz87_5 : w86.cell? ⟨gb318, 5, none⟩ = some (.int .i64 t315) := (blk_cell BK318.out 5).trans rfl; have hcz87_6 : w86.cell? ⟨gb318, 6, none⟩ = some (.int .i64 t316) := (blk_cell BK318.out 6).trans rfl; have hcz87_7 : w86.cell? ⟨gb318, 7, none⟩ = some (.int .i64 t317) := (blk_cell BK318.out 7).trans rfl; have hfz87_0 := blk_frozen BK318.out 0; have hfz87_1 := blk_frozen BK318.out 1; have hfz87_2 := blk_frozen BK318.out 2; have hfz87_3 := blk_frozen BK318.out 3; have hfz87_4 := blk_frozen BK318.out 4; have hfz87_5 := blk_frozen BK318.out 5; have hfz87_6 := blk_frozen BK318.out 6; have hfz87_7 := blk_frozen BK318.out 7) | (go_at_call 11; (with_reducible refine (roster_Member_Gets.calls t310 t311 t312 t313 t314 t315 t316 t317 2 false _ A9.out).mono ?_); rintro e w88 ⟨rfl, hb⟩; have n0_ := Aside0.mk (blk_below (g := gb318) (o := .cells #[.string t310, .string t311, .int .i64 t312, .bool t313, .int .i64 t314, .int .i64 t315, .int .i64 t316, .int .i64 t317] 29 (0, 0)) bk hb); have n1_ := Aside0.mk (blk_below (g := gb335) (o := .cells #[.string t327, .string t328, .int .i64 t329, .bool false, .int .i64 t331, .int .i64 t332, .int .i64 t333, .int .i64 t334] 29 (0, 0)) bk hb); have n2_ := Aside0.mk (blk_below (g := gb344) (o := .cells #[.string t336, .string t337, .int .i64 t338, .bool true, .int .i64 t340, .int .i64 t341, .int .i64 t342, .int .i64 t343] 29 (0, 0)) bk hb); have n3_ := Aside0.mk (blk_below (g := gb355) (o := .cells #[.string t346, .string t347, .int .i64 t348, .bool t349, .int .i64 t350, .int .i64 t351, .int .i64 t352, .int .i64 t353] 29 (0, 0)) bk hb); have n4_ := Aside0.mk (below_step bwS hb); clear BK318; clear BK335; clear BK344; clear BK355; clear HB; have BK318 := n0_; have BK335 := n1_; have BK344 := n2_; have BK355 := n3_; have HB := n4_; clear n0_ n1_ n2_ n3_ n4_; (try clear hb); (try clear hb2); (try clear hk); (try clear hi); have hcz89_0 : w88.cell? ⟨gb335, 0, none⟩ = some (.string t327) := (blk_cell BK335.out 0).trans rfl; have hcz89_1 : w88.cell? ⟨gb335, 1, none⟩ = some (.string t328) := (blk_cell BK335.out 1).trans rfl; have hcz89_2 : w88.cell? ⟨gb335, 2, none⟩ = some (.int .i64 t329) := (blk_cell BK335.out 2).trans rfl; have hcz89_3 : w88.cell? ⟨gb335, 3, none⟩ = some (.bool false) := (blk_cell BK335.out 3).trans rfl; have hcz89_4 : w88.cell? ⟨gb335, 4, none⟩ = some (.int .i64 t331) := (blk_cell BK335.out 4).trans rfl; have hcz89_5 : w88.cell? ⟨gb335, 5, none⟩ = some (.int .i64 t332) := (blk_cell BK335.out 5).trans rfl; have hcz89_6 : w88.cell? ⟨gb335, 6, none⟩ = some (.int .i64 t333) := (blk_cell BK335.out 6).trans rfl; have hcz89_7 : w88.cell? ⟨gb335, 7, none⟩ = some (.int .i64 t334) := (blk_cell BK335.out 7).trans rfl; have hfz89_0 := blk_frozen BK335.out 0; have hfz89_1 := blk_frozen BK335.out 1; have hfz89_2 := blk_frozen BK335.out 2; have hfz89_3 := blk_frozen BK335.out 3; have hfz89_4 := blk_frozen BK335.out 4; have hfz89_5 := blk_frozen BK335.out 5; have hfz89_6 := blk_frozen BK335.out 6; have hfz89_7 := blk_frozen BK335.out 7; have hcz90_0 : w88.cell? ⟨gb344, 0, none⟩ = some (.string t336) := (blk_cell BK344.out 0).trans rfl; have hcz90_1 : w88.cell? ⟨gb344, 1, none⟩ = some (.string t337) := (blk_cell BK344.out 1).trans rfl; have hcz90_2 : w88.cell? ⟨gb344, 2, none⟩ = some (.int .i64 t338) := (blk_cell BK344.out 2).trans rfl; have hcz90_3 : w88.cell? ⟨gb344, 3, none⟩ = some (.bool true) := (blk_cell BK344.out 3).trans rfl; have hcz90_4 : w88.cell? ⟨gb344, 4, none⟩ = some (.int .i64 t340) := (blk_cell BK344.out 4).trans rfl; have hcz90_5 : w88.cell? ⟨gb344, 5, none⟩ = some (.int .i64 t341) := (blk_cell BK344.out 5).trans rfl; have hcz90_6 : w88.cell? ⟨gb344, 6, none⟩ = some (.int .i64 t342) := (blk_cell BK344.out 6).trans rfl; have hcz90_7 : w88.cell? ⟨gb344, 7, none⟩ = some (.int .i64 t343) := (blk_cell BK344.out 7).trans rfl; have hfz90_0 := blk_frozen BK344.out 0; have hfz90_1 := blk_frozen BK344.out 1; have hfz90_2 := blk_frozen BK344.out 2; have hfz90_3 := blk_frozen BK344.out 3; have hfz90_4 := blk_frozen BK344.out 4; have hfz90_5 := blk_frozen BK344.out 5; have hfz90_6 := blk_frozen BK344.out 6; have hfz90_7 := blk_frozen BK344.out 7; have hcz91_0 : w88.cell? ⟨gb355, 0, none⟩ = some (.string t346) := (blk_cell BK355.out 0).trans rfl; have hcz91_1 : w88.cell? ⟨gb355, 1, none⟩ = some (.string t347) := (blk_cell BK355.out 1).trans rfl; have hcz91_2 : w88.cell? ⟨gb355, 2, none⟩ = some (.int .i64 t348) := (blk_cell BK355.out 2).trans rfl; have hcz91_3 : w88.cell? ⟨gb355, 3, none⟩ = some (.bool t349) := (blk_cell BK355.out 3).trans rfl; have hcz91_4 : w88.cell? ⟨gb355, 4, none⟩ = some (.int .i64 t350) := (blk_cell BK355.out 4).trans rfl; have hcz91_5 : w88.cell? ⟨gb355, 5, none⟩ = some (.int .i64 t351) := (blk_cell BK355.out 5).trans rfl; have hcz91_6 : w88.cell? ⟨gb355, 6, none⟩ = some (.int .i64 t352) := (blk_cell BK355.out 6).trans rfl; have hcz91_7 : w88.cell? ⟨gb355, 7, none⟩ = some (.int .i64 t353) := (blk_cell BK355.out 7).trans rfl; have hfz91_0 := blk_frozen BK355.out 0; have hfz91_1 := blk_frozen BK355.out 1; have hfz91_2 := blk_frozen BK355.out 2; have hfz91_3 := blk_frozen BK355.out 3; have hfz91_4 := blk_frozen BK355.out 4; have hfz91_5 := blk_frozen BK355.out 5; have hfz91_6 := blk_frozen BK355.out 6; have hfz91_7 := blk_frozen BK355.out 7))
        go_ret
        exact ⟨ew, bwS⟩
       ·rw [if_neg c64] at H; have c64b0 : (t354 == 0) = false := beq_eq_false_iff_ne.mpr c64; have c64b1 : (t354 != 0) = true := bne_iff_ne.mpr c64; obtain rfl := Option.some.inj H; exact absurd HT.out (by decide)
      ·replace c63 := Bool.eq_false_iff.mpr c63; subst c63; have H1 : (some false) = some r := by rw [if_neg (show ¬ (false = true) by decide)] at H; exact H
       clear H; have H := H1; clear H1; obtain rfl := Option.some.inj H; exact absurd HT.out (by decide)
     ·rw [if_neg c62] at H; have c62b0 : (t340 == 2) = false := beq_eq_false_iff_ne.mpr c62; have c62b1 : (t340 != 2) = true := bne_iff_ne.mpr c62; obtain rfl := Option.some.inj H; exact absurd HT.out (by decide)
   ·rw [if_neg c35] at H; have c35b0 : (t331 == 1) = false := beq_eq_false_iff_ne.mpr c35; have c35b1 : (t331 != 1) = true := bne_iff_ne.mpr c35; obtain rfl := Option.some.inj H; exact absurd HT.out (by decide)
 ·replace c8 := Bool.eq_false_iff.mpr c8; subst c8; have H1 : (some false) = some r := by rw [if_neg (show ¬ (false = true) by decide)] at H; exact H
  clear H; have H := H1; clear H1; obtain rfl := Option.some.inj H; exact absurd HT.out (by decide)
set_option maxRecDepth 100000 in
theorem bulletinlaw33_works.at_ : bulletinlaw33_works.f 100 = some true := by decide +kernel
theorem bulletinlaw33_works.yes (k : Nat) (r : Bool) (h : bulletinlaw33_works.f k = some r) : r = true := by
 have up : ∀ (d a : Nat) (x : Bool), bulletinlaw33_works.f a = some x → bulletinlaw33_works.f (a + d) = some x := fun d => by
  induction d with
  | zero => intro a x h; exact h
  | succ d ih => intro a x h; exact bulletinlaw33_works.mono (a + d) x (ih a x h)
 have h1 := up 100 k r h; have h2 := up k 100 true bulletinlaw33_works.at_; rw [Nat.add_comm] at h1; rw [h1] at h2; exact Option.some.inj h2
theorem bulletinlaw33_works.calls (k : Nat) (r : Bool) (w : World) (hG : GlobT w) (h : bulletinlaw33_works.f k = some r) :
  Calls Tryd.prog 5 #[] w fun e w' => e = .returned (.bool r) ∧ Below w.heap.size w w' :=
 bulletinlaw33_works.callsT k r w hG h (bulletinlaw33_works.yes k r h)
end Go.Proofs.YtnnlhpmkfijppaaDoor.Fn
namespace Go.Proofs.YtnnlhpmkfijppaaDoor.Fn
open Go.RowKit Go.Proofs.YtnnlhpmkfijppaaDoorW.PrintWords Go.Proofs.YtnnlhpmkfijppaaDoorW.PrintLast Go.Proofs.YtnnlhpmkfijppaaDoorW.PrintMore
attribute [local go_sem] max2_int min2_int max_two min_two max_three min_three max_four min_four
set_option linter.unusedVariables false
set_option linter.unusedSimpArgs false

attribute [local go_sem high] eqA29
mutual
def bulletinlaw33_RosterBack.j0 : Nat → ByteArray → Bool → ByteArray → ByteArray → Int → Bool → Int → Int → Int → Int → Option (Bool)
 | 0, _, _, _, _, _, _, _, _, _, _ => none
 | k + 1, x1, x28, x365000, x365001, x365002, x365003, x365004, x365005, x365006, x365007 => if x28 = true then (some true) else ((bulletinlaw33_To.f x365000 x365001 x365002 x365003 x365004 x365005 x365006 x365007).bind fun bt366 => ((roster_Member_Row.f k bt366.1 bt366.2.1 bt366.2.2.1 bt366.2.2.2.1 bt366.2.2.2.2.1 bt366.2.2.2.2.2.1 bt366.2.2.2.2.2.2.1 bt366.2.2.2.2.2.2.2).bind fun t375 => ((roster_Read.f k t375).bind fun bt376 => ((roster_Member_Sound.f k bt366.1 bt366.2.1 bt366.2.2.1 bt366.2.2.2.1 bt366.2.2.2.2.1 bt366.2.2.2.2.2.1 bt366.2.2.2.2.2.2.1 bt366.2.2.2.2.2.2.2).bind fun t386 => (if t386 = true then (if bt376.2.2.2.2.2.2.2.2 = 0 then (bulletinlaw33_RosterBack.j1 k x1 ((!(bt376.1.toList == bt366.1.toList) || (!(bt376.2.1.toList == bt366.2.1.toList))) || (!(bt376.2.2.1 == bt366.2.2.1) || (!(bt376.2.2.2.1 == bt366.2.2.2.1) || (!(bt376.2.2.2.2.1 == bt366.2.2.2.2.1) || (!(bt376.2.2.2.2.2.1 == bt366.2.2.2.2.2.1) || (!(bt376.2.2.2.2.2.2.1 == bt366.2.2.2.2.2.2.1) || (!(bt376.2.2.2.2.2.2.2.1 == bt366.2.2.2.2.2.2.2))))))))) else (bulletinlaw33_RosterBack.j1 k x1 true)) else (bulletinlaw33_RosterBack.j1 k x1 false))))))
def bulletinlaw33_RosterBack.j1 : Nat → ByteArray → Bool → Option (Bool)
 | 0, _, _ => none
 | k + 1, x1, x47 => if x47 = true then (some false) else ((roster_Read.f k x1).bind fun bt387 => (if bt387.2.2.2.2.2.2.2.2 = 0 then ((roster_Member_Sound.f k bt387.1 bt387.2.1 bt387.2.2.1 bt387.2.2.2.1 bt387.2.2.2.2.1 bt387.2.2.2.2.2.1 bt387.2.2.2.2.2.2.1 bt387.2.2.2.2.2.2.2.1).bind fun t397 => (if t397 = true then ((roster_Member_Row.f k bt387.1 bt387.2.1 bt387.2.2.1 bt387.2.2.2.1 bt387.2.2.2.2.1 bt387.2.2.2.2.2.1 bt387.2.2.2.2.2.2.1 bt387.2.2.2.2.2.2.2.1).bind fun t398 => (some (t398.toList == x1.toList))) else (some false))) else (if ((bt387.1.toList == ([] : List UInt8) && (bt387.2.1.toList == ([] : List UInt8))) && (bt387.2.2.1 == 0 && (!bt387.2.2.2.1 && (bt387.2.2.2.2.1 == 0 && (bt387.2.2.2.2.2.1 == 0 && (bt387.2.2.2.2.2.2.1 == 0 && (bt387.2.2.2.2.2.2.2.1 == 0))))))) = true then (some true) else (some false))))
end
def bulletinlaw33_RosterBack.f (k : Nat) (a0_0 : ByteArray) (a0_1 : ByteArray) (a0_2 : Int) (a0_3 : Bool) (a0_4 : Int) (a0_5 : Int) (a0_6 : Int) (a0_7 : Int) (a1 : ByteArray) : Option (Bool) := (bulletinlaw33_works.f k).bind fun t365 => (if t365 = true then (if (a0_0.size : Int) > 300 then (bulletinlaw33_RosterBack.j0 k a1 true a0_0 a0_1 a0_2 a0_3 a0_4 a0_5 a0_6 a0_7) else (if (a0_1.size : Int) > 300 then (bulletinlaw33_RosterBack.j0 k a1 true a0_0 a0_1 a0_2 a0_3 a0_4 a0_5 a0_6 a0_7) else (bulletinlaw33_RosterBack.j0 k a1 (decide ((a1.size : Int) > 1000)) a0_0 a0_1 a0_2 a0_3 a0_4 a0_5 a0_6 a0_7))) else (some false))
set_option maxHeartbeats 8000000 in
set_option maxRecDepth 100000 in
theorem bulletinlaw33_RosterBack.calls (k : Nat) (a0_0 : ByteArray) (a0_1 : ByteArray) (a0_2 : Int) (a0_3 : Bool) (a0_4 : Int) (a0_5 : Int) (a0_6 : Int) (a0_7 : Int) (a1 : ByteArray) (r : Bool) (w : World) (hG : GlobT w) (h : bulletinlaw33_RosterBack.f k a0_0 a0_1 a0_2 a0_3 a0_4 a0_5 a0_6 a0_7 a1 = some r) (hT : r = true) :
  Calls Tryd.prog 3 #[.agg #[.string a0_0, .string a0_1, .int .i64 a0_2, .bool a0_3, .int .i64 a0_4, .int .i64 a0_5, .int .i64 a0_6, .int .i64 a0_7], .string a1] w fun e w' => e = .returned (.bool r) ∧ Below w.heap.size w w' := by
 have HT := Aside0.mk hT; clear hT; have hu25 := Tryd.underlying25; have hu29 := Tryd.underlying29; have HB := Aside0.mk (Below.refl w.heap.size w); have H : ((bulletinlaw33_works.f k).bind fun t365 => (if t365 = true then (if (a0_0.size : Int) > 300 then (bulletinlaw33_RosterBack.j0 k a1 true a0_0 a0_1 a0_2 a0_3 a0_4 a0_5 a0_6 a0_7) else (if (a0_1.size : Int) > 300 then (bulletinlaw33_RosterBack.j0 k a1 true a0_0 a0_1 a0_2 a0_3 a0_4 a0_5 a0_6 a0_7) else (bulletinlaw33_RosterBack.j0 k a1 (decide ((a1.size : Int) > 1000)) a0_0 a0_1 a0_2 a0_3 a0_4 a0_5 a0_6 a0_7))) else (some false))) = some r := h; clear h; replace H := Option.bind_eq_some_iff.mp H; obtain ⟨t365, A30, H⟩ := H; replace H : (if t365 = true then (if (a0_0.size : Int) > 300 then (bulletinlaw33_RosterBack.j0 k a1 true a0_0 a0_1 a0_2 a0_3 a0_4 a0_5 a0_6 a0_7) else (if (a0_1.size : Int) > 300 then (bulletinlaw33_RosterBack.j0 k a1 true a0_0 a0_1 a0_2 a0_3 a0_4 a0_5 a0_6 a0_7) else (bulletinlaw33_RosterBack.j0 k a1 (decide ((a1.size : Int) > 1000)) a0_0 a0_1 a0_2 a0_3 a0_4 a0_5 a0_6 a0_7))) else (some false)) = some r := H; have A3 := Aside0.mk A30; clear A30
 by_cases c4 : t365 = true
 ·subst c4; have H1 : (if (a0_0.size : Int) > 300 then (bulletinlaw33_RosterBack.j0 k a1 true a0_0 a0_1 a0_2 a0_3 a0_4 a0_5 a0_6 a0_7) else (if (a0_1.size : Int) > 300 then (bulletinlaw33_RosterBack.j0 k a1 true a0_0 a0_1 a0_2 a0_3 a0_4 a0_5 a0_6 a0_7) else (bulletinlaw33_RosterBack.j0 k a1 (decide ((a1.size : Int) > 1000)) a0_0 a0_1 a0_2 a0_3 a0_4 a0_5 a0_6 a0_7))) = some r := by rw [if_pos rfl] at H; exact H
  clear H; have H := H1; clear H1; have HC5 := Aside0.mk H; clear H
  go_enter Tryd.func3, Tryd.ntmps3
  go_upto_region 3 with (first | ((with_reducible refine gate_dst (N := 2) rfl ?_); (try (refine gate_guard (by rfl) ?_; dsimp only)); refine box_event ?hg (N := 2) ?hd (cs := #[.string a0_0, .string a0_1, .int .i64 a0_2, .bool a0_3, .int .i64 a0_4, .int .i64 a0_5, .int .i64 a0_6, .int .i64 a0_7]) (t := 25) ?hr ?_; (case hd => rfl); (case hg => rfl); (case hr => first | (go_simp; done) | (go_simp; rfl)); intro gb364 hg w6 hbox hb; have n0_ := Aside0.mk (below_step bw hb); have n1_ := Aside0.mk (hbox); have n2_ := Aside0.mk ((by rw [hg]; exact (below_size bw) : w.heap.size ≤ gb364)); have n3_ := Aside0.mk ((by rw [hg]; exact (below_size bw) : w.heap.size ≤ gb364)); clear HB; have HB := n0_; have BK364 := n1_; have GW364 := n2_; have GE364 := n3_; clear n0_ n1_ n2_ n3_; clear hb hbox hg) | ((with_reducible refine gate_callee (f := 5) rfl ?_); refine goesL_ (some 10) rfl rfl Tryd.func5 (by kernel_rfl) rfl #[] rfl am ?_; (with_reducible refine (bulletinlaw33_works.calls (hG := by first | exact hG | exact GlobT.below hG (by first | exact HB.out | (repeat (first | (with_reducible first | exact HB.out | apply below_alloc | apply pw_below_drewN | apply below_drew1 | refine below_set ?_ GE364.out | refine below_set ?_ GE374.out | refine below_set ?_ GE385.out | refine below_set ?_ GE396.out) | exact HB.out))) | exact GlobT.drawn hG (d0)) k  true _ A3.out).mono ?_); rintro e w7 ⟨rfl, hb⟩; refine ⟨_, rfl, ?_⟩; have n0_ := Aside0.mk (blk_below (g := gb364) (o := .cells #[.string a0_0, .string a0_1, .int .i64 a0_2, .bool a0_3, .int .i64 a0_4, .int .i64 a0_5, .int .i64 a0_6, .int .i64 a0_7] 25 (0, 0)) bk hb); have n1_ := Aside0.mk (below_step bwS hb); clear BK364; clear HB; have BK364 := n0_; have HB := n1_; clear n0_ n1_; (try clear hb); (try clear hb2); (try clear hk); (try clear hi)))
  (try simp only [Act.put, List.setIfInBounds_toArray, List.set_cons_zero, List.set_cons_succ])
  go_cut [28] (fun v28 wc => ∃ (kq : Nat) (x28_4 : Bool), v28 = .bool x28_4 ∧ Aside0 (bulletinlaw33_RosterBack.j0 kq a1 x28_4 a0_0 a0_1 a0_2 a0_3 a0_4 a0_5 a0_6 a0_7 = some r) ∧ Aside0 (kq ≤ k) ∧ Aside0 (wc.heap[gb364]? = some (.cells #[.string a0_0, .string a0_1, .int .i64 a0_2, .bool a0_3, .int .i64 a0_4, .int .i64 a0_5, .int .i64 a0_6, .int .i64 a0_7] 25 (0, 0))) ∧ Aside0 (Below w.heap.size w wc))
  case first =>
   have H := HC5.out; clear HC5
   by_cases c8 : (a0_0.size : Int) > 300
   ·rw [if_pos c8] at H; have c8b0 : decide (300 < (a0_0.size : Int)) = true := decide_eq_true c8; have c8b1 : decide (300 < a0_0.size) = true := decide_eq_true (by omega); clear c8
    (first | rw [c8b0] | (simp only [i64_w, i32_w]; rw [c8b0]) | skip)
    have H' := Aside0.mk H; clear H; have hcz9_0 : w7.cell? ⟨gb364, 0, none⟩ = some (.string a0_0) := (blk_cell BK364.out 0).trans rfl; have hcz9_1 : w7.cell? ⟨gb364, 1, none⟩ = some (.string a0_1) := (blk_cell BK364.out 1).trans rfl; have hcz9_2 : w7.cell? ⟨gb364, 2, none⟩ = some (.int .i64 a0_2) := (blk_cell BK364.out 2).trans rfl; have hcz9_3 : w7.cell? ⟨gb364, 3, none⟩ = some (.bool a0_3) := (blk_cell BK364.out 3).trans rfl; have hcz9_4 : w7.cell? ⟨gb364, 4, none⟩ = some (.int .i64 a0_4) := (blk_cell BK364.out 4).trans rfl; have hcz9_5 : w7.cell? ⟨gb364, 5, none⟩ = some (.int .i64 a0_5) := (blk_cell BK364.out 5).trans rfl; have hcz9_6 : w7.cell? ⟨gb364, 6, none⟩ = some (.int .i64 a0_6) := (blk_cell BK364.out 6).trans rfl; have hcz9_7 : w7.cell? ⟨gb364, 7, none⟩ = some (.int .i64 a0_7) := (blk_cell BK364.out 7).trans rfl; have hfz9_0 := blk_frozen BK364.out 0; have hfz9_1 := blk_frozen BK364.out 1; have hfz9_2 := blk_frozen BK364.out 2; have hfz9_3 := blk_frozen BK364.out 3; have hfz9_4 := blk_frozen BK364.out 4; have hfz9_5 := blk_frozen BK364.out 5; have hfz9_6 := blk_frozen BK364.out 6; have hfz9_7 := blk_frozen BK364.out 7
    go_wp2
    go_meet
    case rel => exact ⟨_, (true), cl, H', ⟨by first | omega | exact Nat.le_refl _⟩, ⟨bk⟩, ⟨bwS⟩⟩
   ·rw [if_neg c8] at H; have c8b0 : decide (300 < (a0_0.size : Int)) = false := decide_eq_false c8; have c8b1 : decide (300 < a0_0.size) = false := decide_eq_false (by omega); clear c8
    (first | rw [c8b0] | (simp only [i64_w, i32_w]; rw [c8b0]) | skip)
    by_cases c10 : (a0_1.size : Int) > 300
    ·rw [if_pos c10] at H; have c10b0 : decide (300 < (a0_1.size : Int)) = true := decide_eq_true c10; have c10b1 : decide (300 < a0_1.size) = true := decide_eq_true (by omega); clear c10; have H' := Aside0.mk H; clear H; have hcz11_0 : w7.cell? ⟨gb364, 0, none⟩ = some (.string a0_0) := (blk_cell BK364.out 0).trans rfl; have hcz11_1 : w7.cell? ⟨gb364, 1, none⟩ = some (.string a0_1) := (blk_cell BK364.out 1).trans rfl; have hcz11_2 : w7.cell? ⟨gb364, 2, none⟩ = some (.int .i64 a0_2) := (blk_cell BK364.out 2).trans rfl; have hcz11_3 : w7.cell? ⟨gb364, 3, none⟩ = some (.bool a0_3) := (blk_cell BK364.out 3).trans rfl; have hcz11_4 : w7.cell? ⟨gb364, 4, none⟩ = some (.int .i64 a0_4) := (blk_cell BK364.out 4).trans rfl; have hcz11_5 : w7.cell? ⟨gb364, 5, none⟩ = some (.int .i64 a0_5) := (blk_cell BK364.out 5).trans rfl; have hcz11_6 : w7.cell? ⟨gb364, 6, none⟩ = some (.int .i64 a0_6) := (blk_cell BK364.out 6).trans rfl; have hcz11_7 : w7.cell? ⟨gb364, 7, none⟩ = some (.int .i64 a0_7) := (blk_cell BK364.out 7).trans rfl; have hfz11_0 := blk_frozen BK364.out 0; have hfz11_1 := blk_frozen BK364.out 1; have hfz11_2 := blk_frozen BK364.out 2; have hfz11_3 := blk_frozen BK364.out 3; have hfz11_4 := blk_frozen BK364.out 4; have hfz11_5 := blk_frozen BK364.out 5; have hfz11_6 := blk_frozen BK364.out 6; have hfz11_7 := blk_frozen BK364.out 7
     go_wp2
     go_meet
     case rel => exact ⟨_, (true), cl, H', ⟨by first | omega | exact Nat.le_refl _⟩, ⟨bk⟩, ⟨bwS⟩⟩
    ·rw [if_neg c10] at H; have c10b0 : decide (300 < (a0_1.size : Int)) = false := decide_eq_false c10; have c10b1 : decide (300 < a0_1.size) = false := decide_eq_false (by omega); clear c10; have H' := Aside0.mk H; clear H; have hcz12_0 : w7.cell? ⟨gb364, 0, none⟩ = some (.string a0_0) := (blk_cell BK364.out 0).trans rfl; have hcz12_1 : w7.cell? ⟨gb364, 1, none⟩ = some (.string a0_1) := (blk_cell BK364.out 1).trans rfl; have hcz12_2 : w7.cell? ⟨gb364, 2, none⟩ = some (.int .i64 a0_2) := (blk_cell BK364.out 2).trans rfl; have hcz12_3 : w7.cell? ⟨gb364, 3, none⟩ = some (.bool a0_3) := (blk_cell BK364.out 3).trans rfl; have hcz12_4 : w7.cell? ⟨gb364, 4, none⟩ = some (.int .i64 a0_4) := (blk_cell BK364.out 4).trans rfl; have hcz12_5 : w7.cell? ⟨gb364, 5, none⟩ = some (.int .i64 a0_5) := (blk_cell BK364.out 5).trans rfl; have hcz12_6 : w7.cell? ⟨gb364, 6, none⟩ = some (.int .i64 a0_6) := (blk_cell BK364.out 6).trans rfl; have hcz12_7 : w7.cell? ⟨gb364, 7, none⟩ = some (.int .i64 a0_7) := (blk_cell BK364.out 7).trans rfl; have hfz12_0 := blk_frozen BK364.out 0; have hfz12_1 := blk_frozen BK364.out 1; have hfz12_2 := blk_frozen BK364.out 2; have hfz12_3 := blk_frozen BK364.out 3; have hfz12_4 := blk_frozen BK364.out 4; have hfz12_5 := blk_frozen BK364.out 5; have hfz12_6 := blk_frozen BK364.out 6; have hfz12_7 := blk_frozen BK364.out 7
     go_wp2
     go_meet
     case rel => exact ⟨_, (decide ((a1.size : Int) > 1000)), cl, H', ⟨by first | omega | exact Nat.le_refl _⟩, ⟨bk⟩, ⟨bwS⟩⟩
  case rest =>
   clear HC5
   try clear c1
   try clear p2
   try clear c3
   try clear c4
   try clear c5
   try clear c8
   try clear c8b0
   try clear c8b1
   try clear c10
   try clear c10b0
   try clear c10b1
   try clear hcz11_0
   try clear hcz11_1
   try clear hcz11_2
   try clear hcz11_3
   try clear hcz11_4
   try clear hcz11_5
   try clear hcz11_6
   try clear hcz11_7
   try clear hcz12_0
   try clear hcz12_1
   try clear hcz12_2
   try clear hcz12_3
   try clear hcz12_4
   try clear hcz12_5
   try clear hcz12_6
   try clear hcz12_7
   try clear hcz9_0
   try clear hcz9_1
   try clear hcz9_2
   try clear hcz9_3
   try clear hcz9_4
   try clear hcz9_5
   try clear hcz9_6
   try clear hcz9_7
   try clear hfz11_0
   try clear hfz11_1
   try clear hfz11_2
   try clear hfz11_3
   try clear hfz11_4
   try clear hfz11_5
   try clear hfz11_6
   try clear hfz11_7
   try clear hfz12_0
   try clear hfz12_1
   try clear hfz12_2
   try clear hfz12_3
   try clear hfz12_4
   try clear hfz12_5
   try clear hfz12_6
   try clear hfz12_7
   try clear hfz9_0
   try clear hfz9_1
   try clear hfz9_2
   try clear hfz9_3
   try clear hfz9_4
   try clear hfz9_5
   try clear hfz9_6
   try clear hfz9_7
   obtain ⟨kq, x28_4, rfl, HA, HJ4, BK364, HB⟩ := hcut; cases kq with
   | zero => exact absurd HA.out (by simp [bulletinlaw33_RosterBack.j0])
   | succ kj4 =>
    have H := HA.out; clear HA; simp only [bulletinlaw33_RosterBack.j0] at H
    by_cases c13 : x28_4 = true
    ·subst c13; have H1 : (some true) = some r := by rw [if_pos rfl] at H; exact H
     clear H; have H := H1; clear H1; obtain rfl := Option.some.inj H
     go_wp2
     go_ret
     exact ⟨ew, bwS⟩
    ·replace c13 := Bool.eq_false_iff.mpr c13; subst c13; have H1 : ((bulletinlaw33_To.f a0_0 a0_1 a0_2 a0_3 a0_4 a0_5 a0_6 a0_7).bind fun bt366 => ((roster_Member_Row.f kj4 bt366.1 bt366.2.1 bt366.2.2.1 bt366.2.2.2.1 bt366.2.2.2.2.1 bt366.2.2.2.2.2.1 bt366.2.2.2.2.2.2.1 bt366.2.2.2.2.2.2.2).bind fun t375 => ((roster_Read.f kj4 t375).bind fun bt376 => ((roster_Member_Sound.f kj4 bt366.1 bt366.2.1 bt366.2.2.1 bt366.2.2.2.1 bt366.2.2.2.2.1 bt366.2.2.2.2.2.1 bt366.2.2.2.2.2.2.1 bt366.2.2.2.2.2.2.2).bind fun t386 => (if t386 = true then (if bt376.2.2.2.2.2.2.2.2 = 0 then (bulletinlaw33_RosterBack.j1 kj4 a1 ((!(bt376.1.toList == bt366.1.toList) || (!(bt376.2.1.toList == bt366.2.1.toList))) || (!(bt376.2.2.1 == bt366.2.2.1) || (!(bt376.2.2.2.1 == bt366.2.2.2.1) || (!(bt376.2.2.2.2.1 == bt366.2.2.2.2.1) || (!(bt376.2.2.2.2.2.1 == bt366.2.2.2.2.2.1) || (!(bt376.2.2.2.2.2.2.1 == bt366.2.2.2.2.2.2.1) || (!(bt376.2.2.2.2.2.2.2.1 == bt366.2.2.2.2.2.2.2))))))))) else (bulletinlaw33_RosterBack.j1 kj4 a1 true)) else (bulletinlaw33_RosterBack.j1 kj4 a1 false)))))) = some r := by rw [if_neg (show ¬ (false = true) by decide)] at H; exact H
     clear H; have H := H1; clear H1; replace H := Option.bind_eq_some_iff.mp H; obtain ⟨⟨t366, t367, t368, t369, t370, t371, t372, t373⟩, A140, H⟩ := H; replace H : ((roster_Member_Row.f kj4 t366 t367 t368 t369 t370 t371 t372 t373).bind fun t375 => ((roster_Read.f kj4 t375).bind fun bt376 => ((roster_Member_Sound.f kj4 t366 t367 t368 t369 t370 t371 t372 t373).bind fun t386 => (if t386 = true then (if bt376.2.2.2.2.2.2.2.2 = 0 then (bulletinlaw33_RosterBack.j1 kj4 a1 ((!(bt376.1.toList == t366.toList) || (!(bt376.2.1.toList == t367.toList))) || (!(bt376.2.2.1 == t368) || (!(bt376.2.2.2.1 == t369) || (!(bt376.2.2.2.2.1 == t370) || (!(bt376.2.2.2.2.2.1 == t371) || (!(bt376.2.2.2.2.2.2.1 == t372) || (!(bt376.2.2.2.2.2.2.2.1 == t373))))))))) else (bulletinlaw33_RosterBack.j1 kj4 a1 true)) else (bulletinlaw33_RosterBack.j1 kj4 a1 false))))) = some r := H; have A14 := Aside0.mk A140; clear A140; replace H := Option.bind_eq_some_iff.mp H; obtain ⟨t375, A150, H⟩ := H; replace H : ((roster_Read.f kj4 t375).bind fun bt376 => ((roster_Member_Sound.f kj4 t366 t367 t368 t369 t370 t371 t372 t373).bind fun t386 => (if t386 = true then (if bt376.2.2.2.2.2.2.2.2 = 0 then (bulletinlaw33_RosterBack.j1 kj4 a1 ((!(bt376.1.toList == t366.toList) || (!(bt376.2.1.toList == t367.toList))) || (!(bt376.2.2.1 == t368) || (!(bt376.2.2.2.1 == t369) || (!(bt376.2.2.2.2.1 == t370) || (!(bt376.2.2.2.2.2.1 == t371) || (!(bt376.2.2.2.2.2.2.1 == t372) || (!(bt376.2.2.2.2.2.2.2.1 == t373))))))))) else (bulletinlaw33_RosterBack.j1 kj4 a1 true)) else (bulletinlaw33_RosterBack.j1 kj4 a1 false)))) = some r := H; have A15 := Aside0.mk A150; clear A150; replace H := Option.bind_eq_some_iff.mp H; obtain ⟨⟨t376, t377, t378, t379, t380, t381, t382, t383, t384⟩, A160, H⟩ := H; replace H : ((roster_Member_Sound.f kj4 t366 t367 t368 t369 t370 t371 t372 t373).bind fun t386 => (if t386 = true then (if t384 = 0 then (bulletinlaw33_RosterBack.j1 kj4 a1 ((!(t376.toList == t366.toList) || (!(t377.toList == t367.toList))) || (!(t378 == t368) || (!(t379 == t369) || (!(t380 == t370) || (!(t381 == t371) || (!(t382 == t372) || (!(t383 == t373))))))))) else (bulletinlaw33_RosterBack.j1 kj4 a1 true)) else (bulletinlaw33_RosterBack.j1 kj4 a1 false))) = some r := H; have A16 := Aside0.mk A160; clear A160; have HC17 := Aside0.mk H; clear H; have hcz18_0 : wc.cell? ⟨gb364, 0, none⟩ = some (.string a0_0) := (blk_cell BK364.out 0).trans rfl; have hcz18_1 : wc.cell? ⟨gb364, 1, none⟩ = some (.string a0_1) := (blk_cell BK364.out 1).trans rfl; have hcz18_2 : wc.cell? ⟨gb364, 2, none⟩ = some (.int .i64 a0_2) := (blk_cell BK364.out 2).trans rfl; have hcz18_3 : wc.cell? ⟨gb364, 3, none⟩ = some (.bool a0_3) := (blk_cell BK364.out 3).trans rfl; have hcz18_4 : wc.cell? ⟨gb364, 4, none⟩ = some (.int .i64 a0_4) := (blk_cell BK364.out 4).trans rfl; have hcz18_5 : wc.cell? ⟨gb364, 5, none⟩ = some (.int .i64 a0_5) := (blk_cell BK364.out 5).trans rfl; have hcz18_6 : wc.cell? ⟨gb364, 6, none⟩ = some (.int .i64 a0_6) := (blk_cell BK364.out 6).trans rfl; have hcz18_7 : wc.cell? ⟨gb364, 7, none⟩ = some (.int .i64 a0_7) := (blk_cell BK364.out 7).trans rfl; have hfz18_0 := blk_frozen BK364.out 0; have hfz18_1 := blk_frozen BK364.out 1; have hfz18_2 := blk_frozen BK364.out 2; have hfz18_3 := blk_frozen BK364.out 3; have hfz18_4 := blk_frozen BK364.out 4; have hfz18_5 := blk_frozen BK364.out 5; have hfz18_6 := blk_frozen BK364.out 6; have hfz18_7 := blk_frozen BK364.out 7
     go_upto_region 7 with (first | ((with_reducible refine gate_callee (f := 6) rfl ?_); refine goesL_ (some 30) rfl rfl Tryd.func6 (by kernel_rfl) rfl #[.agg #[.string a0_0, .string a0_1, .int .i64 a0_2, .bool a0_3, .int .i64 a0_4, .int .i64 a0_5, .int .i64 a0_6, .int .i64 a0_7]] rfl am ?_; (with_reducible refine (bulletinlaw33_To.calls a0_0 a0_1 a0_2 a0_3 a0_4 a0_5 a0_6 a0_7 t366 t367 t368 t369 t370 t371 t372 t373 _ A14.out).mono ?_); rintro e w19 ⟨rfl, hb⟩; refine ⟨_, rfl, ?_⟩; have n0_ := Aside0.mk (blk_below (g := gb364) (o := .cells #[.string a0_0, .string a0_1, .int .i64 a0_2, .bool a0_3, .int .i64 a0_4, .int .i64 a0_5, .int .i64 a0_6, .int .i64 a0_7] 25 (0, 0)) bk hb); have n1_ := Aside0.mk (below_step bwS hb); clear BK364; clear HB; have BK364 := n0_; have HB := n1_; clear n0_ n1_; (try clear hb); (try clear hb2); (try clear hk); (try clear hi)) | ((with_reducible refine gate_dst (N := 5) rfl ?_); (try (refine gate_guard (by rfl) ?_; dsimp only)); refine box_event ?hg (N := 5) ?hd (cs := #[.string (⟨#[]⟩ : ByteArray), .string (⟨#[]⟩ : ByteArray), .int .i64 0, .bool false, .int .i64 0, .int .i64 0, .int .i64 0, .int .i64 0]) (t := 29) ?hr ?_; (case hd => rfl); (case hg => rfl); (case hr => first | (go_simp; done) | (go_simp; rfl)); intro gb374 hg w20 hbox hb; have n0_ := Aside0.mk (blk_below (g := gb364) (o := .cells #[.string a0_0, .string a0_1, .int .i64 a0_2, .bool a0_3, .int .i64 a0_4, .int .i64 a0_5, .int .i64 a0_6, .int .i64 a0_7] 25 (0, 0)) bk hb); have n1_ := Aside0.mk (below_step bwS hb); have n2_ := Aside0.mk (hbox); have n3_ := Aside0.mk ((by rw [hg]; exact (below_size bwS) : w.heap.size ≤ gb374)); have n4_ := Aside0.mk ((by rw [hg]; exact (below_size bwS) : w.heap.size ≤ gb374)); have n5_ := Aside0.mk ((by rw [hg]; exact Nat.ne_of_lt (blk_lt (g := gb364) (o := .cells #[.string a0_0, .string a0_1, .int .i64 a0_2, .bool a0_3, .int .i64 a0_4, .int .i64 a0_5, .int .i64 a0_6, .int .i64 a0_7] 25 (0, 0)) bk) : gb364 ≠ gb374)); have n6_ := Aside0.mk ((by rw [hg]; exact Nat.ne_of_gt (blk_lt (g := gb364) (o := .cells #[.string a0_0, .string a0_1, .int .i64 a0_2, .bool a0_3, .int .i64 a0_4, .int .i64 a0_5, .int .i64 a0_6, .int .i64 a0_7] 25 (0, 0)) bk) : gb374 ≠ gb364)); clear BK364; clear HB; have BK364 := n0_; have HB := n1_; have BK374 := n2_; have GW374 := n3_; have GE374 := n4_; have NB364_374 := n5_; have NB374_364 := n6_; clear n0_ n1_ n2_ n3_ n4_ n5_ n6_; clear hb hbox hg; have hnb21 := NB374_364.out; have hnc21 := NB364_374.out; have hcz22_0 : w20.cell? ⟨gb374, 0, none⟩ = some (.string (⟨#[]⟩ : ByteArray)) := (blk_cell BK374.out 0).trans rfl; have hcz22_1 : w20.cell? ⟨gb374, 1, none⟩ = some (.string (⟨#[]⟩ : ByteArray)) := (blk_cell BK374.out 1).trans rfl; have hcz22_2 : w20.cell? ⟨gb374, 2, none⟩ = some (.int .i64 0) := (blk_cell BK374.out 2).trans rfl; have hcz22_3 : w20.cell? ⟨gb374, 3, none⟩ = some (.bool false) := (blk_cell BK374.out 3).trans rfl; have hcz22_4 : w20.cell? ⟨gb374, 4, none⟩ = some (.int .i64 0) := (blk_cell BK374.out 4).trans rfl; have hcz22_5 : w20.cell? ⟨gb374, 5, none⟩ = some (.int .i64 0) := (blk_cell BK374.out 5).trans rfl; have hcz22_6 : w20.cell? ⟨gb374, 6, none⟩ = some (.int .i64 0) := (blk_cell BK374.out 6).trans rfl; have hcz22_7 : w20.cell? ⟨gb374, 7, none⟩ = some (.int .i64 0) := (blk_cell BK374.out 7).trans rfl; have hfz22_0 := blk_frozen BK374.out 0; have hfz22_1 := blk_frozen BK374.out 1; have hfz22_2 := blk_frozen BK374.out 2; have hfz22_3 := blk_frozen BK374.out 3; have hfz22_4 := blk_frozen BK374.out 4; have hfz22_5 := blk_frozen BK374.out 5; have hfz22_6 := blk_frozen BK374.out 6; have hfz22_7 := blk_frozen BK374.out 7) | ((with_reducible refine gate_callee (f := 8) rfl ?_); refine goesL_ (some 33) rfl rfl Tryd.func8 (by kernel_rfl) rfl #[.agg #[.string t366, .string t367, .int .i64 t368, .bool t369, .int .i64 t370, .int .i64 t371, .int .i64 t372, .int .i64 t373]] rfl am ?_; (with_reducible refine (roster_Member_Row.calls (hG := by first | exact hG | exact GlobT.below hG (by first | exact HB.out | (repeat (first | (with_reducible first | exact HB.out | apply below_alloc | apply pw_below_drewN | apply below_drew1 | refine below_set ?_ GE364.out | refine below_set ?_ GE374.out | refine below_set ?_ GE385.out | refine below_set ?_ GE396.out) | exact HB.out))) | exact GlobT.drawn hG (d0)) kj4 t366 t367 t368 t369 t370 t371 t372 t373 t375 _ A15.out).mono ?_); rintro e w23 ⟨rfl, hb⟩; refine ⟨_, rfl, ?_⟩; have n0_ := Aside0.mk (blk_below (g := gb364) (o := .cells #[.string a0_0, .string a0_1, .int .i64 a0_2, .bool a0_3, .int .i64 a0_4, .int .i64 a0_5, .int .i64 a0_6, .int .i64 a0_7] 25 (0, 0)) (by (with_reducible repeat (first | refine blk_drewN ?_ _ | refine blk_drew ?_ | refine blk_alloc ?_ _)); refine blk_far ?_ NB364_374.out _; (with_reducible repeat (first | refine blk_drewN ?_ _ | refine blk_drew ?_ | refine blk_alloc ?_ _)); refine blk_far ?_ NB364_374.out _; (with_reducible repeat (first | refine blk_drewN ?_ _ | refine blk_drew ?_ | refine blk_alloc ?_ _)); refine blk_far ?_ NB364_374.out _; (with_reducible repeat (first | refine blk_drewN ?_ _ | refine blk_drew ?_ | refine blk_alloc ?_ _)); refine blk_far ?_ NB364_374.out _; (with_reducible repeat (first | refine blk_drewN ?_ _ | refine blk_drew ?_ | refine blk_alloc ?_ _)); refine blk_far ?_ NB364_374.out _; (with_reducible repeat (first | refine blk_drewN ?_ _ | refine blk_drew ?_ | refine blk_alloc ?_ _)); refine blk_far ?_ NB364_374.out _; (with_reducible repeat (first | refine blk_drewN ?_ _ | refine blk_drew ?_ | refine blk_alloc ?_ _)); refine blk_far ?_ NB364_374.out _; (with_reducible repeat (first | refine blk_drewN ?_ _ | refine blk_drew ?_ | refine blk_alloc ?_ _)); refine blk_far ?_ NB364_374.out _; (with_reducible repeat (first | refine blk_drewN ?_ _ | refine blk_drew ?_ | refine blk_alloc ?_ _)); exact BK364.out) hb); have n1_ := Aside0.mk (blk_below (g := gb374) (o := .cells #[.string t366, .string t367, .int .i64 t368, .bool t369, .int .i64 t370, .int .i64 t371, .int .i64 t372, .int .i64 t373] 29 (0, 0)) (by (with_reducible repeat (first | refine blk_drewN ?_ _ | refine blk_drew ?_ | refine blk_alloc ?_ _)); refine blk_put (cs := #[.string t366, .string t367, .int .i64 t368, .bool t369, .int .i64 t370, .int .i64 t371, .int .i64 t372, .int .i64 0]) ?_ 7 _ rfl; (with_reducible repeat (first | refine blk_drewN ?_ _ | refine blk_drew ?_ | refine blk_alloc ?_ _)); refine blk_put (cs := #[.string t366, .string t367, .int .i64 t368, .bool t369, .int .i64 t370, .int .i64 t371, .int .i64 0, .int .i64 0]) ?_ 6 _ rfl; (with_reducible repeat (first | refine blk_drewN ?_ _ | refine blk_drew ?_ | refine blk_alloc ?_ _)); refine blk_put (cs := #[.string t366, .string t367, .int .i64 t368, .bool t369, .int .i64 t370, .int .i64 0, .int .i64 0, .int .i64 0]) ?_ 5 _ rfl; (with_reducible repeat (first | refine blk_drewN ?_ _ | refine blk_drew ?_ | refine blk_alloc ?_ _)); refine blk_put (cs := #[.string t366, .string t367, .int .i64 t368, .bool t369, .int .i64 0, .int .i64 0, .int .i64 0, .int .i64 0]) ?_ 4 _ rfl; (with_reducible repeat (first | refine blk_drewN ?_ _ | refine blk_drew ?_ | refine blk_alloc ?_ _)); refine blk_put (cs := #[.string t366, .string t367, .int .i64 t368, .bool false, .int .i64 0, .int .i64 0, .int .i64 0, .int .i64 0]) ?_ 3 _ rfl; (with_reducible repeat (first | refine blk_drewN ?_ _ | refine blk_drew ?_ | refine blk_alloc ?_ _)); refine blk_put (cs := #[.string t366, .string t367, .int .i64 0, .bool false, .int .i64 0, .int .i64 0, .int .i64 0, .int .i64 0]) ?_ 2 _ rfl; (with_reducible repeat (first | refine blk_drewN ?_ _ | refine blk_drew ?_ | refine blk_alloc ?_ _)); refine blk_put (cs := #[.string t366, .string (⟨#[]⟩ : ByteArray), .int .i64 0, .bool false, .int .i64 0, .int .i64 0, .int .i64 0, .int .i64 0]) ?_ 1 _ rfl; (with_reducible repeat (first | refine blk_drewN ?_ _ | refine blk_drew ?_ | refine blk_alloc ?_ _)); exact blk_put (cs := #[.string (⟨#[]⟩ : ByteArray), .string (⟨#[]⟩ : ByteArray), .int .i64 0, .bool false, .int .i64 0, .int .i64 0, .int .i64 0, .int .i64 0]) bk 0 _ rfl) hb); have n2_ := Aside0.mk (below_step bwS hb); clear BK364; clear BK374; clear HB; have BK364 := n0_; have BK374 := n1_; have HB := n2_; clear n0_ n1_ n2_; (try clear hb); (try clear hb2); (try clear hk); (try clear hi)) | ((with_reducible refine gate_callee (f := 7) rfl ?_); refine goesL_ (some 34) rfl rfl Tryd.func7 (by kernel_rfl) rfl #[.string t375] rfl am ?_; (with_reducible refine (roster_Read.calls (hG := by first | exact hG | exact GlobT.below hG (by first | exact HB.out | (repeat (first | (with_reducible first | exact HB.out | apply below_alloc | apply pw_below_drewN | apply below_drew1 | refine below_set ?_ GE364.out | refine below_set ?_ GE374.out | refine below_set ?_ GE385.out | refine below_set ?_ GE396.out) | exact HB.out))) | exact GlobT.drawn hG (d0)) kj4 t375 t376 t377 t378 t379 t380 t381 t382 t383 t384 _ A16.out).mono ?_); rintro e w24 ⟨rfl, hb⟩; refine ⟨_, rfl, ?_⟩; have n0_ := Aside0.mk (blk_below (g := gb364) (o := .cells #[.string a0_0, .string a0_1, .int .i64 a0_2, .bool a0_3, .int .i64 a0_4, .int .i64 a0_5, .int .i64 a0_6, .int .i64 a0_7] 25 (0, 0)) bk hb); have n1_ := Aside0.mk (blk_below (g := gb374) (o := .cells #[.string t366, .string t367, .int .i64 t368, .bool t369, .int .i64 t370, .int .i64 t371, .int .i64 t372, .int .i64 t373] 29 (0, 0)) bk hb); have n2_ := Aside0.mk (below_step bwS hb); clear BK364; clear BK374; clear HB; have BK364 := n0_; have BK374 := n1_; have HB := n2_; clear n0_ n1_ n2_; (try clear hb); (try clear hb2); (try clear hk); (try clear hi)) | ((with_reducible refine gate_dst (N := 6) rfl ?_); (try (refine gate_guard (by rfl) ?_; dsimp only)); refine box_event ?hg (N := 6) ?hd (cs := #[.string (⟨#[]⟩ : ByteArray), .string (⟨#[]⟩ : ByteArray), .int .i64 0, .bool false, .int .i64 0, .int .i64 0, .int .i64 0, .int .i64 0]) (t := 29) ?hr ?_; (case hd => rfl); (case hg => rfl); (case hr => first | (go_simp; done) | (go_simp; rfl)); intro gb385 hg w25 hbox hb; have n0_ := Aside0.mk (blk_below (g := gb364) (o := .cells #[.string a0_0, .string a0_1, .int .i64 a0_2, .bool a0_3, .int .i64 a0_4, .int .i64 a0_5, .int .i64 a0_6, .int .i64 a0_7] 25 (0, 0)) bk hb); have n1_ := Aside0.mk (blk_below (g := gb374) (o := .cells #[.string t366, .string t367, .int .i64 t368, .bool t369, .int .i64 t370, .int .i64 t371, .int .i64 t372, .int .i64 t373] 29 (0, 0)) bk hb); have n2_ := Aside0.mk (below_step bwS hb); have n3_ := Aside0.mk (hbox); have n4_ := Aside0.mk ((by rw [hg]; exact (below_size bwS) : w.heap.size ≤ gb385)); have n5_ := Aside0.mk ((by rw [hg]; exact (below_size bwS) : w.heap.size ≤ gb385)); have n6_ := Aside0.mk ((by rw [hg]; exact Nat.ne_of_lt (blk_lt (g := gb364) (o := .cells #[.string a0_0, .string a0_1, .int .i64 a0_2, .bool a0_3, .int .i64 a0_4, .int .i64 a0_5, .int .i64 a0_6, .int .i64 a0_7] 25 (0, 0)) bk) : gb364 ≠ gb385)); have n7_ := Aside0.mk ((by rw [hg]; exact Nat.ne_of_gt (blk_lt (g := gb364) (o := .cells #[.string a0_0, .string a0_1, .int .i64 a0_2, .bool a0_3, .int .i64 a0_4, .int .i64 a0_5, .int .i64 a0_6, .int .i64 a0_7] 25 (0, 0)) bk) : gb385 ≠ gb364)); have n8_ := Aside0.mk ((by rw [hg]; exact Nat.ne_of_lt (blk_lt (g := gb374) (o := .cells #[.string t366, .string t367, .int .i64 t368, .bool t369, .int .i64 t370, .int .i64 t371, .int .i64 t372, .int .i64 t373] 29 (0, 0)) bk) : gb374 ≠ gb385)); have n9_ := Aside0.mk ((by rw [hg]; exact Nat.ne_of_gt (blk_lt (g := gb374) (o := .cells #[.string t366, .string t367, .int .i64 t368, .bool t369, .int .i64 t370, .int .i64 t371, .int .i64 t372, .int .i64 t373] 29 (0, 0)) bk) : gb385 ≠ gb374)); clear BK364; clear BK374; clear HB; have BK364 := n0_; have BK374 := n1_; have HB := n2_; have BK385 := n3_; have GW385 := n4_; have GE385 := n5_; have NB364_385 := n6_; have NB385_364 := n7_; have NB374_385 := n8_; have NB385_374 := n9_; clear n0_ n1_ n2_ n3_ n4_ n5_ n6_ n7_ n8_ n9_; clear hb hbox hg; have hnb26 := NB385_364.out; have hnc26 := NB364_385.out; have hnb27 := NB385_374.out; have hnc27 := NB374_385.out; have hcz28_0 : w25.cell? ⟨gb385, 0, none⟩ = some (.string (⟨#[]⟩ : ByteArray)) := (blk_cell BK385.out 0).trans rfl; have hcz28_1 : w25.cell? ⟨gb385, 1, none⟩ = some (.string (⟨#[]⟩ : ByteArray)) := (blk_cell BK385.out 1).trans rfl; have hcz28_2 : w25.cell? ⟨gb385, 2, none⟩ = some (.int .i64 0) := (blk_cell BK385.out 2).trans rfl; have hcz28_3 : w25.cell? ⟨gb385, 3, none⟩ = some (.bool false) := (blk_cell BK385.out 3).trans rfl; have hcz28_4 : w25.cell? ⟨gb385, 4, none⟩ = some (.int .i64 0) := (blk_cell BK385.out 4).trans rfl; have hcz28_5 : w25.cell? ⟨gb385, 5, none⟩ = some (.int .i64 0) := (blk_cell BK385.out 5).trans rfl; have hcz28_6 : w25.cell? ⟨gb385, 6, none⟩ = some (.int .i64 0) := (blk_cell BK385.out 6).trans rfl; have hcz28_7 : w25.cell? ⟨gb385, 7, none⟩ = some (.int .i64 0) := (blk_cell BK385.out 7).trans rfl; have hfz28_0 := blk_frozen BK385.out 0; have hfz28_1 := blk_frozen BK385.out 1; have hfz28_2 := blk_frozen BK385.out 2; have hfz28_3 := blk_frozen BK385.out 3; have hfz28_4 := blk_frozen BK385.out 4; have hfz28_5 := blk_frozen BK385.out 5; have hfz28_6 := blk_frozen BK385.out 6; have hfz28_7 := blk_frozen BK385.out 7))
     (try simp only [Act.put, List.setIfInBounds_toArray, List.set_cons_zero, List.set_cons_succ])
     go_cut [47] (fun v47 wc => ∃ (kq : Nat) (x47_16 : Bool), v47 = .bool x47_16 ∧ Aside0 (bulletinlaw33_RosterBack.j1 kq a1 x47_16 = some r) ∧ Aside0 (kq ≤ kj4) ∧ Aside0 (wc.heap[gb364]? = some (.cells #[.string a0_0, .string a0_1, .int .i64 a0_2, .bool a0_3, .int .i64 a0_4, .int .i64 a0_5, .int .i64 a0_6, .int .i64 a0_7] 25 (0, 0))) ∧ Aside0 (wc.heap[gb374]? = some (.cells #[.string t366, .string t367, .int .i64 t368, .bool t369, .int .i64 t370, .int .i64 t371, .int .i64 t372, .int .i64 t373] 29 (0, 0))) ∧ Aside0 (wc.heap[gb385]? = some (.cells #[.string t376, .string t377, .int .i64 t378, .bool t379, .int .i64 t380, .int .i64 t381, .int .i64 t382, .int .i64 t383] 29 (0, 0))) ∧ Aside0 (Below w.heap.size w wc))
     case first =>
      have H := HC17.out; clear HC17; replace H := Option.bind_eq_some_iff.mp H; obtain ⟨t386, A290, H⟩ := H; replace H : (if t386 = true then (if t384 = 0 then (bulletinlaw33_RosterBack.j1 kj4 a1 ((!(t376.toList == t366.toList) || (!(t377.toList == t367.toList))) || (!(t378 == t368) || (!(t379 == t369) || (!(t380 == t370) || (!(t381 == t371) || (!(t382 == t372) || (!(t383 == t373))))))))) else (bulletinlaw33_RosterBack.j1 kj4 a1 true)) else (bulletinlaw33_RosterBack.j1 kj4 a1 false)) = some r := H; have A29 := Aside0.mk A290; clear A290
      by_cases c30 : t386 = true
      ·subst c30; have H1 : (if t384 = 0 then (bulletinlaw33_RosterBack.j1 kj4 a1 ((!(t376.toList == t366.toList) || (!(t377.toList == t367.toList))) || (!(t378 == t368) || (!(t379 == t369) || (!(t380 == t370) || (!(t381 == t371) || (!(t382 == t372) || (!(t383 == t373))))))))) else (bulletinlaw33_RosterBack.j1 kj4 a1 true)) = some r := by rw [if_pos rfl] at H; exact H
       clear H; have H := H1; clear H1
       by_cases c31 : t384 = 0
       ·rw [if_pos c31] at H; have c31b0 : (t384 == 0) = true := beq_iff_eq.mpr c31; have c31b1 : (t384 != 0) = false := bne_eq_false_iff_eq.mpr c31; clear c31
        (first | rw [c31b0] | (simp only [i64_w, i32_w]; rw [c31b0]) | skip)
        have H' := Aside0.mk H; clear H; have hnb32 := NB374_364.out; have hnc32 := NB364_374.out; have hnb33 := NB374_385.out; have hnc33 := NB385_374.out; have hcz34_0 : w25.cell? ⟨gb374, 0, none⟩ = some (.string t366) := (blk_cell BK374.out 0).trans rfl; have hcz34_1 : w25.cell? ⟨gb374, 1, none⟩ = some (.string t367) := (blk_cell BK374.out 1).trans rfl; have hcz34_2 : w25.cell? ⟨gb374, 2, none⟩ = some (.int .i64 t368) := (blk_cell BK374.out 2).trans rfl; have hcz34_3 : w25.cell? ⟨gb374, 3, none⟩ = some (.bool t369) := (blk_cell BK374.out 3).trans rfl; have hcz34_4 : w25.cell? ⟨gb374, 4, none⟩ = some (.int .i64 t370) := (blk_cell BK374.out 4).trans rfl; have hcz34_5 : w25.cell? ⟨gb374, 5, none⟩ = some (.int .i64 t371) := (blk_cell BK374.out 5).trans rfl; have hcz34_6 : w25.cell? ⟨gb374, 6, none⟩ = some (.int .i64 t372) := (blk_cell BK374.out 6).trans rfl; have hcz34_7 : w25.cell? ⟨gb374, 7, none⟩ = some (.int .i64 t373) := (blk_cell BK374.out 7).trans rfl; have hfz34_0 := blk_frozen BK374.out 0; have hfz34_1 := blk_frozen BK374.out 1; have hfz34_2 := blk_frozen BK374.out 2; have hfz34_3 := blk_frozen BK374.out 3; have hfz34_4 := blk_frozen BK374.out 4; have hfz34_5 := blk_frozen BK374.out 5; have hfz34_6 := blk_frozen BK374.out 6; have hfz34_7 := blk_frozen BK374.out 7
        go_wp2_with (first | ((with_reducible refine gate_callee (f := 9) rfl ?_); refine goesL_ (some 38) rfl rfl Tryd.func9 (by kernel_rfl) rfl #[.agg #[.string t366, .string t367, .int .i64 t368, .bool t369, .int .i64 t370, .int .i64 t371, .int .i64 t372, .int .i64 t373]] rfl am ?_; (with_reducible refine (roster_Member_Sound.calls kj4 t366 t367 t368 t369 t370 t371 t372 t373 true _ A29.out).mono ?_); rintro e w35 ⟨rfl, hb⟩; refine ⟨_, rfl, ?_⟩; have n0_ := Aside0.mk (blk_below (g := gb364) (o := .cells #[.string a0_0, .string a0_1, .int .i64 a0_2, .bool a0_3, .int .i64 a0_4, .int .i64 a0_5, .int .i64 a0_6, .int .i64 a0_7] 25 (0, 0)) (by (with_reducible repeat (first | refine blk_drewN ?_ _ | refine blk_drew ?_ | refine blk_alloc ?_ _)); refine blk_far ?_ NB364_385.out _; (with_reducible repeat (first | refine blk_drewN ?_ _ | refine blk_drew ?_ | refine blk_alloc ?_ _)); refine blk_far ?_ NB364_385.out _; (with_reducible repeat (first | refine blk_drewN ?_ _ | refine blk_drew ?_ | refine blk_alloc ?_ _)); refine blk_far ?_ NB364_385.out _; (with_reducible repeat (first | refine blk_drewN ?_ _ | refine blk_drew ?_ | refine blk_alloc ?_ _)); refine blk_far ?_ NB364_385.out _; (with_reducible repeat (first | refine blk_drewN ?_ _ | refine blk_drew ?_ | refine blk_alloc ?_ _)); refine blk_far ?_ NB364_385.out _; (with_reducible repeat (first | refine blk_drewN ?_ _ | refine blk_drew ?_ | refine blk_alloc ?_ _)); refine blk_far ?_ NB364_385.out _; (with_reducible repeat (first | refine blk_drewN ?_ _ | refine blk_drew ?_ | refine blk_alloc ?_ _)); refine blk_far ?_ NB364_385.out _; (with_reducible repeat (first | refine blk_drewN ?_ _ | refine blk_drew ?_ | refine blk_alloc ?_ _)); refine blk_far ?_ NB364_385.out _; (with_reducible repeat (first | refine blk_drewN ?_ _ | refine blk_drew ?_ | refine blk_alloc ?_ _)); exact BK364.out) hb); have n1_ := Aside0.mk (blk_below (g := gb374) (o := .cells #[.string t366, .string t367, .int .i64 t368, .bool t369, .int .i64 t370, .int .i64 t371, .int .i64 t372, .int .i64 t373] 29 (0, 0)) (by (with_reducible repeat (first | refine blk_drewN ?_ _ | refine blk_drew ?_ | refine blk_alloc ?_ _)); refine blk_far ?_ NB374_385.out _; (with_reducible repeat (first | refine blk_drewN ?_ _ | refine blk_drew ?_ | refine blk_alloc ?_ _)); refine blk_far ?_ NB374_385.out _; (with_reducible repeat (first | refine blk_drewN ?_ _ | refine blk_drew ?_ | refine blk_alloc ?_ _)); refine blk_far ?_ NB374_385.out _; (with_reducible repeat (first | refine blk_drewN ?_ _ | refine blk_drew ?_ | refine blk_alloc ?_ _)); refine blk_far ?_ NB374_385.out _; (with_reducible repeat (first | refine blk_drewN ?_ _ | refine blk_drew ?_ | refine blk_alloc ?_ _)); refine blk_far ?_ NB374_385.out _; (with_reducible repeat (first | refine blk_drewN ?_ _ | refine blk_drew ?_ | refine blk_alloc ?_ _)); refine blk_far ?_ NB374_385.out _; (with_reducible repeat (first | refine blk_drewN ?_ _ | refine blk_drew ?_ | refine blk_alloc ?_ _)); refine blk_far ?_ NB374_385.out _; (with_reducible repeat (first | refine blk_drewN ?_ _ | refine blk_drew ?_ | refine blk_alloc ?_ _)); refine blk_far ?_ NB374_385.out _; (with_reducible repeat (first | refine blk_drewN ?_ _ | refine blk_drew ?_ | refine blk_alloc ?_ _)); exact BK374.out) hb); have n2_ := Aside0.mk (blk_below (g := gb385) (o := .cells #[.string t376, .string t377, .int .i64 t378, .bool t379, .int .i64 t380, .int .i64 t381, .int .i64 t382, .int .i64 t383] 29 (0, 0)) (by (with_reducible repeat (first | refine blk_drewN ?_ _ | refine blk_drew ?_ | refine blk_alloc ?_ _)); refine blk_put (cs := #[.string t376, .string t377, .int .i64 t378, .bool t379, .int .i64 t380, .int .i64 t381, .int .i64 t382, .int .i64 0]) ?_ 7 _ rfl; (with_reducible repeat (first | refine blk_drewN ?_ _ | refine blk_drew ?_ | refine blk_alloc ?_ _)); refine blk_put (cs := #[.string t376, .string t377, .int .i64 t378, .bool t379, .int .i64 t380, .int .i64 t381, .int .i64 0, .int .i64 0]) ?_ 6 _ rfl; (with_reducible repeat (first | refine blk_drewN ?_ _ | refine blk_drew ?_ | refine blk_alloc ?_ _)); refine blk_put (cs := #[.string t376, .string t377, .int .i64 t378, .bool t379, .int .i64 t380, .int .i64 0, .int .i64 0, .int .i64 0]) ?_ 5 _ rfl; (with_reducible repeat (first | refine blk_drewN ?_ _ | refine blk_drew ?_ | refine blk_alloc ?_ _)); refine blk_put (cs := #[.string t376, .string t377, .int .i64 t378, .bool t379, .int .i64 0, .int .i64 0, .int .i64 0, .int .i64 0]) ?_ 4 _ rfl; (with_reducible repeat (first | refine blk_drewN ?_ _ | refine blk_drew ?_ | refine blk_alloc ?_ _)); refine blk_put (cs := #[.string t376, .string t377, .int .i64 t378, .bool false, .int .i64 0, .int .i64 0, .int .i64 0, .int .i64 0]) ?_ 3 _ rfl; (with_reducible repeat (first | refine blk_drewN ?_ _ | refine blk_drew ?_ | refine blk_alloc ?_ _)); refine blk_put (cs := #[.string t376, .string t377, .int .i64 0, .bool false, .int .i64 0, .int .i64 0, .int .i64 0, .int .i64 0]) ?_ 2 _ rfl; (with_reducible repeat (first | refine blk_drewN ?_ _ | refine blk_drew ?_ | refine blk_alloc ?_ _)); refine blk_put (cs := #[.string t376, .string (⟨#[]⟩ : ByteArray), .int .i64 0, .bool false, .int .i64 0, .int .i64 0, .int .i64 0, .int .i64 0]) ?_ 1 _ rfl; (with_reducible repeat (first | refine blk_drewN ?_ _ | refine blk_drew ?_ | refine blk_alloc ?_ _)); exact blk_put (cs := #[.string (⟨#[]⟩ : ByteArray), .string (⟨#[]⟩ : ByteArray), .int .i64 0, .bool false, .int .i64 0, .int .i64 0, .int .i64 0, .int .i64 0]) bk 0 _ rfl) hb); have n3_ := Aside0.mk (below_step bwS hb); clear BK364; clear BK374; clear BK385; clear HB; have BK364 := n0_; have BK374 := n1_; have BK385 := n2_; have HB := n3_; clear n0_ n1_ n2_ n3_; (try clear hb); (try clear hb2); (try clear hk); (try clear hi); have hnb36 := NB385_364.out; have hnc36 := NB364_385.out; have hcz37_0 : w35.cell? ⟨gb385, 0, none⟩ = some (.string t376) := (blk_cell BK385.out 0).trans rfl; have hcz37_1 : w35.cell? ⟨gb385, 1, none⟩ = some (.string t377) := (blk_cell BK385.out 1).trans rfl; have hcz37_2 : w35.cell? ⟨gb385, 2, none⟩ = some (.int .i64 t378) := (blk_cell BK385.out 2).trans rfl; have hcz37_3 : w35.cell? ⟨gb385, 3, none⟩ = some (.bool t379) := (blk_cell BK385.out 3).trans rfl; have hcz37_4 : w35.cell? ⟨gb385, 4, none⟩ = some (.int .i64 t380) := (blk_cell BK385.out 4).trans rfl; have hcz37_5 : w35.cell? ⟨gb385, 5, none⟩ = some (.int .i64 t381) := (blk_cell BK385.out 5).trans rfl; have hcz37_6 : w35.cell? ⟨gb385, 6, none⟩ = some (.int .i64 t382) := (blk_cell BK385.out 6).trans rfl; have hcz37_7 : w35.cell? ⟨gb385, 7, none⟩ = some (.int .i64 t383) := (blk_cell BK385.out 7).trans rfl; have hfz37_0 := blk_frozen BK385.out 0; have hfz37_1 := blk_frozen BK385.out 1; have hfz37_2 := blk_frozen BK385.out 2; have hfz37_3 := blk_frozen BK385.out 3; have hfz37_4 := blk_frozen BK385.out 4; have hfz37_5 := blk_frozen BK385.out 5; have hfz37_6 := blk_frozen BK385.out 6; have hfz37_7 := blk_frozen BK385.out 7; have hcz38_0 : w35.cell? ⟨gb374, 0, none⟩ = some (.string t366) := (blk_cell BK374.out 0).trans rfl; have hcz38_1 : w35.cell? ⟨gb374, 1, none⟩ = some (.string t367) := (blk_cell BK374.out 1).trans rfl; have hcz38_2 : w35.cell? ⟨gb374, 2, none⟩ = some (.int .i64 t368) := (blk_cell BK374.out 2).trans rfl; have hcz38_3 : w35.cell? ⟨gb374, 3, none⟩ = some (.bool t369) := (blk_cell BK374.out 3).trans rfl; have hcz38_4 : w35.cell? ⟨gb374, 4, none⟩ = some (.int .i64 t370) := (blk_cell BK374.out 4).trans rfl; have hcz38_5 : w35.cell? ⟨gb374, 5, none⟩ = some (.int .i64 t371) := (blk_cell BK374.out 5).trans rfl; have hcz38_6 : w35.cell? ⟨gb374, 6, none⟩ = some (.int .i64 t372) := (blk_cell BK374.out 6).trans rfl; have hcz38_7 : w35.cell? ⟨gb374, 7, none⟩ = some (.int .i64 t373) := (blk_cell BK374.out 7).trans rfl; have hfz38_0 := blk_frozen BK374.out 0; have hfz38_1 := blk_frozen BK374.out 1; have hfz38_2 := blk_frozen BK374.out 2; have hfz38_3 := blk_frozen BK374.out 3; have hfz38_4 := blk_frozen BK374.out 4; have hfz38_5 := blk_frozen BK374.out 5; have hfz38_6 := blk_frozen BK374.out 6; have hfz38_7 := blk_frozen BK374.out 7))
        go_meet
        case rel => exact ⟨_, (((!(t376.toList == t366.toList) || (!(t377.toList == t367.toList))) || (!(t378 == t368) || (!(t379 == t369) || (!(t380 == t370) || (!(t381 == t371) || (!(t382 == t372) || (!(t383 == t373))))))))), cl, H', ⟨by have := HJ4.out; first | omega | exact Nat.le_refl _⟩, ⟨bk⟩, ⟨bk⟩, ⟨bk⟩, ⟨bwS⟩⟩
       ·rw [if_neg c31] at H; have c31b0 : (t384 == 0) = false := beq_eq_false_iff_ne.mpr c31; have c31b1 : (t384 != 0) = true := bne_iff_ne.mpr c31
        (first | rw [c31b0] | (simp only [i64_w, i32_w]; rw [c31b0]) | skip)
        have H' := Aside0.mk H; clear H; have hnb39 := NB374_364.out; have hnc39 := NB364_374.out; have hnb40 := NB374_385.out; have hnc40 := NB385_374.out; have hcz41_0 : w25.cell? ⟨gb374, 0, none⟩ = some (.string t366) := (blk_cell BK374.out 0).trans rfl; have hcz41_1 : w25.cell? ⟨gb374, 1, none⟩ = some (.string t367) := (blk_cell BK374.out 1).trans rfl; have hcz41_2 : w25.cell? ⟨gb374, 2, none⟩ = some (.int .i64 t368) := (blk_cell BK374.out 2).trans rfl; have hcz41_3 : w25.cell? ⟨gb374, 3, none⟩ = some (.bool t369) := (blk_cell BK374.out 3).trans rfl; have hcz41_4 : w25.cell? ⟨gb374, 4, none⟩ = some (.int .i64 t370) := (blk_cell BK374.out 4).trans rfl; have hcz41_5 : w25.cell? ⟨gb374, 5, none⟩ = some (.int .i64 t371) := (blk_cell BK374.out 5).trans rfl; have hcz41_6 : w25.cell? ⟨gb374, 6, none⟩ = some (.int .i64 t372) := (blk_cell BK374.out 6).trans rfl; have hcz41_7 : w25.cell? ⟨gb374, 7, none⟩ = some (.int .i64 t373) := (blk_cell BK374.out 7).trans rfl; have hfz41_0 := blk_frozen BK374.out 0; have hfz41_1 := blk_frozen BK374.out 1; have hfz41_2 := blk_frozen BK374.out 2; have hfz41_3 := blk_frozen BK374.out 3; have hfz41_4 := blk_frozen BK374.out 4; have hfz41_5 := blk_frozen BK374.out 5; have hfz41_6 := blk_frozen BK374.out 6; have hfz41_7 := blk_frozen BK374.out 7
        go_wp2_with (first | ((with_reducible refine gate_callee (f := 9) rfl ?_); refine goesL_ (some 38) rfl rfl Tryd.func9 (by kernel_rfl) rfl #[.agg #[.string t366, .string t367, .int .i64 t368, .bool t369, .int .i64 t370, .int .i64 t371, .int .i64 t372, .int .i64 t373]] rfl am ?_; (with_reducible refine (roster_Member_Sound.calls kj4 t366 t367 t368 t369 t370 t371 t372 t373 true _ A29.out).mono ?_); rintro e w42 ⟨rfl, hb⟩; refine ⟨_, rfl, ?_⟩; have n0_ := Aside0.mk (blk_below (g := gb364) (o := .cells #[.string a0_0, .string a0_1, .int .i64 a0_2, .bool a0_3, .int .i64 a0_4, .int .i64 a0_5, .int .i64 a0_6, .int .i64 a0_7] 25 (0, 0)) (by (with_reducible repeat (first | refine blk_drewN ?_ _ | refine blk_drew ?_ | refine blk_alloc ?_ _)); refine blk_far ?_ NB364_385.out _; (with_reducible repeat (first | refine blk_drewN ?_ _ | refine blk_drew ?_ | refine blk_alloc ?_ _)); refine blk_far ?_ NB364_385.out _; (with_reducible repeat (first | refine blk_drewN ?_ _ | refine blk_drew ?_ | refine blk_alloc ?_ _)); refine blk_far ?_ NB364_385.out _; (with_reducible repeat (first | refine blk_drewN ?_ _ | refine blk_drew ?_ | refine blk_alloc ?_ _)); refine blk_far ?_ NB364_385.out _; (with_reducible repeat (first | refine blk_drewN ?_ _ | refine blk_drew ?_ | refine blk_alloc ?_ _)); refine blk_far ?_ NB364_385.out _; (with_reducible repeat (first | refine blk_drewN ?_ _ | refine blk_drew ?_ | refine blk_alloc ?_ _)); refine blk_far ?_ NB364_385.out _; (with_reducible repeat (first | refine blk_drewN ?_ _ | refine blk_drew ?_ | refine blk_alloc ?_ _)); refine blk_far ?_ NB364_385.out _; (with_reducible repeat (first | refine blk_drewN ?_ _ | refine blk_drew ?_ | refine blk_alloc ?_ _)); refine blk_far ?_ NB364_385.out _; (with_reducible repeat (first | refine blk_drewN ?_ _ | refine blk_drew ?_ | refine blk_alloc ?_ _)); exact BK364.out) hb); have n1_ := Aside0.mk (blk_below (g := gb374) (o := .cells #[.string t366, .string t367, .int .i64 t368, .bool t369, .int .i64 t370, .int .i64 t371, .int .i64 t372, .int .i64 t373] 29 (0, 0)) (by (with_reducible repeat (first | refine blk_drewN ?_ _ | refine blk_drew ?_ | refine blk_alloc ?_ _)); refine blk_far ?_ NB374_385.out _; (with_reducible repeat (first | refine blk_drewN ?_ _ | refine blk_drew ?_ | refine blk_alloc ?_ _)); refine blk_far ?_ NB374_385.out _; (with_reducible repeat (first | refine blk_drewN ?_ _ | refine blk_drew ?_ | refine blk_alloc ?_ _)); refine blk_far ?_ NB374_385.out _; (with_reducible repeat (first | refine blk_drewN ?_ _ | refine blk_drew ?_ | refine blk_alloc ?_ _)); refine blk_far ?_ NB374_385.out _; (with_reducible repeat (first | refine blk_drewN ?_ _ | refine blk_drew ?_ | refine blk_alloc ?_ _)); refine blk_far ?_ NB374_385.out _; (with_reducible repeat (first | refine blk_drewN ?_ _ | refine blk_drew ?_ | refine blk_alloc ?_ _)); refine blk_far ?_ NB374_385.out _; (with_reducible repeat (first | refine blk_drewN ?_ _ | refine blk_drew ?_ | refine blk_alloc ?_ _)); refine blk_far ?_ NB374_385.out _; (with_reducible repeat (first | refine blk_drewN ?_ _ | refine blk_drew ?_ | refine blk_alloc ?_ _)); refine blk_far ?_ NB374_385.out _; (with_reducible repeat (first | refine blk_drewN ?_ _ | refine blk_drew ?_ | refine blk_alloc ?_ _)); exact BK374.out) hb); have n2_ := Aside0.mk (blk_below (g := gb385) (o := .cells #[.string t376, .string t377, .int .i64 t378, .bool t379, .int .i64 t380, .int .i64 t381, .int .i64 t382, .int .i64 t383] 29 (0, 0)) (by (with_reducible repeat (first | refine blk_drewN ?_ _ | refine blk_drew ?_ | refine blk_alloc ?_ _)); refine blk_put (cs := #[.string t376, .string t377, .int .i64 t378, .bool t379, .int .i64 t380, .int .i64 t381, .int .i64 t382, .int .i64 0]) ?_ 7 _ rfl; (with_reducible repeat (first | refine blk_drewN ?_ _ | refine blk_drew ?_ | refine blk_alloc ?_ _)); refine blk_put (cs := #[.string t376, .string t377, .int .i64 t378, .bool t379, .int .i64 t380, .int .i64 t381, .int .i64 0, .int .i64 0]) ?_ 6 _ rfl; (with_reducible repeat (first | refine blk_drewN ?_ _ | refine blk_drew ?_ | refine blk_alloc ?_ _)); refine blk_put (cs := #[.string t376, .string t377, .int .i64 t378, .bool t379, .int .i64 t380, .int .i64 0, .int .i64 0, .int .i64 0]) ?_ 5 _ rfl; (with_reducible repeat (first | refine blk_drewN ?_ _ | refine blk_drew ?_ | refine blk_alloc ?_ _)); refine blk_put (cs := #[.string t376, .string t377, .int .i64 t378, .bool t379, .int .i64 0, .int .i64 0, .int .i64 0, .int .i64 0]) ?_ 4 _ rfl; (with_reducible repeat (first | refine blk_drewN ?_ _ | refine blk_drew ?_ | refine blk_alloc ?_ _)); refine blk_put (cs := #[.string t376, .string t377, .int .i64 t378, .bool false, .int .i64 0, .int .i64 0, .int .i64 0, .int .i64 0]) ?_ 3 _ rfl; (with_reducible repeat (first | refine blk_drewN ?_ _ | refine blk_drew ?_ | refine blk_alloc ?_ _)); refine blk_put (cs := #[.string t376, .string t377, .int .i64 0, .bool false, .int .i64 0, .int .i64 0, .int .i64 0, .int .i64 0]) ?_ 2 _ rfl; (with_reducible repeat (first | refine blk_drewN ?_ _ | refine blk_drew ?_ | refine blk_alloc ?_ _)); refine blk_put (cs := #[.string t376, .string (⟨#[]⟩ : ByteArray), .int .i64 0, .bool false, .int .i64 0, .int .i64 0, .int .i64 0, .int .i64 0]) ?_ 1 _ rfl; (with_reducible repeat (first | refine blk_drewN ?_ _ | refine blk_drew ?_ | refine blk_alloc ?_ _)); exact blk_put (cs := #[.string (⟨#[]⟩ : ByteArray), .string (⟨#[]⟩ : ByteArray), .int .i64 0, .bool false, .int .i64 0, .int .i64 0, .int .i64 0, .int .i64 0]) bk 0 _ rfl) hb); have n3_ := Aside0.mk (below_step bwS hb); clear BK364; clear BK374; clear BK385; clear HB; have BK364 := n0_; have BK374 := n1_; have BK385 := n2_; have HB := n3_; clear n0_ n1_ n2_ n3_; (try clear hb); (try clear hb2); (try clear hk); (try clear hi)))
        go_meet
        case rel => exact ⟨_, (true), cl, H', ⟨by have := HJ4.out; first | omega | exact Nat.le_refl _⟩, ⟨bk⟩, ⟨bk⟩, ⟨bk⟩, ⟨bwS⟩⟩
      ·replace c30 := Bool.eq_false_iff.mpr c30; subst c30; have H1 : (bulletinlaw33_RosterBack.j1 kj4 a1 false) = some r := by rw [if_neg (show ¬ (false = true) by decide)] at H; exact H
       clear H; have H := H1; clear H1; have H' := Aside0.mk H; clear H; have hnb43 := NB374_364.out; have hnc43 := NB364_374.out; have hnb44 := NB374_385.out; have hnc44 := NB385_374.out; have hcz45_0 : w25.cell? ⟨gb374, 0, none⟩ = some (.string t366) := (blk_cell BK374.out 0).trans rfl; have hcz45_1 : w25.cell? ⟨gb374, 1, none⟩ = some (.string t367) := (blk_cell BK374.out 1).trans rfl; have hcz45_2 : w25.cell? ⟨gb374, 2, none⟩ = some (.int .i64 t368) := (blk_cell BK374.out 2).trans rfl; have hcz45_3 : w25.cell? ⟨gb374, 3, none⟩ = some (.bool t369) := (blk_cell BK374.out 3).trans rfl; have hcz45_4 : w25.cell? ⟨gb374, 4, none⟩ = some (.int .i64 t370) := (blk_cell BK374.out 4).trans rfl; have hcz45_5 : w25.cell? ⟨gb374, 5, none⟩ = some (.int .i64 t371) := (blk_cell BK374.out 5).trans rfl; have hcz45_6 : w25.cell? ⟨gb374, 6, none⟩ = some (.int .i64 t372) := (blk_cell BK374.out 6).trans rfl; have hcz45_7 : w25.cell? ⟨gb374, 7, none⟩ = some (.int .i64 t373) := (blk_cell BK374.out 7).trans rfl; have hfz45_0 := blk_frozen BK374.out 0; have hfz45_1 := blk_frozen BK374.out 1; have hfz45_2 := blk_frozen BK374.out 2; have hfz45_3 := blk_frozen BK374.out 3; have hfz45_4 := blk_frozen BK374.out 4; have hfz45_5 := blk_frozen BK374.out 5; have hfz45_6 := blk_frozen BK374.out 6; have hfz45_7 := blk_frozen BK374.out 7
       go_wp2_with (first | ((with_reducible refine gate_callee (f := 9) rfl ?_); refine goesL_ (some 38) rfl rfl Tryd.func9 (by kernel_rfl) rfl #[.agg #[.string t366, .string t367, .int .i64 t368, .bool t369, .int .i64 t370, .int .i64 t371, .int .i64 t372, .int .i64 t373]] rfl am ?_; (with_reducible refine (roster_Member_Sound.calls kj4 t366 t367 t368 t369 t370 t371 t372 t373 false _ A29.out).mono ?_); rintro e w46 ⟨rfl, hb⟩; refine ⟨_, rfl, ?_⟩; have n0_ := Aside0.mk (blk_below (g := gb364) (o := .cells #[.string a0_0, .string a0_1, .int .i64 a0_2, .bool a0_3, .int .i64 a0_4, .int .i64 a0_5, .int .i64 a0_6, .int .i64 a0_7] 25 (0, 0)) (by (with_reducible repeat (first | refine blk_drewN ?_ _ | refine blk_drew ?_ | refine blk_alloc ?_ _)); refine blk_far ?_ NB364_385.out _; (with_reducible repeat (first | refine blk_drewN ?_ _ | refine blk_drew ?_ | refine blk_alloc ?_ _)); refine blk_far ?_ NB364_385.out _; (with_reducible repeat (first | refine blk_drewN ?_ _ | refine blk_drew ?_ | refine blk_alloc ?_ _)); refine blk_far ?_ NB364_385.out _; (with_reducible repeat (first | refine blk_drewN ?_ _ | refine blk_drew ?_ | refine blk_alloc ?_ _)); refine blk_far ?_ NB364_385.out _; (with_reducible repeat (first | refine blk_drewN ?_ _ | refine blk_drew ?_ | refine blk_alloc ?_ _)); refine blk_far ?_ NB364_385.out _; (with_reducible repeat (first | refine blk_drewN ?_ _ | refine blk_drew ?_ | refine blk_alloc ?_ _)); refine blk_far ?_ NB364_385.out _; (with_reducible repeat (first | refine blk_drewN ?_ _ | refine blk_drew ?_ | refine blk_alloc ?_ _)); refine blk_far ?_ NB364_385.out _; (with_reducible repeat (first | refine blk_drewN ?_ _ | refine blk_drew ?_ | refine blk_alloc ?_ _)); refine blk_far ?_ NB364_385.out _; (with_reducible repeat (first | refine blk_drewN ?_ _ | refine blk_drew ?_ | refine blk_alloc ?_ _)); exact BK364.out) hb); have n1_ := Aside0.mk (blk_below (g := gb374) (o := .cells #[.string t366, .string t367, .int .i64 t368, .bool t369, .int .i64 t370, .int .i64 t371, .int .i64 t372, .int .i64 t373] 29 (0, 0)) (by (with_reducible repeat (first | refine blk_drewN ?_ _ | refine blk_drew ?_ | refine blk_alloc ?_ _)); refine blk_far ?_ NB374_385.out _; (with_reducible repeat (first | refine blk_drewN ?_ _ | refine blk_drew ?_ | refine blk_alloc ?_ _)); refine blk_far ?_ NB374_385.out _; (with_reducible repeat (first | refine blk_drewN ?_ _ | refine blk_drew ?_ | refine blk_alloc ?_ _)); refine blk_far ?_ NB374_385.out _; (with_reducible repeat (first | refine blk_drewN ?_ _ | refine blk_drew ?_ | refine blk_alloc ?_ _)); refine blk_far ?_ NB374_385.out _; (with_reducible repeat (first | refine blk_drewN ?_ _ | refine blk_drew ?_ | refine blk_alloc ?_ _)); refine blk_far ?_ NB374_385.out _; (with_reducible repeat (first | refine blk_drewN ?_ _ | refine blk_drew ?_ | refine blk_alloc ?_ _)); refine blk_far ?_ NB374_385.out _; (with_reducible repeat (first | refine blk_drewN ?_ _ | refine blk_drew ?_ | refine blk_alloc ?_ _)); refine blk_far ?_ NB374_385.out _; (with_reducible repeat (first | refine blk_drewN ?_ _ | refine blk_drew ?_ | refine blk_alloc ?_ _)); refine blk_far ?_ NB374_385.out _; (with_reducible repeat (first | refine blk_drewN ?_ _ | refine blk_drew ?_ | refine blk_alloc ?_ _)); exact BK374.out) hb); have n2_ := Aside0.mk (blk_below (g := gb385) (o := .cells #[.string t376, .string t377, .int .i64 t378, .bool t379, .int .i64 t380, .int .i64 t381, .int .i64 t382, .int .i64 t383] 29 (0, 0)) (by (with_reducible repeat (first | refine blk_drewN ?_ _ | refine blk_drew ?_ | refine blk_alloc ?_ _)); refine blk_put (cs := #[.string t376, .string t377, .int .i64 t378, .bool t379, .int .i64 t380, .int .i64 t381, .int .i64 t382, .int .i64 0]) ?_ 7 _ rfl; (with_reducible repeat (first | refine blk_drewN ?_ _ | refine blk_drew ?_ | refine blk_alloc ?_ _)); refine blk_put (cs := #[.string t376, .string t377, .int .i64 t378, .bool t379, .int .i64 t380, .int .i64 t381, .int .i64 0, .int .i64 0]) ?_ 6 _ rfl; (with_reducible repeat (first | refine blk_drewN ?_ _ | refine blk_drew ?_ | refine blk_alloc ?_ _)); refine blk_put (cs := #[.string t376, .string t377, .int .i64 t378, .bool t379, .int .i64 t380, .int .i64 0, .int .i64 0, .int .i64 0]) ?_ 5 _ rfl; (with_reducible repeat (first | refine blk_drewN ?_ _ | refine blk_drew ?_ | refine blk_alloc ?_ _)); refine blk_put (cs := #[.string t376, .string t377, .int .i64 t378, .bool t379, .int .i64 0, .int .i64 0, .int .i64 0, .int .i64 0]) ?_ 4 _ rfl; (with_reducible repeat (first | refine blk_drewN ?_ _ | refine blk_drew ?_ | refine blk_alloc ?_ _)); refine blk_put (cs := #[.string t376, .string t377, .int .i64 t378, .bool false, .int .i64 0, .int .i64 0, .int .i64 0, .int .i64 0]) ?_ 3 _ rfl; (with_reducible repeat (first | refine blk_drewN ?_ _ | refine blk_drew ?_ | refine blk_alloc ?_ _)); refine blk_put (cs := #[.string t376, .string t377, .int .i64 0, .bool false, .int .i64 0, .int .i64 0, .int .i64 0, .int .i64 0]) ?_ 2 _ rfl; (with_reducible repeat (first | refine blk_drewN ?_ _ | refine blk_drew ?_ | refine blk_alloc ?_ _)); refine blk_put (cs := #[.string t376, .string (⟨#[]⟩ : ByteArray), .int .i64 0, .bool false, .int .i64 0, .int .i64 0, .int .i64 0, .int .i64 0]) ?_ 1 _ rfl; (with_reducible repeat (first | refine blk_drewN ?_ _ | refine blk_drew ?_ | refine blk_alloc ?_ _)); exact blk_put (cs := #[.string (⟨#[]⟩ : ByteArray), .string (⟨#[]⟩ : ByteArray), .int .i64 0, .bool false, .int .i64 0, .int .i64 0, .int .i64 0, .int .i64 0]) bk 0 _ rfl) hb); have n3_ := Aside0.mk (below_step bwS hb); clear BK364; clear BK374; clear BK385; clear HB; have BK364 := n0_; have BK374 := n1_; have BK385 := n2_; have HB := n3_; clear n0_ n1_ n2_ n3_; (try clear hb); (try clear hb2); (try clear hk); (try clear hi)))
       go_meet
       case rel => exact ⟨_, (false), cl, H', ⟨by have := HJ4.out; first | omega | exact Nat.le_refl _⟩, ⟨bk⟩, ⟨bk⟩, ⟨bk⟩, ⟨bwS⟩⟩
     case rest =>
      clear HC17
      try clear c1
      try clear c2
      try clear p2
      try clear c3
      try clear c4
      try clear c5
      try clear c6
      try clear c7
      try clear c8
      try clear c8b0
      try clear c8b1
      try clear c9
      try clear c10
      try clear c10b0
      try clear c10b1
      try clear c13
      try clear c21
      try clear c26
      try clear c27
      try clear c30
      try clear c31
      try clear c31b0
      try clear c31b1
      try clear c32
      try clear c33
      try clear c36
      try clear c39
      try clear c40
      try clear c43
      try clear c44
      try clear hcz11_0
      try clear hcz11_1
      try clear hcz11_2
      try clear hcz11_3
      try clear hcz11_4
      try clear hcz11_5
      try clear hcz11_6
      try clear hcz11_7
      try clear hcz12_0
      try clear hcz12_1
      try clear hcz12_2
      try clear hcz12_3
      try clear hcz12_4
      try clear hcz12_5
      try clear hcz12_6
      try clear hcz12_7
      try clear hcz18_0
      try clear hcz18_1
      try clear hcz18_2
      try clear hcz18_3
      try clear hcz18_4
      try clear hcz18_5
      try clear hcz18_6
      try clear hcz18_7
      try clear hcz22_0
      try clear hcz22_1
      try clear hcz22_2
      try clear hcz22_3
      try clear hcz22_4
      try clear hcz22_5
      try clear hcz22_6
      try clear hcz22_7
      try clear hcz28_0
      try clear hcz28_1
      try clear hcz28_2
      try clear hcz28_3
      try clear hcz28_4
      try clear hcz28_5
      try clear hcz28_6
      try clear hcz28_7
      try clear hcz34_0
      try clear hcz34_1
      try clear hcz34_2
      try clear hcz34_3
      try clear hcz34_4
      try clear hcz34_5
      try clear hcz34_6
      try clear hcz34_7
      try clear hcz37_0
      try clear hcz37_1
      try clear hcz37_2
      try clear hcz37_3
      try clear hcz37_4
      try clear hcz37_5
      try clear hcz37_6
      try clear hcz37_7
      try clear hcz38_0
      try clear hcz38_1
      try clear hcz38_2
      try clear hcz38_3
      try clear hcz38_4
      try clear hcz38_5
      try clear hcz38_6
      try clear hcz38_7
      try clear hcz41_0
      try clear hcz41_1
      try clear hcz41_2
      try clear hcz41_3
      try clear hcz41_4
      try clear hcz41_5
      try clear hcz41_6
      try clear hcz41_7
      try clear hcz45_0
      try clear hcz45_1
      try clear hcz45_2
      try clear hcz45_3
      try clear hcz45_4
      try clear hcz45_5
      try clear hcz45_6
      try clear hcz45_7
      try clear hcz9_0
      try clear hcz9_1
      try clear hcz9_2
      try clear hcz9_3
      try clear hcz9_4
      try clear hcz9_5
      try clear hcz9_6
      try clear hcz9_7
      try clear hfz11_0
      try clear hfz11_1
      try clear hfz11_2
      try clear hfz11_3
      try clear hfz11_4
      try clear hfz11_5
      try clear hfz11_6
      try clear hfz11_7
      try clear hfz12_0
      try clear hfz12_1
      try clear hfz12_2
      try clear hfz12_3
      try clear hfz12_4
      try clear hfz12_5
      try clear hfz12_6
      try clear hfz12_7
      try clear hfz18_0
      try clear hfz18_1
      try clear hfz18_2
      try clear hfz18_3
      try clear hfz18_4
      try clear hfz18_5
      try clear hfz18_6
      try clear hfz18_7
      try clear hfz22_0
      try clear hfz22_1
      try clear hfz22_2
      try clear hfz22_3
      try clear hfz22_4
      try clear hfz22_5
      try clear hfz22_6
      try clear hfz22_7
      try clear hfz28_0
      try clear hfz28_1
      try clear hfz28_2
      try clear hfz28_3
      try clear hfz28_4
      try clear hfz28_5
      try clear hfz28_6
      try clear hfz28_7
      try clear hfz34_0
      try clear hfz34_1
      try clear hfz34_2
      try clear hfz34_3
      try clear hfz34_4
      try clear hfz34_5
      try clear hfz34_6
      try clear hfz34_7
      try clear hfz37_0
      try clear hfz37_1
      try clear hfz37_2
      try clear hfz37_3
      try clear hfz37_4
      try clear hfz37_5
      try clear hfz37_6
      try clear hfz37_7
      try clear hfz38_0
      try clear hfz38_1
      try clear hfz38_2
      try clear hfz38_3
      try clear hfz38_4
      try clear hfz38_5
      try clear hfz38_6
      try clear hfz38_7
      try clear hfz41_0
      try clear hfz41_1
      try clear hfz41_2
      try clear hfz41_3
      try clear hfz41_4
      try clear hfz41_5
      try clear hfz41_6
      try clear hfz41_7
      try clear hfz45_0
      try clear hfz45_1
      try clear hfz45_2
      try clear hfz45_3
      try clear hfz45_4
      try clear hfz45_5
      try clear hfz45_6
      try clear hfz45_7
      try clear hfz9_0
      try clear hfz9_1
      try clear hfz9_2
      try clear hfz9_3
      try clear hfz9_4
      try clear hfz9_5
      try clear hfz9_6
      try clear hfz9_7
      try clear p2
      obtain ⟨kq, x47_16, rfl, HA, HJ16, BK364, BK374, BK385, HB⟩ := hcut; cases kq with
      | zero => exact absurd HA.out (by simp [bulletinlaw33_RosterBack.j1])
      | succ kj16 =>
       have H := HA.out; clear HA; simp only [bulletinlaw33_RosterBack.j1] at H
       by_cases c47 : x47_16 = true
       ·subst c47; have H1 : (some false) = some r := by rw [if_pos rfl] at H; exact H
        clear H; have H := H1; clear H1; obtain rfl := Option.some.inj H; exact absurd HT.out (by decide)
       ·replace c47 := Bool.eq_false_iff.mpr c47; subst c47; have H1 : ((roster_Read.f kj16 a1).bind fun bt387 => (if bt387.2.2.2.2.2.2.2.2 = 0 then ((roster_Member_Sound.f kj16 bt387.1 bt387.2.1 bt387.2.2.1 bt387.2.2.2.1 bt387.2.2.2.2.1 bt387.2.2.2.2.2.1 bt387.2.2.2.2.2.2.1 bt387.2.2.2.2.2.2.2.1).bind fun t397 => (if t397 = true then ((roster_Member_Row.f kj16 bt387.1 bt387.2.1 bt387.2.2.1 bt387.2.2.2.1 bt387.2.2.2.2.1 bt387.2.2.2.2.2.1 bt387.2.2.2.2.2.2.1 bt387.2.2.2.2.2.2.2.1).bind fun t398 => (some (t398.toList == a1.toList))) else (some false))) else (if ((bt387.1.toList == ([] : List UInt8) && (bt387.2.1.toList == ([] : List UInt8))) && (bt387.2.2.1 == 0 && (!bt387.2.2.2.1 && (bt387.2.2.2.2.1 == 0 && (bt387.2.2.2.2.2.1 == 0 && (bt387.2.2.2.2.2.2.1 == 0 && (bt387.2.2.2.2.2.2.2.1 == 0))))))) = true then (some true) else (some false)))) = some r := by rw [if_neg (show ¬ (false = true) by decide)] at H; exact H
        clear H; have H := H1; clear H1; replace H := Option.bind_eq_some_iff.mp H; obtain ⟨⟨t387, t388, t389, t390, t391, t392, t393, t394, t395⟩, A480, H⟩ := H; replace H : (if t395 = 0 then ((roster_Member_Sound.f kj16 t387 t388 t389 t390 t391 t392 t393 t394).bind fun t397 => (if t397 = true then ((roster_Member_Row.f kj16 t387 t388 t389 t390 t391 t392 t393 t394).bind fun t398 => (some (t398.toList == a1.toList))) else (some false))) else (if ((t387.toList == ([] : List UInt8) && (t388.toList == ([] : List UInt8))) && (t389 == 0 && (!t390 && (t391 == 0 && (t392 == 0 && (t393 == 0 && (t394 == 0))))))) = true then (some true) else (some false))) = some r := H; have A48 := Aside0.mk A480; clear A480
        by_cases c49 : t395 = 0
        ·rw [if_pos c49] at H; have c49b0 : (t395 == 0) = true := beq_iff_eq.mpr c49; have c49b1 : (t395 != 0) = false := bne_eq_false_iff_eq.mpr c49; clear c49; replace H := Option.bind_eq_some_iff.mp H; obtain ⟨t397, A500, H⟩ := H; replace H : (if t397 = true then ((roster_Member_Row.f kj16 t387 t388 t389 t390 t391 t392 t393 t394).bind fun t398 => (some (t398.toList == a1.toList))) else (some false)) = some r := H; have A50 := Aside0.mk A500; clear A500
         by_cases c51 : t397 = true
         ·subst c51; have H1 : ((roster_Member_Row.f kj16 t387 t388 t389 t390 t391 t392 t393 t394).bind fun t398 => (some (t398.toList == a1.toList))) = some r := by rw [if_pos rfl] at H; exact H
          clear H; have H := H1; clear H1; replace H := Option.bind_eq_some_iff.mp H; obtain ⟨t398, A520, H⟩ := H; replace H : (some (t398.toList == a1.toList)) = some r := H; have A52 := Aside0.mk A520; clear A520; obtain rfl := Option.some.inj H
          go_wp2_with (first | ((with_reducible refine gate_callee (f := 7) rfl ?_); refine goesL_ (some 50) rfl rfl Tryd.func7 (by kernel_rfl) rfl #[.string a1] rfl am ?_; (with_reducible refine (roster_Read.calls (hG := by first | exact hG | exact GlobT.below hG (by first | exact HB.out | (repeat (first | (with_reducible first | exact HB.out | apply below_alloc | apply pw_below_drewN | apply below_drew1 | refine below_set ?_ GE364.out | refine below_set ?_ GE374.out | refine below_set ?_ GE385.out | refine below_set ?_ GE396.out) | exact HB.out))) | exact GlobT.drawn hG (d0)) kj16 a1 t387 t388 t389 t390 t391 t392 t393 t394 t395 _ A48.out).mono ?_); rintro e w53 ⟨rfl, hb⟩; refine ⟨_, rfl, ?_⟩; have n0_ := Aside0.mk (blk_below (g := gb364) (o := .cells #[.string a0_0, .string a0_1, .int .i64 a0_2, .bool a0_3, .int .i64 a0_4, .int .i64 a0_5, .int .i64 a0_6, .int .i64 a0_7] 25 (0, 0)) bk hb); have n1_ := Aside0.mk (blk_below (g := gb374) (o := .cells #[.string t366, .string t367, .int .i64 t368, .bool t369, .int .i64 t370, .int .i64 t371, .int .i64 t372, .int .i64 t373] 29 (0, 0)) bk hb); have n2_ := Aside0.mk (blk_below (g := gb385) (o := .cells #[.string t376, .string t377, .int .i64 t378, .bool t379, .int .i64 t380, .int .i64 t381, .int .i64 t382, .int .i64 t383] 29 (0, 0)) bk hb); have n3_ := Aside0.mk (below_step bwS hb); clear BK364; clear BK374; clear BK385; clear HB; have BK364 := n0_; have BK374 := n1_; have BK385 := n2_; have HB := n3_; clear n0_ n1_ n2_ n3_; (try clear hb); (try clear hb2); (try clear hk); (try clear hi)) | ((with_reducible refine gate_dst (N := 8) rfl ?_); (try (refine gate_guard (by rfl) ?_; dsimp only)); refine box_event ?hg (N := 8) ?hd (cs := #[.string (⟨#[]⟩ : ByteArray), .string (⟨#[]⟩ : ByteArray), .int .i64 0, .bool false, .int .i64 0, .int .i64 0, .int .i64 0, .int .i64 0]) (t := 29) ?hr ?_; (case hd => rfl); (case hg => rfl); (case hr => first | (go_simp; done) | (go_simp; rfl)); intro gb396 hg w54 hbox hb; have n0_ := Aside0.mk (blk_below (g := gb364) (o := .cells #[.string a0_0, .string a0_1, .int .i64 a0_2, .bool a0_3, .int .i64 a0_4, .int .i64 a0_5, .int .i64 a0_6, .int .i64 a0_7] 25 (0, 0)) bk hb); have n1_ := Aside0.mk (blk_below (g := gb374) (o := .cells #[.string t366, .string t367, .int .i64 t368, .bool t369, .int .i64 t370, .int .i64 t371, .int .i64 t372, .int .i64 t373] 29 (0, 0)) bk hb); have n2_ := Aside0.mk (blk_below (g := gb385) (o := .cells #[.string t376, .string t377, .int .i64 t378, .bool t379, .int .i64 t380, .int .i64 t381, .int .i64 t382, .int .i64 t383] 29 (0, 0)) bk hb); have n3_ := Aside0.mk (below_step bwS hb); have n4_ := Aside0.mk (hbox); have n5_ := Aside0.mk ((by rw [hg]; exact (below_size bwS) : w.heap.size ≤ gb396)); have n6_ := Aside0.mk ((by rw [hg]; exact (below_size bwS) : w.heap.size ≤ gb396)); have n7_ := Aside0.mk ((by rw [hg]; exact Nat.ne_of_lt (blk_lt (g := gb364) (o := .cells #[.string a0_0, .string a0_1, .int .i64 a0_2, .bool a0_3, .int .i64 a0_4, .int .i64 a0_5, .int .i64 a0_6, .int .i64 a0_7] 25 (0, 0)) bk) : gb364 ≠ gb396)); have n8_ := Aside0.mk ((by rw [hg]; exact Nat.ne_of_gt (blk_lt (g := gb364) (o := .cells #[.string a0_0, .string a0_1, .int .i64 a0_2, .bool a0_3, .int .i64 a0_4, .int .i64 a0_5, .int .i64 a0_6, .int .i64 a0_7] 25 (0, 0)) bk) : gb396 ≠ gb364)); have n9_ := Aside0.mk ((by rw [hg]; exact Nat.ne_of_lt (blk_lt (g := gb374) (o := .cells #[.string t366, .string t367, .int .i64 t368, .bool t369, .int .i64 t370, .int .i64 t371, .int .i64 t372, .int .i64 t373] 29 (0, 0)) bk) : gb374 ≠ gb396)); have n10_ := Aside0.mk ((by rw [hg]; exact Nat.ne_of_gt (blk_lt (g := gb374) (o := .cells #[.string t366, .string t367, .int .i64 t368, .bool t369, .int .i64 t370, .int .i64 t371, .int .i64 t372, .int .i64 t373] 29 (0, 0)) bk) : gb396 ≠ gb374)); have n11_ := Aside0.mk ((by rw [hg]; exact Nat.ne_of_lt (blk_lt (g := gb385) (o := .cells #[.string t376, .string t377, .int .i64 t378, .bool t379, .int .i64 t380, .int .i64 t381, .int .i64 t382, .int .i64 t383] 29 (0, 0)) bk) : gb385 ≠ gb396)); have n12_ := Aside0.mk ((by rw [hg]; exact Nat.ne_of_gt (blk_lt (g := gb385) (o := .cells #[.string t376, .string t377, .int .i64 t378, .bool t379, .int .i64 t380, .int .i64 t381, .int .i64 t382, .int .i64 t383] 29 (0, 0)) bk) : gb396 ≠ gb385)); clear BK364; clear BK374; clear BK385; clear HB; have BK364 := n0_; have BK374 := n1_; have BK385 := n2_; have HB := n3_; have BK396 := n4_; have GW396 := n5_; have GE396 := n6_; have NB364_396 := n7_; have NB396_364 := n8_; have NB374_396 := n9_; have NB396_374 := n10_; have NB385_396 := n11_; have NB396_385 := n12_; clear n0_ n1_ n2_ n3_ n4_ n5_ n6_ n7_ n8_ n9_ n10_ n11_ n12_; clear hb hbox hg; have hnb55 := NB396_364.out; have hnc55 := NB364_396.out; have hnb56 := NB396_374.out; have hnc56 := NB374_396.out; have hnb57 := NB396_385.out; have hnc57 := NB385_396.out; have hcz58_0 : w54.cell? ⟨gb396, 0, none⟩ = some (.string (⟨#[]⟩ : ByteArray)) := (blk_cell BK396.out 0).trans rfl; have hcz58_1 : w54.cell? ⟨gb396, 1, none⟩ = some (.string (⟨#[]⟩ : ByteArray)) := (blk_cell BK396.out 1).trans rfl; have hcz58_2 : w54.cell? ⟨gb396, 2, none⟩ = some (.int .i64 0) := (blk_cell BK396.out 2).trans rfl; have hcz58_3 : w54.cell? ⟨gb396, 3, none⟩ = some (.bool false) := (blk_cell BK396.out 3).trans rfl; have hcz58_4 : w54.cell? ⟨gb396, 4, none⟩ = some (.int .i64 0) := (blk_cell BK396.out 4).trans rfl; have hcz58_5 : w54.cell? ⟨gb396, 5, none⟩ = some (.int .i64 0) := (blk_cell BK396.out 5).trans rfl; have hcz58_6 : w54.cell? ⟨gb396, 6, none⟩ = some (.int .i64 0) := (blk_cell BK396.out 6).trans rfl; have hcz58_7 : w54.cell? ⟨gb396, 7, none⟩ = some (.int .i64 0) := (blk_cell BK396.out 7).trans rfl; have hfz58_0 := blk_frozen BK396.out 0; have hfz58_1 := blk_frozen BK396.out 1; have hfz58_2 := blk_frozen BK396.out 2; have hfz58_3 := blk_frozen BK396.out 3; have hfz58_4 := blk_frozen BK396.out 4; have hfz58_5 := blk_frozen BK396.out 5; have hfz58_6 := blk_frozen BK396.out 6; have hfz58_7 := blk_frozen BK396.out 7) | (go_at_call 9; (with_reducible refine (roster_Member_Sound.calls kj16 t387 t388 t389 t390 t391 t392 t393 t394 true _ A50.out).mono ?_); rintro e w59 ⟨rfl, hb⟩; have n0_ := Aside0.mk (blk_below (g := gb364) (o := .cells #[.string a0_0, .string a0_1, .int .i64 a0_2, .bool a0_3, .int .i64 a0_4, .int .i64 a0_5, .int .i64 a0_6, .int .i64 a0_7] 25 (0, 0)) (by (with_reducible repeat (first | refine blk_drewN ?_ _ | refine blk_drew ?_ | refine blk_alloc ?_ _)); refine blk_far ?_ NB364_396.out _; (with_reducible repeat (first | refine blk_drewN ?_ _ | refine blk_drew ?_ | refine blk_alloc ?_ _)); refine blk_far ?_ NB364_396.out _; (with_reducible repeat (first | refine blk_drewN ?_ _ | refine blk_drew ?_ | refine blk_alloc ?_ _)); refine blk_far ?_ NB364_396.out _; (with_reducible repeat (first | refine blk_drewN ?_ _ | refine blk_drew ?_ | refine blk_alloc ?_ _)); refine blk_far ?_ NB364_396.out _; (with_reducible repeat (first | refine blk_drewN ?_ _ | refine blk_drew ?_ | refine blk_alloc ?_ _)); refine blk_far ?_ NB364_396.out _; (with_reducible repeat (first | refine blk_drewN ?_ _ | refine blk_drew ?_ | refine blk_alloc ?_ _)); refine blk_far ?_ NB364_396.out _; (with_reducible repeat (first | refine blk_drewN ?_ _ | refine blk_drew ?_ | refine blk_alloc ?_ _)); refine blk_far ?_ NB364_396.out _; (with_reducible repeat (first | refine blk_drewN ?_ _ | refine blk_drew ?_ | refine blk_alloc ?_ _)); refine blk_far ?_ NB364_396.out _; (with_reducible repeat (first | refine blk_drewN ?_ _ | refine blk_drew ?_ | refine blk_alloc ?_ _)); exact BK364.out) hb); have n1_ := Aside0.mk (blk_below (g := gb374) (o := .cells #[.string t366, .string t367, .int .i64 t368, .bool t369, .int .i64 t370, .int .i64 t371, .int .i64 t372, .int .i64 t373] 29 (0, 0)) (by (with_reducible repeat (first | refine blk_drewN ?_ _ | refine blk_drew ?_ | refine blk_alloc ?_ _)); refine blk_far ?_ NB374_396.out _; (with_reducible repeat (first | refine blk_drewN ?_ _ | refine blk_drew ?_ | refine blk_alloc ?_ _)); refine blk_far ?_ NB374_396.out _; (with_reducible repeat (first | refine blk_drewN ?_ _ | refine blk_drew ?_ | refine blk_alloc ?_ _)); refine blk_far ?_ NB374_396.out _; (with_reducible repeat (first | refine blk_drewN ?_ _ | refine blk_drew ?_ | refine blk_alloc ?_ _)); refine blk_far ?_ NB374_396.out _; (with_reducible repeat (first | refine blk_drewN ?_ _ | refine blk_drew ?_ | refine blk_alloc ?_ _)); refine blk_far ?_ NB374_396.out _; (with_reducible repeat (first | refine blk_drewN ?_ _ | refine blk_drew ?_ | refine blk_alloc ?_ _)); refine blk_far ?_ NB374_396.out _; (with_reducible repeat (first | refine blk_drewN ?_ _ | refine blk_drew ?_ | refine blk_alloc ?_ _)); refine blk_far ?_ NB374_396.out _; (with_reducible repeat (first | refine blk_drewN ?_ _ | refine blk_drew ?_ | refine blk_alloc ?_ _)); refine blk_far ?_ NB374_396.out _; (with_reducible repeat (first | refine blk_drewN ?_ _ | refine blk_drew ?_ | refine blk_alloc ?_ _)); exact BK374.out) hb); have n2_ := Aside0.mk (blk_below (g := gb385) (o := .cells #[.string t376, .string t377, .int .i64 t378, .bool t379, .int .i64 t380, .int .i64 t381, .int .i64 t382, .int .i64 t383] 29 (0, 0)) (by (with_reducible repeat (first | refine blk_drewN ?_ _ | refine blk_drew ?_ | refine blk_alloc ?_ _)); refine blk_far ?_ NB385_396.out _; (with_reducible repeat (first | refine blk_drewN ?_ _ | refine blk_drew ?_ | refine blk_alloc ?_ _)); refine blk_far ?_ NB385_396.out _; (with_reducible repeat (first | refine blk_drewN ?_ _ | refine blk_drew ?_ | refine blk_alloc ?_ _)); refine blk_far ?_ NB385_396.out _; (with_reducible repeat (first | refine blk_drewN ?_ _ | refine blk_drew ?_ | refine blk_alloc ?_ _)); refine blk_far ?_ NB385_396.out _; (with_reducible repeat (first | refine blk_drewN ?_ _ | refine blk_drew ?_ | refine blk_alloc ?_ _)); refine blk_far ?_ NB385_396.out _; (with_reducible repeat (first | refine blk_drewN ?_ _ | refine blk_drew ?_ | refine blk_alloc ?_ _)); refine blk_far ?_ NB385_396.out _; (with_reducible repeat (first | refine blk_drewN ?_ _ | refine blk_drew ?_ | refine blk_alloc ?_ _)); refine blk_far ?_ NB385_396.out _; (with_reducible repeat (first | refine blk_drewN ?_ _ | refine blk_drew ?_ | refine blk_alloc ?_ _)); refine blk_far ?_ NB385_396.out _; (with_reducible repeat (first | refine blk_drewN ?_ _ | refine blk_drew ?_ | refine blk_alloc ?_ _)); exact BK385.out) hb); have n3_ := Aside0.mk (blk_below (g := gb396) (o := .cells #[.string t387, .string t388, .int .i64 t389, .bool t390, .int .i64 t391, .int .i64 t392, .int .i64 t393, .int .i64 t394] 29 (0, 0)) (by (with_reducible repeat (first | refine blk_drewN ?_ _ | refine blk_drew ?_ | refine blk_alloc ?_ _)); refine blk_put (cs := #[.string t387, .string t388, .int .i64 t389, .bool t390, .int .i64 t391, .int .i64 t392, .int .i64 t393, .int .i64 0]) ?_ 7 _ rfl; (with_reducible repeat (first | refine blk_drewN ?_ _ | refine blk_drew ?_ | refine blk_alloc ?_ _)); refine blk_put (cs := #[.string t387, .string t388, .int .i64 t389, .bool t390, .int .i64 t391, .int .i64 t392, .int .i64 0, .int .i64 0]) ?_ 6 _ rfl; (with_reducible repeat (first | refine blk_drewN ?_ _ | refine blk_drew ?_ | refine blk_alloc ?_ _)); refine blk_put (cs := #[.string t387, .string t388, .int .i64 t389, .bool t390, .int .i64 t391, .int .i64 0, .int .i64 0, .int .i64 0]) ?_ 5 _ rfl; (with_reducible repeat (first | refine blk_drewN ?_ _ | refine blk_drew ?_ | refine blk_alloc ?_ _)); refine blk_put (cs := #[.string t387, .string t388, .int .i64 t389, .bool t390, .int .i64 0, .int .i64 0, .int .i64 0, .int .i64 0]) ?_ 4 _ rfl; (with_reducible repeat (first | refine blk_drewN ?_ _ | refine blk_drew ?_ | refine blk_alloc ?_ _)); refine blk_put (cs := #[.string t387, .string t388, .int .i64 t389, .bool false, .int .i64 0, .int .i64 0, .int .i64 0, .int .i64 0]) ?_ 3 _ rfl; (with_reducible repeat (first | refine blk_drewN ?_ _ | refine blk_drew ?_ | refine blk_alloc ?_ _)); refine blk_put (cs := #[.string t387, .string t388, .int .i64 0, .bool false, .int .i64 0, .int .i64 0, .int .i64 0, .int .i64 0]) ?_ 2 _ rfl; (with_reducible repeat (first | refine blk_drewN ?_ _ | refine blk_drew ?_ | refine blk_alloc ?_ _)); refine blk_put (cs := #[.string t387, .string (⟨#[]⟩ : ByteArray), .int .i64 0, .bool false, .int .i64 0, .int .i64 0, .int .i64 0, .int .i64 0]) ?_ 1 _ rfl; (with_reducible repeat (first | refine blk_drewN ?_ _ | refine blk_drew ?_ | refine blk_alloc ?_ _)); exact blk_put (cs := #[.string (⟨#[]⟩ : ByteArray), .string (⟨#[]⟩ : ByteArray), .int .i64 0, .bool false, .int .i64 0, .int .i64 0, .int .i64 0, .int .i64 0]) bk 0 _ rfl) hb); have n4_ := Aside0.mk (below_step bwS hb); clear BK364; clear BK374; clear BK385; clear BK396; clear HB; have BK364 := n0_; have BK374 := n1_; have BK385 := n2_; have BK396 := n3_; have HB := n4_; clear n0_ n1_ n2_ n3_ n4_; (try clear hb); (try clear hb2); (try clear hk); (try clear hi); have hcz60_0 : w59.cell? ⟨gb396, 0, none⟩ = some (.string t387) := (blk_cell BK396.out 0).trans rfl; have hcz60_1 : w59.cell? ⟨gb396, 1, none⟩ = some (.string t388) := (blk_cell BK396.out 1).trans rfl; have hcz60_2 : w59.cell? ⟨gb396, 2, none⟩ = some (.int .i64 t389) := (blk_cell BK396.out 2).trans rfl; have hcz60_3 : w59.cell? ⟨gb396, 3, none⟩ = some (.bool t390) := (blk_cell BK396.out 3).trans rfl; have hcz60_4 : w59.cell? ⟨gb396, 4, none⟩ = some (.int .i64 t391) := (blk_cell BK396.out 4).trans rfl; have hcz60_5 : w59.cell? ⟨gb396, 5, none⟩ = some (.int .i64 t392) := (blk_cell BK396.out 5).trans rfl; have hcz60_6 : w59.cell? ⟨gb396, 6, none⟩ = some (.int .i64 t393) := (blk_cell BK396.out 6).trans rfl; have hcz60_7 : w59.cell? ⟨gb396, 7, none⟩ = some (.int .i64 t394) := (blk_cell BK396.out 7).trans rfl; have hfz60_0 := blk_frozen BK396.out 0; have hfz60_1 := blk_frozen BK396.out 1; have hfz60_2 := blk_frozen BK396.out 2; have hfz60_3 := blk_frozen BK396.out 3; have hfz60_4 := blk_frozen BK396.out 4; have hfz60_5 := blk_frozen BK396.out 5; have hfz60_6 := blk_frozen BK396.out 6; have hfz60_7 := blk_frozen BK396.out 7) | (go_at_call 8; (with_reducible refine (roster_Member_Row.calls (hG := by first | exact hG | exact GlobT.below hG (by first | exact HB.out | (repeat (first | (with_reducible first | exact HB.out | apply below_alloc | apply pw_below_drewN | apply below_drew1 | refine below_set ?_ GE364.out | refine below_set ?_ GE374.out | refine below_set ?_ GE385.out | refine below_set ?_ GE396.out) | exact HB.out))) | exact GlobT.drawn hG (d0)) kj16 t387 t388 t389 t390 t391 t392 t393 t394 t398 _ A52.out).mono ?_); rintro e w61 ⟨rfl, hb⟩; have n0_ := Aside0.mk (blk_below (g := gb364) (o := .cells #[.string a0_0, .string a0_1, .int .i64 a0_2, .bool a0_3, .int .i64 a0_4, .int .i64 a0_5, .int .i64 a0_6, .int .i64 a0_7] 25 (0, 0)) bk hb); have n1_ := Aside0.mk (blk_below (g := gb374) (o := .cells #[.string t366, .string t367, .int .i64 t368, .bool t369, .int .i64 t370, .int .i64 t371, .int .i64 t372, .int .i64 t373] 29 (0, 0)) bk hb); have n2_ := Aside0.mk (blk_below (g := gb385) (o := .cells #[.string t376, .string t377, .int .i64 t378, .bool t379, .int .i64 t380, .int .i64 t381, .int .i64 t382, .int .i64 t383] 29 (0, 0)) bk hb); have n3_ := Aside0.mk (blk_below (g := gb396) (o := .cells #[.string t387, .string t388, .int .i64 t389, .bool t390, .int .i64 t391, .int .i64 t392, .int .i64 t393, .int .i64 t394] 29 (0, 0)) bk hb); have n4_ := Aside0.mk (below_step bwS hb); clear BK364; clear BK374; clear BK385; clear BK396; clear HB; have BK364 := n0_; have BK374 := n1_; have BK385 := n2_; have BK396 := n3_; have HB := n4_; clear n0_ n1_ n2_ n3_ n4_; (try clear hb); (try clear hb2); (try clear hk); (try clear hi)))
          go_ret
          exact ⟨ew, bwS⟩
         ·replace c51 := Bool.eq_false_iff.mpr c51; subst c51; have H1 : (some false) = some r := by rw [if_neg (show ¬ (false = true) by decide)] at H; exact H
          clear H; have H := H1; clear H1; obtain rfl := Option.some.inj H; exact absurd HT.out (by decide)
        ·rw [if_neg c49] at H; have c49b0 : (t395 == 0) = false := beq_eq_false_iff_ne.mpr c49; have c49b1 : (t395 != 0) = true := bne_iff_ne.mpr c49
         by_cases c69 : ((t387.toList == ([] : List UInt8) && (t388.toList == ([] : List UInt8))) && (t389 == 0 && (!t390 && (t391 == 0 && (t392 == 0 && (t393 == 0 && (t394 == 0))))))) = true
         ·rw [if_pos c69] at H; have c69b0 : ((t387.toList == ([] : List UInt8) && (t388.toList == ([] : List UInt8))) && (t389 == 0 && (!t390 && (t391 == 0 && (t392 == 0 && (t393 == 0 && (t394 == 0))))))) = true := c69; clear c69; simp only [Bool.and_eq_true, beq_iff_eq, Bool.not_eq_true'] at c69b0; obtain ⟨⟨e0_, e1_⟩, rfl, rfl, rfl, rfl, rfl, rfl⟩ := c69b0; obtain rfl := nil_bytes e0_; obtain rfl := nil_bytes e1_; clear e0_ e1_; obtain rfl := Option.some.inj H
          go_wp2_with (first | ((with_reducible refine gate_callee (f := 7) rfl ?_); refine goesL_ (some 50) rfl rfl Tryd.func7 (by kernel_rfl) rfl #[.string a1] rfl am ?_; (with_reducible refine (roster_Read.calls (hG := by first | exact hG | exact GlobT.below hG (by first | exact HB.out | (repeat (first | (with_reducible first | exact HB.out | apply below_alloc | apply pw_below_drewN | apply below_drew1 | refine below_set ?_ GE364.out | refine below_set ?_ GE374.out | refine below_set ?_ GE385.out | refine below_set ?_ GE396.out) | exact HB.out))) | exact GlobT.drawn hG (d0)) kj16 a1 (⟨#[]⟩ : ByteArray) (⟨#[]⟩ : ByteArray) (0 : Int) false (0 : Int) (0 : Int) (0 : Int) (0 : Int) t395 _ A48.out).mono ?_); rintro e w70 ⟨rfl, hb⟩; refine ⟨_, rfl, ?_⟩; have n0_ := Aside0.mk (blk_below (g := gb364) (o := .cells #[.string a0_0, .string a0_1, .int .i64 a0_2, .bool a0_3, .int .i64 a0_4, .int .i64 a0_5, .int .i64 a0_6, .int .i64 a0_7] 25 (0, 0)) bk hb); have n1_ := Aside0.mk (blk_below (g := gb374) (o := .cells #[.string t366, .string t367, .int .i64 t368, .bool t369, .int .i64 t370, .int .i64 t371, .int .i64 t372, .int .i64 t373] 29 (0, 0)) bk hb); have n2_ := Aside0.mk (blk_below (g := gb385) (o := .cells #[.string t376, .string t377, .int .i64 t378, .bool t379, .int .i64 t380, .int .i64 t381, .int .i64 t382, .int .i64 t383] 29 (0, 0)) bk hb); have n3_ := Aside0.mk (below_step bwS hb); clear BK364; clear BK374; clear BK385; clear HB; have BK364 := n0_; have BK374 := n1_; have BK385 := n2_; have HB := n3_; clear n0_ n1_ n2_ n3_; (try clear hb); (try clear hb2); (try clear hk); (try clear hi)) | ((with_reducible refine gate_dst (N := 8) rfl ?_); (try (refine gate_guard (by rfl) ?_; dsimp only)); refine box_event ?hg (N := 8) ?hd (cs := #[.string (⟨#[]⟩ : ByteArray), .string (⟨#[]⟩ : ByteArray), .int .i64 0, .bool false, .int .i64 0, .int .i64 0, .int .i64 0, .int .i64 0]) (t := 29) ?hr ?_; (case hd => rfl); (case hg => rfl); (case hr => first | (go_simp; done) | (go_simp; rfl)); intro gb396 hg w71 hbox hb; have n0_ := Aside0.mk (blk_below (g := gb364) (o := .cells #[.string a0_0, .string a0_1, .int .i64 a0_2, .bool a0_3, .int .i64 a0_4, .int .i64 a0_5, .int .i64 a0_6, .int .i64 a0_7] 25 (0, 0)) bk hb); have n1_ := Aside0.mk (blk_below (g := gb374) (o := .cells #[.string t366, .string t367, .int .i64 t368, .bool t369, .int .i64 t370, .int .i64 t371, .int .i64 t372, .int .i64 t373] 29 (0, 0)) bk hb); have n2_ := Aside0.mk (blk_below (g := gb385) (o := .cells #[.string t376, .string t377, .int .i64 t378, .bool t379, .int .i64 t380, .int .i64 t381, .int .i64 t382, .int .i64 t383] 29 (0, 0)) bk hb); have n3_ := Aside0.mk (below_step bwS hb); have n4_ := Aside0.mk (hbox); have n5_ := Aside0.mk ((by rw [hg]; exact (below_size bwS) : w.heap.size ≤ gb396)); have n6_ := Aside0.mk ((by rw [hg]; exact (below_size bwS) : w.heap.size ≤ gb396)); have n7_ := Aside0.mk ((by rw [hg]; exact Nat.ne_of_lt (blk_lt (g := gb364) (o := .cells #[.string a0_0, .string a0_1, .int .i64 a0_2, .bool a0_3, .int .i64 a0_4, .int .i64 a0_5, .int .i64 a0_6, .int .i64 a0_7] 25 (0, 0)) bk) : gb364 ≠ gb396)); have n8_ := Aside0.mk ((by rw [hg]; exact Nat.ne_of_gt (blk_lt (g := gb364) (o := .cells #[.string a0_0, .string a0_1, .int .i64 a0_2, .bool a0_3, .int .i64 a0_4, .int .i64 a0_5, .int .i64 a0_6, .int .i64 a0_7] 25 (0, 0)) bk) : gb396 ≠ gb364)); have n9_ := Aside0.mk ((by rw [hg]; exact Nat.ne_of_lt (blk_lt (g := gb374) (o := .cells #[.string t366, .string t367, .int .i64 t368, .bool t369, .int .i64 t370, .int .i64 t371, .int .i64 t372, .int .i64 t373] 29 (0, 0)) bk) : gb374 ≠ gb396)); have n10_ := Aside0.mk ((by rw [hg]; exact Nat.ne_of_gt (blk_lt (g := gb374) (o := .cells #[.string t366, .string t367, .int .i64 t368, .bool t369, .int .i64 t370, .int .i64 t371, .int .i64 t372, .int .i64 t373] 29 (0, 0)) bk) : gb396 ≠ gb374)); have n11_ := Aside0.mk ((by rw [hg]; exact Nat.ne_of_lt (blk_lt (g := gb385) (o := .cells #[.string t376, .string t377, .int .i64 t378, .bool t379, .int .i64 t380, .int .i64 t381, .int .i64 t382, .int .i64 t383] 29 (0, 0)) bk) : gb385 ≠ gb396)); have n12_ := Aside0.mk ((by rw [hg]; exact Nat.ne_of_gt (blk_lt (g := gb385) (o := .cells #[.string t376, .string t377, .int .i64 t378, .bool t379, .int .i64 t380, .int .i64 t381, .int .i64 t382, .int .i64 t383] 29 (0, 0)) bk) : gb396 ≠ gb385)); clear BK364; clear BK374; clear BK385; clear HB; have BK364 := n0_; have BK374 := n1_; have BK385 := n2_; have HB := n3_; have BK396 := n4_; have GW396 := n5_; have GE396 := n6_; have NB364_396 := n7_; have NB396_364 := n8_; have NB374_396 := n9_; have NB396_374 := n10_; have NB385_396 := n11_; have NB396_385 := n12_; clear n0_ n1_ n2_ n3_ n4_ n5_ n6_ n7_ n8_ n9_ n10_ n11_ n12_; clear hb hbox hg; have hnb72 := NB396_364.out; have hnc72 := NB364_396.out; have hnb73 := NB396_374.out; have hnc73 := NB374_396.out; have hnb74 := NB396_385.out; have hnc74 := NB385_396.out; have hcz75_0 : w71.cell? ⟨gb396, 0, none⟩ = some (.string (⟨#[]⟩ : ByteArray)) := (blk_cell BK396.out 0).trans rfl; have hcz75_1 : w71.cell? ⟨gb396, 1, none⟩ = some (.string (⟨#[]⟩ : ByteArray)) := (blk_cell BK396.out 1).trans rfl; have hcz75_2 : w71.cell? ⟨gb396, 2, none⟩ = some (.int .i64 0) := (blk_cell BK396.out 2).trans rfl; have hcz75_3 : w71.cell? ⟨gb396, 3, none⟩ = some (.bool false) := (blk_cell BK396.out 3).trans rfl; have hcz75_4 : w71.cell? ⟨gb396, 4, none⟩ = some (.int .i64 0) := (blk_cell BK396.out 4).trans rfl; have hcz75_5 : w71.cell? ⟨gb396, 5, none⟩ = some (.int .i64 0) := (blk_cell BK396.out 5).trans rfl; have hcz75_6 : w71.cell? ⟨gb396, 6, none⟩ = some (.int .i64 0) := (blk_cell BK396.out 6).trans rfl; have hcz75_7 : w71.cell? ⟨gb396, 7, none⟩ = some (.int .i64 0) := (blk_cell BK396.out 7).trans rfl; have hfz75_0 := blk_frozen BK396.out 0; have hfz75_1 := blk_frozen BK396.out 1; have hfz75_2 := blk_frozen BK396.out 2; have hfz75_3 := blk_frozen BK396.out 3; have hfz75_4 := blk_frozen BK396.out 4; have hfz75_5 := blk_frozen BK396.out 5; have hfz75_6 := blk_frozen BK396.out 6; have hfz75_7 := blk_frozen BK396.out 7))
          go_ret
          exact ⟨ew, bwS⟩
         ·rw [if_neg c69] at H; have c69b0 : ((t387.toList == ([] : List UInt8) && (t388.toList == ([] : List UInt8))) && (t389 == 0 && (!t390 && (t391 == 0 && (t392 == 0 && (t393 == 0 && (t394 == 0))))))) = false := by simpa using c69
          clear c69; obtain rfl := Option.some.inj H; exact absurd HT.out (by decide)
 ·replace c4 := Bool.eq_false_iff.mpr c4; subst c4; have H1 : (some false) = some r := by rw [if_neg (show ¬ (false = true) by decide)] at H; exact H
  clear H; have H := H1; clear H1; obtain rfl := Option.some.inj H; exact absurd HT.out (by decide)
end Go.Proofs.YtnnlhpmkfijppaaDoor.Fn
set_option linter.unusedVariables false
namespace Go.Proofs.YtnnlhpmkfijppaaDoor.Pl
open Go.RowKit Go.Proofs.YtnnlhpmkfijppaaDoorW.PrintWords Go.Proofs.YtnnlhpmkfijppaaDoor.Fn

/-! Layer 13, the program's, over lists of bytes. -/
theorem mono_up {α : Type} {f : Nat → Option α} (h : ∀ k, LeO (f k) (f (k + 1))) {r : α} {k : Nat} (hr : f k = some r) : ∀ (k' : Nat), k ≤ k' → f k' = some r := by
  intro k' hk
  obtain ⟨d, rfl⟩ : ∃ d, k' = k + d := ⟨k' - k, by omega⟩
  clear hk
  induction d with
  | zero => exact hr
  | succ d ih => exact h (k + d) r ih

def splitL (c : UInt8) : Bytes → List Bytes
  | [] => [[]]
  | x :: l => if x = c then [] :: splitL c l else match splitL c l with
    | [] => [[x]]
    | w :: r => (x :: w) :: r
theorem splitL_ne (c : UInt8) (l : Bytes) : splitL c l ≠ [] := by
  cases l with
  | nil => simp [splitL]
  | cons x l =>
    rw [splitL]
    split
    · simp
    · split <;> simp
theorem indexByte_neg (c : UInt8) : ∀ l : Bytes, Lib.indexByte l c < 0 → splitL c l = [l]
  | [], _ => rfl
  | b :: l, h => by
    rw [Lib.indexByte] at h
    have hb : ¬ (b == c) = true := fun q => by rw [if_pos q] at h; omega
    rw [if_neg hb] at h
    by_cases h2 : (Lib.indexByte l c == -1) = true
    · have h3 : Lib.indexByte l c = -1 := by simpa using h2
      rw [splitL, if_neg (by simpa using hb), indexByte_neg c l (by omega)]
    · rw [if_neg h2] at h
      have := Lib.indexByte_ge l c
      have h4 : Lib.indexByte l c ≠ -1 := by simpa using h2
      omega
theorem indexByte_nat (c : UInt8) : ∀ (l : Bytes) (n : Nat), Lib.indexByte l c = n → splitL c l = l.take n :: splitL c (l.drop (n + 1))
  | [], n, h => by simp [Lib.indexByte] at h
  | b :: l, n, h => by
    rw [Lib.indexByte] at h
    by_cases hb : (b == c) = true
    · rw [if_pos hb] at h
      obtain rfl : n = 0 := by omega
      rw [splitL, if_pos (by simpa using hb)]
      simp
    · rw [if_neg hb] at h
      by_cases h2 : (Lib.indexByte l c == -1) = true
      · rw [if_pos h2] at h; omega
      · rw [if_neg h2] at h
        have h3 := Lib.indexByte_ge l c
        have h4 : Lib.indexByte l c ≠ -1 := by simpa using h2
        obtain ⟨m, rfl⟩ : ∃ m, n = m + 1 := ⟨n - 1, by omega⟩
        have ih := indexByte_nat c l m (by omega)
        rw [splitL, if_neg (by simpa using hb), ih]
        simp
theorem cuts_split (c : UInt8) : ∀ (n : Nat) (s : ByteArray), s.size ≤ n → (cuts (findOne c) 1 s).map bs = splitL c (bs s)
  | n, s, hn => by
    by_cases h0 : findOne c s < 0
    · rw [cuts_last (finds_one c) s h0, indexByte_neg c (bs s) h0]
      rfl
    · obtain ⟨N, hN⟩ : ∃ N : Nat, findOne c s = (N : Int) := ⟨(findOne c s).toNat, by omega⟩
      have hfit := (finds_one c).fits s (by omega)
      rw [hN] at hfit
      simp only [Int.toNat_natCast] at hfit
      rw [cuts_more (finds_one c) s h0, hN, indexByte_nat c (bs s) N hN]
      obtain ⟨n, rfl⟩ : ∃ m, n = m + 1 := ⟨n - 1, by omega⟩
      have ih := cuts_split c n (s.extract (N + 1) s.size) (by simp only [ByteArray.size_extract]; omega)
      simp only [Int.toNat_natCast, List.map_cons, ih, bs_extract, List.drop_zero]
      rw [List.take_of_length_le (i := s.size) (by rw [bs_length]; exact Nat.le_refl _)]
theorem dots_split (s : ByteArray) : (dots s).map bs = splitL 46 (bs s) := cuts_split 46 s.size s (Nat.le_refl _)
theorem all_map_bs (p : Bytes → Bool) (l : List ByteArray) : (l.map bs).all p = l.all (fun x => p (bs x)) := by
  rw [List.all_map]; rfl

def atomL (w : Bytes) : Bool := w.all atomic && !w.isEmpty
def dottedL (l : Bytes) : Bool := (splitL 46 l).all atomL
theorem dotted_L (s : ByteArray) : dotted s = dottedL (bs s) := by
  unfold dotted dottedL
  rw [← dots_split, all_map_bs]
  rfl
def domLongL (l : Bytes) : Bool := decide (253 < l.length) || (splitL 46 l).any (fun w => decide (63 < w.length))
def domainL (l : Bytes) : Int := if (splitL 46 l).all labelL = true then (if domLongL l = true then 2 else 0) else 130
theorem domain_L (s : ByteArray) : domain s = domainL (bs s) := by
  unfold domain domainL domLong domLongL
  rw [← dots_split, all_map_bs, List.any_map]
  have e1 : (dots s).all label = (dots s).all (fun x => labelL (bs x)) := rfl
  have e2 : ((fun w : Bytes => decide (63 < w.length)) ∘ bs) = (fun x : ByteArray => decide (63 < (x.size : Int))) := by
    funext x
    simp only [Function.comp, bs_length]
    congr 1
    exact propext ⟨fun h => by omega, fun h => by omega⟩
  have e3 : decide (253 < (bs s).length) = decide (253 < (s.size : Int)) := by
    rw [bs_length]
    congr 1
    exact propext ⟨fun h => by omega, fun h => by omega⟩
  rw [e1, e2, e3]

/-! Quote -/
def text (c : UInt8) : Bool := (lex_text.f (c.toNat : Int)).getD false
theorem text_is (c : UInt8) : lex_text.f (c.toNat : Int) = some (text c) := by
  have : ∀ x : Int, (lex_text.f x).isSome := by
    intro x
    unfold lex_text.f
    repeat' split
    all_goals rfl
  unfold text
  have h := this (c.toNat : Int)
  cases hx : lex_text.f (c.toNat : Int) with
  | none => rw [hx] at h; cases h
  | some b => rfl
def qB (c : UInt8) : Bytes := if c = 34 ∨ c = 92 then [92, c] else if text c = true then [c] else [32]
def quote (l : Bytes) : Bytes := 34 :: (l.flatMap qB ++ [34])
def numsOf (l : Bytes) : List Int := l.map fun c => (c.toNat : Int)
theorem strOfNums_of (l : Bytes) : strOfNums (numsOf l) = str l := by
  unfold strOfNums numsOf str
  congr 2
  rw [List.map_map]
  conv => rhs; rw [← List.map_id l]
  apply List.map_congr_left
  intro c _
  simp
theorem numsOf_app (a b : Bytes) : numsOf (a ++ b) = numsOf a ++ numsOf b := by simp [numsOf]
theorem numsOf_length (a : Bytes) : (numsOf a).length = a.length := by simp [numsOf]
theorem byte_eq (c : UInt8) (n : Nat) (h : n < 256) : ((c.toNat : Int) = (n : Int)) = (c = UInt8.ofNat n) := by
  apply propext
  constructor
  · intro q
    apply UInt8.toNat_inj.1
    simp
    omega
  · intro q
    rw [q]
    simp
    omega
theorem lexQuote_l0 (s : ByteArray) (hs : s.size ≤ 1000000000) : ∀ (rest : Bytes) (i k : Nat) (acc : Bytes), (bs s).drop i = rest → i ≤ (bs s).length → 2 * rest.length + 1 ≤ k → acc.length ≤ 2 * i + 1 →
    lex_Quote.l0 k s (numsOf acc) (s.size : Int) (i : Int) = some (str (acc ++ rest.flatMap qB ++ [34]))
  | [], i, k, acc, hd, hi, hk, ha => by
    obtain ⟨k, rfl⟩ : ∃ j, k = j + 1 := ⟨k - 1, by omega⟩
    have := drop_nil hd
    rw [bs_length] at this hi
    rw [lex_Quote.l0, if_neg (by omega), if_pos (by rw [numsOf_length]; omega)]
    rw [show numsOf acc ++ [34] = numsOf (acc ++ [34]) by rw [numsOf_app]; rfl, strOfNums_of]
    simp
  | c :: rest, i, k, acc, hd, hi, hk, ha => by
    obtain ⟨k, rfl⟩ : ∃ j, k = j + 1 + 1 := ⟨k - 2, by simp at hk; omega⟩
    obtain ⟨h1, h2, h3, h4⟩ := drop_cons hd
    have h5 : i < s.size := by rw [bs_length] at h1; exact h1
    simp only [List.length_cons] at hk
    have e34 : ((c.toNat : Int) = 34) = (c = 34) := byte_eq c 34 (by decide)
    have e92 : ((c.toNat : Int) = 92) = (c = 92) := byte_eq c 92 (by decide)
    have goon : ∀ acc' : Bytes, acc'.length ≤ acc.length + 2 → lex_Quote.l0 k s (numsOf acc') (s.size : Int) (wrap64 ((i : Int) + 1)) = some (str (acc' ++ rest.flatMap qB ++ [34])) := by
      intro acc' hl
      rw [wrap_succ i (by omega)]
      exact lexQuote_l0 s hs rest (i + 1) k acc' h3 (by omega) (by omega) (by omega)
    have hl1 : (numsOf acc).length < 140737488355328 := by rw [numsOf_length]; omega
    have esc : c = 34 ∨ c = 92 → lex_Quote.j1 (k + 1) s (numsOf acc) (c.toNat : Int) (s.size : Int) (i : Int) true = some (str (acc ++ (c :: rest).flatMap qB ++ [34])) := by
      intro hc
      rw [lex_Quote.j1, if_pos rfl, if_pos hl1]
      simp only [Option.bind_some]
      rw [if_pos (by rw [List.length_append, numsOf_length]; simp; omega)]
      rw [show numsOf acc ++ [92] ++ [(c.toNat : Int)] = numsOf (acc ++ [92, c]) by simp [numsOf], goon _ (by simp)]
      simp [qB, hc]
    rw [lex_Quote.l0, if_pos (by omega), if_pos (by omega), if_pos (by omega), bt_drop hd]
    by_cases c34 : c = 34
    · rw [if_pos (by rw [e34]; exact c34), esc (.inl c34)]
    · rw [if_neg (by rw [e34]; exact c34)]
      by_cases c92 : c = 92
      · rw [show ((c.toNat : Int) == 92) = true by rw [beq_iff_eq, e92]; exact c92, esc (.inr c92)]
      · rw [show ((c.toNat : Int) == 92) = false by rw [beq_eq_false_iff_ne, ne_eq, e92]; exact c92, lex_Quote.j1, if_neg (by decide), text_is]
        simp only [Option.bind_some]
        have hn : ¬ (c = 34 ∨ c = 92) := fun h => h.elim c34 c92
        cases ht : text c with
        | true =>
          rw [if_pos rfl, if_pos hl1, show numsOf acc ++ [(c.toNat : Int)] = numsOf (acc ++ [c]) by simp [numsOf], goon _ (by simp)]
          simp [qB, hn, ht]
        | false =>
          rw [if_neg (by decide), if_pos hl1, show numsOf acc ++ [32] = numsOf (acc ++ [32]) by simp [numsOf], goon _ (by simp)]
          simp [qB, hn, ht]
theorem lexQuote_is (s : ByteArray) (hs : s.size ≤ 1000000000) (k : Nat) (hk : 2 * s.size + 1 ≤ k) : lex_Quote.f k s = some (str (quote (bs s))) := by
  have := lexQuote_l0 s hs (bs s) 0 k [34] (by simp) (by omega) (by rw [bs_length]; omega) (by simp)
  unfold lex_Quote.f quote
  exact this
theorem quote_length (l : Bytes) : (quote l).length ≤ 2 * l.length + 2 := by
  have h : (l.flatMap qB).length ≤ 2 * l.length := by
    induction l with
    | nil => simp
    | cons c l ih =>
      have : (qB c).length ≤ 2 := by unfold qB; repeat' split
                                     all_goals simp
      simp only [List.flatMap_cons, List.length_append, List.length_cons]
      omega
  unfold quote
  simp only [List.length_cons, List.length_append, List.length_nil]
  omega

/-! Text, Key, why, Right -/
def localL (a : Bytes) : Bytes := if dottedL a = true then a else quote a
def textL (a b : Bytes) : Bytes := localL a ++ 64 :: b
theorem localL_length (a : Bytes) : (localL a).length ≤ 2 * a.length + 2 := by
  unfold localL
  have := quote_length a
  split <;> omega
theorem addrText_is (a b : ByteArray) (ha : a.size ≤ 1000000) (hb : b.size ≤ 1000000) (k : Nat) (hk : 2 * a.size + 1 ≤ k) : addr_Addr_Text.f k a b = some (str (textL (bs a) (bs b))) := by
  unfold addr_Addr_Text.f addr_Dotted.f textL localL
  rw [if_pos (by omega)]
  simp only [Option.bind_some]
  rw [dotted_L]
  cases hd : dottedL (bs a) with
  | true =>
    rw [if_pos rfl, if_pos (by omega), if_pos (by simp only [ByteArray.size_append]; have : (⟨#[64]⟩ : ByteArray).size = 1 := rfl; omega), if_pos rfl]
    congr 1
    apply bs_inj
    rw [bs_app, bs_app, bs_str]
    simp [bs]
  | false =>
    have hq := quote_length (bs a)
    rw [bs_length] at hq
    rw [if_neg (by decide), lexQuote_is a (by omega) k hk]
    simp only [Option.bind_some]
    rw [if_pos (by rw [str_size]; omega), if_pos (by simp only [ByteArray.size_append, str_size]; have : (⟨#[64]⟩ : ByteArray).size = 1 := rfl; omega), if_neg (by decide)]
    congr 1
    apply bs_inj
    rw [bs_app, bs_app, bs_str, bs_str]
    simp [bs]
theorem textL_length (a b : Bytes) : (textL a b).length ≤ 2 * a.length + 3 + b.length := by
  unfold textL
  have := localL_length a
  simp
  omega
def why (a b : ByteArray) : Int :=
  if domain b = 130 ∨ bs a = [] ∨ plain a = false then 130
  else if domain b ≠ 0 ∨ 64 < a.size ∨ 254 < (textL (bs a) (bs b)).length then 2 else 0
theorem addrWhy_is (a b : ByteArray) (ha : a.size ≤ 1000000) (hb : b.size ≤ 1000000) (k : Nat) (hk : 2 * a.size + 1 + 1 ≤ k) : addr_why.f k a b = some (why a b) := by
  unfold addr_why.f addr_domain.f why
  rw [if_pos (by omega)]
  simp only [Option.bind_some]
  obtain ⟨k, rfl⟩ : ∃ j, k = j + 1 := ⟨k - 1, by omega⟩
  have yes : addr_why.j0 (k + 1) (domain b) true a b = some 130 := by rw [addr_why.j0, if_pos rfl]
  by_cases h1 : domain b = 130
  · rw [if_pos h1, if_pos (.inl h1), yes]
  · rw [if_neg h1]
    by_cases h2 : bs a = []
    · rw [if_pos (by rw [toList_bs]; exact h2), if_pos (.inr (.inl h2)), yes]
    · rw [if_neg (by rw [toList_bs]; exact h2)]
      unfold glyph_Plain.f
      rw [if_pos (by omega)]
      simp only [Option.bind_some]
      cases hp : plain a with
      | false => rw [if_pos (.inr (.inr rfl)), show (!false) = true from rfl, yes]
      | true =>
        rw [if_neg (by simp [h1, h2]), show (!true) = false from rfl, addr_why.j0, if_neg (by decide)]
        by_cases h3 : domain b = 0
        · rw [if_pos h3]
          by_cases h4 : (a.size : Int) > 64
          · rw [if_pos h4, if_pos (.inr (.inl (by omega)))]
          · rw [if_neg h4, addrText_is a b ha hb k (by omega)]
            simp only [Option.bind_some]
            rw [str_size]
            by_cases h5 : ((textL (bs a) (bs b)).length : Int) > 254
            · rw [if_pos h5, if_pos (.inr (.inr (by omega)))]
            · rw [if_neg h5, if_neg (by rintro (h | h | h); exact h h3; omega; omega)]
        · rw [if_neg h3, if_pos (.inl h3)]
def right (a b : ByteArray) : Bool := decide (why a b = 0) && (bs b == fold (bs b))
end Go.Proofs.YtnnlhpmkfijppaaDoor.Pl
set_option linter.unusedVariables false
set_option linter.unusedSimpArgs false
namespace Go.Proofs.YtnnlhpmkfijppaaDoor.Pl
open Go.RowKit Go.Proofs.YtnnlhpmkfijppaaDoorW.PrintWords Go.Proofs.YtnnlhpmkfijppaaDoor.Fn

/-! Layer 13: right, of an address of any size. -/
theorem domain_short2 {s : ByteArray} (h : domain s = 0) : s.size ≤ 253 := by
 unfold domain at h
 by_cases ha : (dots s).all label = true
 ·rw [if_pos ha] at h
  by_cases hl : domLong s (dots s) = true
  ·rw [if_pos hl] at h; cases h
  ·unfold domLong at hl
   simp only [Bool.or_eq_true, decide_eq_true_eq, not_or] at hl
   omega
 ·rw [if_neg ha] at h; cases h
theorem addrWhy_big (a b : ByteArray) (ha : a.size ≤ 140737488355328) (hb : b.size ≤ 140737488355328) (k : Nat) (hk : 1000 ≤ k) : addr_why.f k a b = some (why a b) := by
 unfold addr_why.f addr_domain.f why
 rw [if_pos (by omega)]
 simp only [Option.bind_some]
 obtain ⟨k, rfl⟩ : ∃ j, k = j + 1 := ⟨k - 1, by omega⟩
 have yes : addr_why.j0 (k + 1) (domain b) true a b = some 130 := by rw [addr_why.j0, if_pos rfl]
 by_cases h1 : domain b = 130
 ·rw [if_pos h1, if_pos (.inl h1), yes]
 ·rw [if_neg h1]
  by_cases h2 : bs a = []
  ·rw [if_pos (by rw [toList_bs]; exact h2), if_pos (.inr (.inl h2)), yes]
  ·rw [if_neg (by rw [toList_bs]; exact h2)]
   unfold glyph_Plain.f
   rw [if_pos (by omega)]
   simp only [Option.bind_some]
   cases hp : plain a with
   | false => rw [if_pos (.inr (.inr rfl)), show (!false) = true from rfl, yes]
   | true =>
    rw [if_neg (by simp [h1, h2]), show (!true) = false from rfl, addr_why.j0, if_neg (by decide)]
    by_cases h3 : domain b = 0
    ·rw [if_pos h3]
     have hbz := domain_short2 h3
     by_cases h4 : (a.size : Int) > 64
     ·rw [if_pos h4, if_pos (.inr (.inl (by omega)))]
     ·rw [if_neg h4, addrText_is a b (by omega) (by omega) k (by omega)]
      simp only [Option.bind_some]
      rw [str_size]
      by_cases h5 : ((textL (bs a) (bs b)).length : Int) > 254
      ·rw [if_pos h5, if_pos (.inr (.inr (by omega)))]
      ·rw [if_neg h5, if_neg (by rintro (h | h | h); exact h h3; omega; omega)]
    ·rw [if_neg h3, if_pos (.inl h3)]
theorem why_short {a b : ByteArray} (h : why a b = 0) : a.size ≤ 64 ∧ b.size ≤ 253 := by
 unfold why at h
 by_cases h1 : domain b = 130 ∨ bs a = [] ∨ plain a = false
 ·rw [if_pos h1] at h; cases h
 ·rw [if_neg h1] at h
  by_cases h2 : domain b ≠ 0 ∨ 64 < a.size ∨ 254 < (textL (bs a) (bs b)).length
  ·rw [if_pos h2] at h; cases h
  ·have h3 : domain b = 0 := Classical.byContradiction fun q => h2 (.inl q)
   exact ⟨by have : ¬ 64 < a.size := fun q => h2 (.inr (.inl q)); omega, domain_short2 h3⟩
theorem right_short {a b : ByteArray} (h : right a b = true) : a.size ≤ 64 ∧ b.size ≤ 253 := by
 unfold right at h
 rw [Bool.and_eq_true, decide_eq_true_eq] at h
 exact why_short h.1
theorem addrRight_big (a b : ByteArray) (ha : a.size ≤ 140737488355328) (hb : b.size ≤ 140737488355328) (k : Nat) (hk : 1000 ≤ k) : addr_Addr_Right.f k a b = some (right a b) := by
 unfold addr_Addr_Right.f right
 rw [addrWhy_big a b ha hb k hk]
 simp only [Option.bind_some]
 by_cases h : why a b = 0
 ·rw [if_pos h]
  have := (why_short h).2
  unfold glyph_Fold.f
  rw [if_pos (by omega)]
  simp only [Option.bind_some]
  rw [toList_bs, toList_str]
  simp [h, bs]
 ·rw [if_neg h]
  simp [h]
end Go.Proofs.YtnnlhpmkfijppaaDoor.Pl
set_option linter.unusedVariables false
set_option linter.unusedSimpArgs false
namespace Go.Proofs.YtnnlhpmkfijppaaDoor.Pl
open Go.RowKit Go.Proofs.YtnnlhpmkfijppaaDoorW.PrintWords Go.Proofs.YtnnlhpmkfijppaaDoor.Fn

/-! Layer 33: a member. -/
set_option maxRecDepth 100000 in
theorem works33_at : bulletinlaw33_works.f 100 = some true := by decide +kernel
theorem works33 (k : Nat) (hk : 100 ≤ k) : bulletinlaw33_works.f k = some true := mono_up bulletinlaw33_works.mono works33_at k hk
def okN (n : Int) : Bool := decide (0 ≤ n) && decide (n ≤ 1099511627776)
theorem number_is (n : Int) : roster_number.f n = some (okN n) := by
 unfold roster_number.f okN
 by_cases h : n ≥ 0
 ·rw [if_pos h, decide_eq_true h, Bool.true_and]
 ·rw [if_neg h, decide_eq_false (show ¬ 0 ≤ n from h), Bool.false_and]
def wordM (n : Int) : Bytes := if n = 1 then [101, 97, 99, 104] else if n = 2 then [100, 105, 103, 101, 115, 116] else if n = 3 then [115, 105, 108, 101, 110, 116] else []
theorem word_is (n : Int) : roster_Word.f n = some (str (wordM n)) := by
 unfold roster_Word.f wordM
 split
 ·rfl
 ·split
  ·rfl
  ·split <;> rfl
def okM (n : Int) : Bool := decide (1 ≤ n) && decide (n ≤ 3)
theorem wordM_nil (n : Int) : (wordM n = []) = (okM n = false) := by
 unfold wordM okM
 rw [eq_iff_iff]
 by_cases h1 : n = 1
 ·subst h1; simp
 by_cases h2 : n = 2
 ·subst h2; simp
 by_cases h3 : n = 3
 ·subst h3; simp
 rw [if_neg h1, if_neg h2, if_neg h3]
 constructor
 ·intro _
  rw [Bool.and_eq_false_iff, decide_eq_false_iff_not, decide_eq_false_iff_not]
  omega
 ·intro _; rfl
def sound (a b : ByteArray) (mode score day ticket since : Int) : Bool := right a b && (okM mode && (okN score && ((okN day || decide (day = -1)) && (okN ticket && okN since))))
theorem sound_is (a b : ByteArray) (mode : Int) (off : Bool) (score day ticket since : Int) (ha : a.size ≤ 140737488355328) (hb : b.size ≤ 140737488355328) (k : Nat) (hk : 1000 ≤ k) :
  roster_Member_Sound.f k a b mode off score day ticket since = some (sound a b mode score day ticket since) := by
 unfold roster_Member_Sound.f sound
 rw [addrRight_big a b ha hb k hk, Option.bind_some, word_is, number_is, number_is, number_is, number_is]
 simp only [Option.bind_some]
 rw [toList_str]
 have hw := wordM_nil mode
 cases hm : okM mode with
 | false =>
  rw [if_pos (c := wordM mode = []) (hw.mpr hm)]
  cases right a b
  ·rfl
  ·rfl
 | true =>
  rw [if_neg (c := wordM mode = []) (by rw [hw, hm]; decide)]
  cases right a b
  ·rfl
  cases okN score
  ·rfl
  cases okN day
  ·by_cases h : day = -1
   ·cases okN ticket <;> simp [h]
   ·simp [h]
  ·cases okN ticket <;> rfl
end Go.Proofs.YtnnlhpmkfijppaaDoor.Pl
set_option linter.unusedVariables false
set_option linter.unusedSimpArgs false
namespace Go.Proofs.YtnnlhpmkfijppaaDoor.Pl
open Go.RowKit Go.Proofs.YtnnlhpmkfijppaaDoorW.PrintWords Go.Proofs.YtnnlhpmkfijppaaDoor.Fn

/-! Layer 1: nets taken apart, the program's. -/
def isD (c : UInt8) : Bool := decide (48 ≤ c.toNat) && decide (c.toNat ≤ 57)
def digs (l : Bytes) : Bytes := l.takeWhile isD
def val (l : Bytes) : Nat := l.foldl (fun n c => n * 10 + (c.toNat - 48)) 0
theorem val_snoc (l : Bytes) (c : UInt8) : val (l ++ [c]) = val l * 10 + (c.toNat - 48) := by
  unfold val
  rw [List.foldl_append]
  rfl
theorem isD_iff (c : UInt8) : isD c = true ↔ 48 ≤ c.toNat ∧ c.toNat ≤ 57 := by
  unfold isD
  rw [Bool.and_eq_true, decide_eq_true_eq, decide_eq_true_eq]
theorem val_lt : ∀ (m : Nat) (l : Bytes), l.length ≤ m → (∀ c ∈ l, isD c = true) → val l < 10 ^ m
  | 0, l, h, _ => by
    cases l with
    | nil => exact Nat.one_pos
    | cons c r => simp at h
  | m + 1, l, h, hd => by
    rcases List.eq_nil_or_concat l with rfl | ⟨r, c, rfl⟩
    · exact Nat.pow_pos (by decide)
    · rw [List.concat_eq_append, val_snoc, Nat.pow_succ]
      have hc := (isD_iff c).1 (hd c (by simp))
      have ih := val_lt m r (by simp at h; omega) (fun x hx => hd x (by simp [hx]))
      omega
theorem digit_is (c : UInt8) : nets_digit.f (c.toNat : Int) = some (isD c) := by
  unfold nets_digit.f isD
  by_cases h : c.toNat ≥ 48
  · rw [if_pos (by omega), decide_eq_true (show 48 ≤ c.toNat from h), Bool.true_and]
    congr 1
    exact decide_eq_decide.2 (by omega)
  · rw [if_neg (by omega), decide_eq_false (show ¬ 48 ≤ c.toNat from h), Bool.false_and]
theorem size_l0 (s : ByteArray) (hs : s.size ≤ 140737488355328) : ∀ (r : Bytes) (i K : Nat), (bs s).drop i = r → i ≤ (bs s).length → r.length + 1 ≤ K →
    ∃ K', K ≤ K' + r.length + 1 ∧ nets_size.l0 K s 0 (i : Int) = nets_size.j1 K' s 0 ((i + (digs r).length : Nat) : Int)
  | [], i, K, hd, hi, hk => by
    obtain ⟨K, rfl⟩ : ∃ q, K = q + 1 := ⟨K - 1, by omega⟩
    have hl := drop_nil hd
    rw [bs_length] at hl
    refine ⟨K, by simp, ?_⟩
    rw [nets_size.l0, if_neg (by omega)]
    rfl
  | c :: r, i, K, hd, hi, hk => by
    obtain ⟨K, rfl⟩ : ∃ q, K = q + 1 := ⟨K - 1, by omega⟩
    obtain ⟨h1, _, h2, _⟩ := drop_cons hd
    rw [bs_length] at h1
    rw [nets_size.l0, if_pos (by omega), if_pos (by omega), bt_drop hd, digit_is, Option.bind_some]
    unfold digs
    rw [List.takeWhile_cons]
    by_cases hc : isD c = true
    · rw [if_pos hc, if_pos hc, wrap_succ i (by omega)]
      obtain ⟨K', a, b⟩ := size_l0 s hs r (i + 1) K h2 (by rw [bs_length]; omega) (by simp only [List.length_cons] at hk; omega)
      refine ⟨K', by simp only [List.length_cons]; omega, ?_⟩
      rw [b]
      congr 2
      unfold digs
      simp only [List.length_cons]
      omega
    · rw [if_neg hc, if_neg hc]
      exact ⟨K, by simp only [List.length_cons]; omega, rfl⟩
theorem digs_isD (l : Bytes) : ∀ c ∈ digs l, isD c = true := fun c hc => List.all_takeWhile (p := isD) (l := l) |> List.all_eq_true.1 |> fun h => h c hc
theorem digs_le (l : Bytes) : (digs l).length ≤ l.length := (List.takeWhile_prefix isD).length_le
theorem digs_take (l : Bytes) : l.take (digs l).length = digs l := by
  have h := List.takeWhile_prefix (l := l) isD
  exact (List.prefix_iff_eq_take.1 h).symm
theorem size_l1 (s : ByteArray) (hs : s.size ≤ 140737488355328) (n : Nat) (hn : n = (digs (bs s)).length) (h9 : n ≤ 9) : ∀ (d i K : Nat), i + d = n → d + 1 ≤ K →
    nets_size.l1 K s ((val ((bs s).take i) : Nat) : Int) (n : Int) (n : Int) (i : Int) = some (((val (digs (bs s)) : Nat) : Int), ((n + 1 : Nat) : Int), 0)
  | 0, i, K, hd, hk => by
    obtain ⟨K, rfl⟩ : ∃ q, K = q + 1 := ⟨K - 1, by omega⟩
    have hin : i = n := by omega
    subst hin
    rw [nets_size.l1, if_neg (by omega), wrap_succ i (by omega), hn, digs_take]
  | d + 1, i, K, hd, hk => by
    obtain ⟨K, rfl⟩ : ∃ q, K = q + 1 := ⟨K - 1, by omega⟩
    have hle := digs_le (bs s)
    rw [bs_length] at hle
    have hi : i < (bs s).length := by rw [bs_length]; omega
    rw [nets_size.l1, if_pos (by omega), if_pos (by omega), if_pos (by omega), bt_bs s i hi]
    have ht : (bs s).take (i + 1) = (bs s).take i ++ [(bs s)[i]] := List.take_succ_eq_append_getElem hi
    have hdd : isD (bs s)[i] = true := by
      refine digs_isD (bs s) _ ?_
      rw [← digs_take, ← hn]
      refine List.mem_take_iff_getElem.2 ⟨i, by rw [bs_length] at *; omega, rfl⟩
    have hb := (isD_iff _).1 hdd
    have hv : val ((bs s).take i) < 10 ^ 9 := by
      refine val_lt 9 _ (by rw [List.length_take]; omega) (fun c hc => digs_isD (bs s) c ?_)
      rw [← digs_take, ← hn]
      exact List.mem_of_mem_take (i := i) (by rw [List.take_take, Nat.min_eq_left (by omega)]; exact hc)
    have e1 : wrap64 (((val ((bs s).take i) : Nat) : Int) * 10) = ((val ((bs s).take i) * 10 : Nat) : Int) := by
      rw [wrap_id (by omega) (by omega)]
      omega
    have e2 : ((((bs s)[i].toNat : Nat) : Int) - 48) % 256 = (((bs s)[i].toNat - 48 : Nat) : Int) := by omega
    have e3 : wrap64 (((val ((bs s).take i) * 10 : Nat) : Int) + (((bs s)[i].toNat - 48 : Nat) : Int)) = ((val ((bs s).take (i + 1)) : Nat) : Int) := by
      rw [ht, val_snoc, wrap_id (by omega) (by omega)]
      omega
    rw [e1, e2, e3, wrap_succ i (by omega)]
    exact size_l1 s hs n hn h9 d (i + 1) K (by omega) (by omega)
def sizeL (l : Bytes) : Nat × Nat × Int :=
  if l = [] then (0, 0, 9) else if (digs l).length = 0 then (0, 0, 3) else if 9 < (digs l).length then (0, 0, 2) else
  if (digs l).length = l.length then (0, 0, 9) else
  if l[(digs l).length]? = some 58 ∧ ¬ (1 < (digs l).length ∧ l[0]? = some 48) then (val (digs l), (digs l).length + 1, 0) else (0, 0, 3)
theorem byte_is (c : UInt8) (n : Nat) (h : n < 256) : ((c.toNat : Int) = (n : Int)) ↔ c = UInt8.ofNat n := by
  constructor
  · intro e
    refine UInt8.toNat_inj.1 ?_
    rw [UInt8.toNat_ofNat']
    omega
  · intro e
    rw [e, UInt8.toNat_ofNat']
    omega
theorem netsSize_is (s : ByteArray) (hs : s.size ≤ 140737488355328) (K : Nat) (hK : s.size + 20 ≤ K) :
    nets_size.f K s = some (((sizeL (bs s)).1 : Int), ((sizeL (bs s)).2.1 : Int), (sizeL (bs s)).2.2) := by
  unfold nets_size.f sizeL
  rw [toList_bs]
  by_cases h0 : bs s = []
  · rw [if_pos h0, if_pos h0]; rfl
  rw [if_neg h0, if_neg h0]
  obtain ⟨K', a, b⟩ := size_l0 s hs (bs s) 0 K rfl (Nat.zero_le _) (by rw [bs_length]; omega)
  rw [bs_length] at a
  rw [show ((0 : Nat) : Int) = 0 from rfl, Nat.zero_add] at b
  rw [b]
  obtain ⟨K', rfl⟩ : ∃ q, K' = q + 1 := ⟨K' - 1, by omega⟩
  have hle := digs_le (bs s)
  obtain ⟨n, hn⟩ : ∃ n, n = (digs (bs s)).length := ⟨_, rfl⟩
  rw [← hn]
  rw [← hn, bs_length] at hle
  rw [bs_length]
  rw [nets_size.j1]
  by_cases h1 : n = 0
  · rw [if_pos (by omega), if_pos h1]; rfl
  rw [if_neg (by omega), if_neg h1]
  by_cases h2 : 9 < n
  · rw [if_pos (by omega), if_pos h2]; rfl
  rw [if_neg (by omega), if_neg h2]
  by_cases h3 : n = s.size
  · rw [if_pos (by omega), if_pos h3]; rfl
  rw [if_neg (by omega), if_neg h3, if_pos (by omega), if_pos (by omega)]
  have hi : n < (bs s).length := by rw [bs_length]; omega
  rw [bt_bs s n hi, List.getElem?_eq_getElem hi]
  have tail : ∀ q, 12 ≤ q → nets_size.j2 q s 0 (n : Int) = some (((val (digs (bs s)) : Nat) : Int), ((n + 1 : Nat) : Int), 0) := by
    intro q hq
    obtain ⟨q, rfl⟩ : ∃ p, q = p + 1 := ⟨q - 1, by omega⟩
    rw [nets_size.j2]
    exact size_l1 s hs n hn (by omega) n 0 q (by omega) (by omega)
  by_cases h4 : (bs s)[n] = 58
  · rw [if_pos (by rw [h4]; rfl)]
    by_cases h5 : 1 < n
    · rw [if_pos (by omega), if_pos (by omega)]
      have h0' : 0 < (bs s).length := by omega
      have e0 : bt s 0 = ((bs s)[0].toNat : Int) := bt_bs s 0 h0'
      rw [e0, List.getElem?_eq_getElem h0']
      by_cases h6 : (bs s)[0] = 48
      · rw [if_pos (by rw [h6]; rfl), if_neg (by rintro ⟨_, hx⟩; exact hx ⟨h5, by rw [h6]⟩)]
        rfl
      · rw [if_neg (by intro e; exact h6 ((byte_is _ 48 (by decide)).1 e)), if_pos ⟨by rw [h4], fun hx => h6 (Option.some.inj hx.2)⟩, tail _ (by omega)]
    · rw [if_neg (by omega), if_pos ⟨by rw [h4], fun hx => h5 hx.1⟩, tail _ (by omega)]
  · rw [if_neg (by intro e; exact h4 ((byte_is _ 58 (by decide)).1 e)), if_neg (by rintro ⟨hx, _⟩; exact h4 (Option.some.inj hx))]
    rfl
theorem sizeL_le (l : Bytes) : (sizeL l).2.1 ≤ l.length ∧ (sizeL l).1 < 10 ^ 9 := by
  unfold sizeL
  have hle := digs_le l
  split
  · simp
  split
  · simp
  split
  · simp
  split
  · simp
  split
  · exact ⟨by show _ + 1 ≤ _; omega, val_lt 9 _ (by omega) (digs_isD l)⟩
  · simp
def takeL (l : Bytes) : Bytes × Bytes × Int :=
  if (sizeL l).2.2 = 0 then
    (if (l.drop (sizeL l).2.1).length ≤ (sizeL l).1 then ([], [], 9) else
     if (l.drop (sizeL l).2.1)[(sizeL l).1]? = some 44 then ((l.drop (sizeL l).2.1).take (sizeL l).1, (l.drop (sizeL l).2.1).drop ((sizeL l).1 + 1), 0) else ([], [], 3))
  else ([], [], (sizeL l).2.2)
theorem bs_drop (s : ByteArray) (n : Nat) : bs (s.extract n s.size) = (bs s).drop n := by
  rw [bs_extract, List.take_of_length_le (by rw [bs_length]; omega)]
theorem str_drop (s : ByteArray) (n : Nat) : s.extract n s.size = str ((bs s).drop n) := bs_inj (by rw [bs_drop, bs_str])
theorem netsTake_is (s : ByteArray) (hs : s.size ≤ 140737488355328) (K : Nat) (hK : s.size + 20 ≤ K) :
    nets_Take.f K s = some (str (takeL (bs s)).1, str (takeL (bs s)).2.1, (takeL (bs s)).2.2) := by
  unfold nets_Take.f takeL
  rw [netsSize_is s hs K hK, Option.bind_some]
  have hle := sizeL_le (bs s)
  obtain ⟨⟨n, m, c⟩, hz⟩ : ∃ z, sizeL (bs s) = z := ⟨_, rfl⟩
  rw [hz] at hle ⊢
  dsimp only at hle ⊢
  rw [bs_length] at hle
  by_cases hc : c = 0
  · subst hc
    rw [if_pos rfl, if_pos rfl, if_pos (by omega), if_pos (by omega), Int.toNat_natCast, str_drop, str_size]
    obtain ⟨r, hr⟩ : ∃ r, (bs s).drop m = r := ⟨_, rfl⟩
    have hrl : r.length ≤ s.size := by rw [← hr, List.length_drop, bs_length]; omega
    rw [hr]
    by_cases h1 : r.length ≤ n
    · rw [if_pos (by omega), if_pos h1]; rfl
    rw [if_neg (by omega), if_neg h1, if_pos (by omega), if_pos (by omega), bt_str r n (by omega), List.getElem?_eq_getElem (by omega)]
    by_cases h2 : r[n] = 44
    · rw [if_pos (by rw [h2]; rfl), if_pos (by omega), wrap_succ n (by omega), if_pos (by omega), if_pos (by omega), if_pos (show some r[n] = some 44 by rw [h2]), Int.toNat_natCast, Int.toNat_natCast, str_extract, List.drop_zero, str_extract, List.take_of_length_le (Nat.le_refl _)]
    · rw [if_neg (by intro e; exact h2 ((byte_is _ 44 (by decide)).1 e)), if_neg (fun e => h2 (Option.some.inj e))]
      rfl
  · rw [if_neg hc, if_neg hc]; rfl
theorem takeL_rest (l : Bytes) (h : (takeL l).2.2 = 0) : (takeL l).2.1.length + (takeL l).1.length + 1 ≤ l.length := by
  unfold takeL at h ⊢
  by_cases hc : (sizeL l).2.2 = 0
  · rw [if_pos hc] at h ⊢
    by_cases h1 : (l.drop (sizeL l).2.1).length ≤ (sizeL l).1
    · rw [if_pos h1] at h; cases h
    rw [if_neg h1] at h ⊢
    by_cases h2 : (l.drop (sizeL l).2.1)[(sizeL l).1]? = some 44
    · rw [if_pos h2]
      simp only [List.length_drop, List.length_take] at *
      omega
    · rw [if_neg h2] at h; cases h
  · rw [if_neg hc] at h; exact absurd h hc
def textsM : Nat → Bytes → List Bytes → List Bytes × Int
  | 0, _, _ => ([], 99)
  | k + 1, l, acc => if l = [] then (acc, 0) else if (takeL l).2.2 = 0 then textsM k (takeL l).2.1 (acc ++ [(takeL l).1]) else ([], (takeL l).2.2)
def textsL (l : Bytes) : List Bytes × Int := textsM (l.length + 1) l []
theorem netsTexts_l0 : ∀ (n : Nat) (l : Bytes) (acc : List Bytes) (K : Nat), l.length < n → l.length ≤ 1000000 → acc.length + l.length ≤ 1000000 → 2 * l.length + 30 ≤ K →
    nets_Texts.l0 K (str l) (acc.map str) = some ((textsM n l acc).1.map str, (textsM n l acc).2)
  | 0, l, acc, K, h, _, _, _ => by omega
  | n + 1, l, acc, K, h, hl, ha, hK => by
    obtain ⟨K, rfl⟩ : ∃ q, K = q + 1 := ⟨K - 1, by omega⟩
    rw [nets_Texts.l0, textsM, toList_str]
    by_cases h0 : l = []
    · rw [if_pos h0, if_pos h0]
    rw [if_neg h0, if_neg h0, netsTake_is (str l) (by rw [str_size]; omega) K (by rw [str_size]; omega), Option.bind_some, bs_str]
    by_cases h1 : (takeL l).2.2 = 0
    · have hr := takeL_rest l h1
      rw [if_pos h1, if_pos h1, if_pos (by rw [List.length_map]; omega)]
      have ih := netsTexts_l0 n (takeL l).2.1 (acc ++ [(takeL l).1]) K (by omega) (by omega) (by rw [List.length_append, List.length_singleton]; omega) (by omega)
      rw [List.map_append] at ih
      exact ih
    · rw [if_neg h1, if_neg h1]; rfl
theorem netsTexts_is (s : ByteArray) (hs : s.size ≤ 1000000) (K : Nat) (hK : 2 * s.size + 30 ≤ K) : nets_Texts.f K s = some ((textsL (bs s)).1.map str, (textsL (bs s)).2) := by
  unfold nets_Texts.f textsL
  have h := netsTexts_l0 ((bs s).length + 1) (bs s) [] K (Nat.lt_succ_self _) (by rw [bs_length]; exact hs) (by rw [bs_length]; simpa using hs) (by rw [bs_length]; omega)
  rw [str_bs] at h
  exact h
theorem textsM_code : ∀ (n : Nat) (l : Bytes) (acc : List Bytes), l.length < n → acc.length + l.length ≤ 1000000 → (textsM n l acc).1.length ≤ 1000000 ∧ (∀ x ∈ (textsM n l acc).1, x ∈ acc ∨ x.length ≤ l.length)
  | 0, l, acc, h, _ => by omega
  | n + 1, l, acc, h, ha => by
    rw [textsM]
    by_cases h0 : l = []
    · rw [if_pos h0]
      exact ⟨by show acc.length ≤ _; omega, fun x hx => .inl hx⟩
    rw [if_neg h0]
    by_cases h1 : (takeL l).2.2 = 0
    · have hr := takeL_rest l h1
      rw [if_pos h1]
      obtain ⟨a, b⟩ := textsM_code n (takeL l).2.1 (acc ++ [(takeL l).1]) (by omega) (by rw [List.length_append, List.length_singleton]; omega)
      refine ⟨a, fun x hx => ?_⟩
      rcases b x hx with h | h
      · rcases List.mem_append.1 h with h | h
        · exact .inl h
        · rw [List.mem_singleton.1 h]
          exact .inr (by omega)
      · exact .inr (by omega)
    · rw [if_neg h1]
      exact ⟨by simp, fun x hx => by cases hx⟩
def pickL (l : Bytes) (n : Nat) : List Bytes × Int := if (textsL l).2 = 0 then (if (textsL l).1.length = n then textsL l else ([], 3)) else textsL l
theorem netsPick_is (s : ByteArray) (hs : s.size ≤ 1000000) (n : Nat) (K : Nat) (hK : 2 * s.size + 30 ≤ K) : nets_Pick.f K s (n : Int) = some ((pickL (bs s) n).1.map str, (pickL (bs s) n).2) := by
  unfold nets_Pick.f pickL
  rw [netsTexts_is s hs K hK, Option.bind_some]
  dsimp only
  by_cases h1 : (textsL (bs s)).2 = 0
  · rw [if_pos h1, if_pos h1, List.length_map]
    by_cases h2 : (textsL (bs s)).1.length = n
    · rw [if_pos (by omega), if_pos h2]
    · rw [if_neg (by omega), if_neg h2]; rfl
  · rw [if_neg h1, if_neg h1]
/-! What is written is taken again. -/
theorem isD_of (n : Nat) (h : n < 10) : isD (UInt8.ofNat (48 + n)) = true ∧ (UInt8.ofNat (48 + n)).toNat = 48 + n := by
  have e : (UInt8.ofNat (48 + n)).toNat = 48 + n := by rw [UInt8.toNat_ofNat']; omega
  exact ⟨(isD_iff _).2 (by rw [e]; omega), e⟩
theorem dig_isD : ∀ (k n : Nat), ∀ c ∈ dig k n, isD c = true
  | 0, n, c, h => by
    rw [dig, List.mem_singleton] at h
    rw [h]
    exact (isD_of _ (Nat.mod_lt _ (by decide))).1
  | k + 1, n, c, h => by
    rw [dig] at h
    by_cases h1 : n < 10
    · rw [if_pos h1, List.mem_singleton] at h
      rw [h]
      exact (isD_of n h1).1
    · rw [if_neg h1, List.mem_append, List.mem_singleton] at h
      rcases h with h | h
      · exact dig_isD k _ c h
      · rw [h]
        exact (isD_of _ (Nat.mod_lt _ (by decide))).1
theorem dig_val : ∀ (k n : Nat), n < 10 ^ (k + 1) → val (dig k n) = n
  | 0, n, h => by
    have h : n < 10 := by simpa using h
    rw [dig, Nat.mod_eq_of_lt h, ← List.nil_append [UInt8.ofNat (48 + n)], val_snoc, (isD_of n h).2]
    show 0 * 10 + _ = _
    omega
  | k + 1, n, h => by
    rw [dig]
    by_cases h1 : n < 10
    · rw [if_pos h1, ← List.nil_append [UInt8.ofNat (48 + n)], val_snoc, (isD_of n h1).2]
      show 0 * 10 + _ = _
      omega
    · rw [if_neg h1, val_snoc, dig_val k (n / 10) (by rw [Nat.pow_succ] at h; omega), (isD_of _ (Nat.mod_lt n (by decide))).2]
      omega
theorem dig_long : ∀ (k n j : Nat), n < 10 ^ (j + 1) → (dig k n).length ≤ j + 1
  | 0, n, j, _ => by simp [dig]
  | k + 1, n, j, h => by
    rw [dig]
    by_cases h1 : n < 10
    · rw [if_pos h1]; simp
    · rw [if_neg h1, List.length_append, List.length_singleton]
      cases j with
      | zero => simp at h; omega
      | succ j =>
        have := dig_long k (n / 10) j (by rw [Nat.pow_succ] at h; omega)
        omega
theorem dig_ne (k n : Nat) : dig k n ≠ [] := by
  cases k with
  | zero => simp [dig]
  | succ k => rw [dig]; split <;> simp
theorem dig_head : ∀ (k n : Nat), 1 ≤ n → n < 10 ^ (k + 1) → (dig k n)[0]? ≠ some 48
  | 0, n, h0, h => by
    have h : n < 10 := by simpa using h
    rw [dig, Nat.mod_eq_of_lt h]
    intro e
    have e := congrArg UInt8.toNat (Option.some.inj (show some (UInt8.ofNat (48 + n)) = some 48 from e))
    rw [(isD_of n h).2] at e
    have : (48 : UInt8).toNat = 48 := rfl
    omega
  | k + 1, n, h0, h => by
    rw [dig]
    by_cases h1 : n < 10
    · rw [if_pos h1]
      intro e
      have e := congrArg UInt8.toNat (Option.some.inj (show some (UInt8.ofNat (48 + n)) = some 48 from e))
      rw [(isD_of n h1).2] at e
      have : (48 : UInt8).toNat = 48 := rfl
      omega
    · rw [if_neg h1, List.getElem?_append_left (List.length_pos_iff.2 (dig_ne _ _))]
      exact dig_head k (n / 10) (by omega) (by rw [Nat.pow_succ] at h; omega)
theorem digs_app (d r : Bytes) (c : UInt8) (hd : ∀ x ∈ d, isD x = true) (hc : isD c = false) : digs (d ++ c :: r) = d := by
  induction d with
  | nil => unfold digs; rw [List.nil_append, List.takeWhile_cons, if_neg (by rw [hc]; decide)]
  | cons x d ih =>
    unfold digs at *
    rw [List.cons_append, List.takeWhile_cons, if_pos (hd x (by simp)), ih (fun y hy => hd y (by simp [hy]))]
theorem size_net (n : Nat) (hn : n < 10 ^ 9) (r : Bytes) : sizeL (digL n ++ 58 :: r) = (n, (digL n).length + 1, 0) := by
  have h1 := digs_app (digL n) r 58 (dig_isD 20 n) (by decide)
  have h2 : (digL n).length ≤ 9 := dig_long 20 n 8 hn
  have h3 := dig_ne 20 n
  have h4 : 0 < (digL n).length := List.length_pos_iff.2 h3
  unfold sizeL
  rw [if_neg (by simp), h1, if_neg (by omega), if_neg (by omega), if_neg (by rw [List.length_append, List.length_cons]; omega)]
  rw [if_pos, show val (digL n) = n from dig_val 20 n (by omega)]
  refine ⟨by rw [List.getElem?_append_right (Nat.le_refl _), Nat.sub_self]; rfl, ?_⟩
  rintro ⟨h5, h6⟩
  rw [List.getElem?_append_left h4] at h6
  by_cases hz : n = 0
  · subst hz
    exact absurd h5 (by decide +kernel)
  · exact dig_head 20 n (by omega) (by omega) h6
theorem take_net (x r : Bytes) (hx : x.length < 10 ^ 9) : takeL (netL x ++ r) = (x, r, 0) := by
  have e : netL x ++ r = digL x.length ++ 58 :: (x ++ 44 :: r) := by
    unfold netL
    simp
  unfold takeL
  rw [e, size_net x.length hx]
  dsimp only
  have hd : (digL x.length ++ 58 :: (x ++ 44 :: r)).drop ((digL x.length).length + 1) = x ++ 44 :: r := by
    rw [← List.drop_drop, List.drop_left]
    rfl
  rw [if_pos rfl, hd, if_neg (by rw [List.length_append, List.length_cons]; omega), if_pos (by rw [List.getElem?_append_right (Nat.le_refl _), Nat.sub_self]; rfl), List.take_left, ← List.drop_drop, List.drop_left]
  rfl
theorem texts_nets : ∀ (ts : List Bytes) (n : Nat) (acc : List Bytes), (∀ x ∈ ts, x.length < 10 ^ 9) → (netsL ts).length < n → textsM n (netsL ts) acc = (acc ++ ts, 0)
  | [], n, acc, _, h => by
    obtain ⟨n, rfl⟩ : ∃ q, n = q + 1 := ⟨n - 1, by omega⟩
    rw [textsM, if_pos (show netsL [] = [] from rfl), List.append_nil]
  | x :: ts, n, acc, hx, h => by
    obtain ⟨n, rfl⟩ : ∃ q, n = q + 1 := ⟨n - 1, by omega⟩
    have e : netsL (x :: ts) = netL x ++ netsL ts := rfl
    have hlen : 1 ≤ (netL x).length := by
      unfold netL
      rw [List.length_append, List.length_cons]
      omega
    have hne : netsL (x :: ts) ≠ [] := by
      intro h0
      have := congrArg List.length h0
      rw [e, List.length_append, List.length_nil] at this
      omega
    rw [textsM, if_neg hne]
    rw [e, List.length_append] at h
    rw [e, take_net x _ (hx x (by simp))]
    dsimp only
    rw [if_pos rfl, texts_nets ts n (acc ++ [x]) (fun y hy => hx y (by simp [hy])) (by omega)]
    simp
theorem pick_nets (ts : List Bytes) (hx : ∀ x ∈ ts, x.length < 10 ^ 9) : pickL (netsL ts) ts.length = (ts, 0) := by
  unfold pickL textsL
  rw [texts_nets ts _ [] hx (Nat.lt_succ_self _)]
  dsimp only
  rw [if_pos rfl, List.nil_append, if_pos rfl]
end Go.Proofs.YtnnlhpmkfijppaaDoor.Pl
set_option linter.unusedVariables false
namespace Go.Proofs.YtnnlhpmkfijppaaDoor.Pl
open Go.RowKit Go.Proofs.YtnnlhpmkfijppaaDoorW.PrintWords Go.Proofs.YtnnlhpmkfijppaaDoor.Fn
end Go.Proofs.YtnnlhpmkfijppaaDoor.Pl
set_option linter.unusedVariables false
namespace Go.Proofs.YtnnlhpmkfijppaaDoor.Pl
open Go.RowKit Go.Proofs.YtnnlhpmkfijppaaDoorW.PrintWords Go.Proofs.YtnnlhpmkfijppaaDoor.Fn

/-! Capital letters, dots, quotes and the sign @. -/
theorem forall_byte {p : UInt8 → Prop} [DecidablePred p] (h : ∀ i : Fin 256, p (UInt8.ofNat i.val)) (c : UInt8) : p c := by
 have := h ⟨c.toNat, c.toNat_lt⟩
 simpa using this
def plainB (c : UInt8) : Bool := decide (32 ≤ c.toNat) && decide (c.toNat ≤ 126)
set_option maxRecDepth 100000 in
theorem plain_text (c : UInt8) : plainB c = true → text c = true := forall_byte (p := fun c => plainB c = true → text c = true) (by decide +kernel) c
theorem labelL_bytes {w : Bytes} (h : labelL w = true) {c : UInt8} (hc : c ∈ w) : labelled c = true := by
 unfold labelL at h
 rw [Bool.and_eq_true] at h
 exact List.all_eq_true.1 h.1 c hc
theorem glyphFold_is (s : ByteArray) (h : s.size ≤ 1000000000) : glyph_Fold.f s = some (str (fold (bs s))) := by
 unfold glyph_Fold.f
 rw [if_pos (by omega)]
 rfl

/-! plain: of all bytes -/
theorem plainFrom_bytes (s : ByteArray) : ∀ (f pos : Nat), s.size ≤ pos + f → pos ≤ s.size → plainFrom s f pos = ((bs s).drop pos).all plainB := by
 intro f
 induction f with
 | zero =>
  intro pos h1 h2
  rw [plainFrom, List.drop_of_length_le (by rw [bs_length]; omega)]
  rfl
 | succ f ih =>
  intro pos h1 h2
  rw [plainFrom]
  by_cases hp : pos < s.size
  ·rw [if_pos hp]
   have hl : pos < (bs s).length := by rw [bs_length]; exact hp
   have hd : (bs s).drop pos = (bs s)[pos] :: (bs s).drop (pos + 1) := List.drop_eq_getElem_cons hl
   rw [hd, List.all_cons]
   have hg : s.get! pos = (bs s)[pos] := by
    simp [ByteArray.get!, getElem!_pos, hp, bs]
   by_cases hb : (bs s)[pos].toNat < 128
   ·have hdec : Utf8.decode s pos = ((bs s)[pos].toNat, 1) := by
     rw [Lib.decode_at, hg]
     unfold Lib.decodeN
     rw [if_pos hb]
    rw [hdec]
    by_cases hpl : plainB (bs s)[pos] = true
    ·rw [if_pos (by exact hpl), ih (pos + 1) (by omega) (by omega), hpl, Bool.true_and]
    ·rw [if_neg (by exact hpl)]
     rw [Bool.not_eq_true] at hpl
     rw [hpl, Bool.false_and]
   ·have hdec : 128 ≤ (Utf8.decode s pos).1 := by
     rw [Lib.decode_at, hg]
     unfold Lib.decodeN
     rw [if_neg hb]
     have := (bs s)[pos].toNat_lt
     repeat' split
     all_goals (first | omega | (simp only []; omega))
    rw [if_neg (by unfold plainR; simp; omega)]
    have : plainB (bs s)[pos] = false := by unfold plainB; simp; omega
    rw [this, Bool.false_and]
  ·rw [if_neg hp, List.drop_of_length_le (by rw [bs_length]; omega)]
   rfl
theorem plain_L (s : ByteArray) : plain s = (bs s).all plainB := by
 unfold plain
 rw [plainFrom_bytes s s.size 0 (by omega) (by omega), List.drop_zero]
end Go.Proofs.YtnnlhpmkfijppaaDoor.Pl
set_option linter.unusedVariables false
namespace Go.Proofs.YtnnlhpmkfijppaaDoor.Pl
open Go.RowKit Go.Proofs.YtnnlhpmkfijppaaDoorW.PrintWords Go.Proofs.YtnnlhpmkfijppaaDoor.Fn

/-! Layer 13, the document's, over lists of bytes: it answers as the program does. -/
/-! IsAtom -/
/-! Quote -/
theorem text_34 : text 34 = true := by decide +kernel
end Go.Proofs.YtnnlhpmkfijppaaDoor.Pl
set_option linter.unusedVariables false
namespace Go.Proofs.YtnnlhpmkfijppaaDoor.Pl
open Go.RowKit Go.Proofs.YtnnlhpmkfijppaaDoorW.PrintWords Go.Proofs.YtnnlhpmkfijppaaDoor.Fn

/-! Layer 12: tokens, by one machine over lists of bytes; the document's Scan is this machine. -/
inductive Sc where
 | out
 | atom (w : Bytes)
 | quot (w : Bytes) (b : Bool)
 | comm (d : Nat) (b : Bool)
abbrev Tok := Int × Bytes
def whiteB (c : UInt8) : Bool := c == 32 || c == 9
def foldAt : Bytes → Bool
 | a :: b :: c :: _ => a == 13 && b == 10 && whiteB c
 | _ => false
def signB (c : UInt8) : Bool := (⟨#[60, 62, 58, 59, 64, 44, 46]⟩ : ByteArray).data.toList.contains c
def stepOut (acc : List Tok) (c : UInt8) (l : Bytes) : (List Tok × Sc × Bytes) ⊕ Int :=
 if foldAt (c :: l) = true then .inl (acc, .out, l.tail)
 else if atomic c = true then .inl (acc, .atom [c], l)
 else if c = 34 then .inl (acc, .quot [] false, l)
 else if c = 40 then .inl (acc, .comm 1 false, l)
 else if signB c = true then .inl (acc ++ [(3, [c])], .out, l)
 else if whiteB c = true then .inl (acc, .out, l)
 else .inr 3
def commAfter (acc : List Tok) (d : Nat) (l : Bytes) : (List Tok × Sc × Bytes) ⊕ Int :=
 if 16 < d then .inr 1 else if d = 0 then .inl (acc, .out, l) else .inl (acc, .comm d false, l)
def step (acc : List Tok) (st : Sc) (c : UInt8) (l : Bytes) : (List Tok × Sc × Bytes) ⊕ Int :=
 match st with
 | .out => stepOut acc c l
 | .atom w => if atomic c = true then .inl (acc, .atom (w ++ [c]), l) else stepOut (acc ++ [(1, w)]) c l
 | .quot w true => if text c = true then .inl (acc, .quot (w ++ [c]) false, l) else .inr 3
 | .comm d true => if text c = true then .inl (acc, .comm d false, l) else .inr 3
 | .quot w false =>
  if foldAt (c :: l) = true then .inl (acc, .quot w false, l.tail)
  else if c = 92 then .inl (acc, .quot w true, l)
  else if text c = true then (if c = 34 then .inl (acc ++ [(2, w)], .out, l) else .inl (acc, .quot (w ++ [c]) false, l))
  else .inr 3
 | .comm d false =>
  if foldAt (c :: l) = true then .inl (acc, .comm d false, l.tail)
  else if c = 92 then .inl (acc, .comm d true, l)
  else if text c = true then commAfter acc (if c = 40 then d + 1 else if c = 41 then d - 1 else d) l
  else .inr 3
def endOf (acc : List Tok) : Sc → List Tok × Int
 | .out => (acc, 0)
 | .atom w => (acc ++ [(1, w)], 0)
 | _ => ([], 9)
def scan : Nat → List Tok → Sc → Bytes → List Tok × Int
 | _, acc, st, [] => endOf acc st
 | 0, _, _, _ :: _ => ([], 7)
 | k + 1, acc, st, c :: l => match step acc st c l with
  | .inl (acc', st', l') => scan k acc' st' l'
  | .inr e => ([], e)
theorem stepOut_le {acc : List Tok} {c : UInt8} {l : Bytes} {a : List Tok} {s : Sc} {r : Bytes} (h : stepOut acc c l = .inl (a, s, r)) : r.length ≤ l.length := by
 unfold stepOut at h
 repeat' split at h
 all_goals (first | (cases h; done) | (simp only [Sum.inl.injEq, Prod.mk.injEq] at h; obtain ⟨_, _, rfl⟩ := h; simp))
theorem step_le {acc : List Tok} {st : Sc} {c : UInt8} {l : Bytes} {a : List Tok} {s : Sc} {r : Bytes} (h : step acc st c l = .inl (a, s, r)) : r.length ≤ l.length := by
 unfold step commAfter at h
 repeat' split at h
 all_goals (first | exact stepOut_le h | (cases h; done) | (simp only [Sum.inl.injEq, Prod.mk.injEq] at h; obtain ⟨_, _, rfl⟩ := h; simp))
theorem scan_more : ∀ (k : Nat) (acc : List Tok) (st : Sc) (l : Bytes), l.length ≤ k → scan k acc st l = scan (k + 1) acc st l
 | k, acc, st, [], _ => by cases k <;> rfl
 | 0, acc, st, c :: l, h => by simp at h
 | k + 1, acc, st, c :: l, h => by
  rw [scan, scan]
  cases hs : step acc st c l with
  | inr e => rfl
  | inl x =>
   obtain ⟨a, s, r⟩ := x
   have := step_le hs
   simp only [List.length_cons] at h
   exact scan_more k a s r (by omega)
def scanL (acc : List Tok) (st : Sc) (l : Bytes) : List Tok × Int := scan l.length acc st l
theorem scan_enough (k : Nat) (acc : List Tok) (st : Sc) (l : Bytes) (h : l.length ≤ k) : scan k acc st l = scanL acc st l := by
 unfold scanL
 obtain ⟨d, rfl⟩ : ∃ d, k = l.length + d := ⟨k - l.length, by omega⟩
 clear h
 induction d with
 | zero => rfl
 | succ d ih => rw [← Nat.add_assoc, ← scan_more _ _ _ _ (by omega)]; exact ih
theorem scanL_nil (acc : List Tok) (st : Sc) : scanL acc st [] = endOf acc st := rfl
theorem scanL_cons (acc : List Tok) (st : Sc) (c : UInt8) (l : Bytes) : scanL acc st (c :: l) = match step acc st c l with
  | .inl (acc', st', l') => scanL acc' st' l'
  | .inr e => ([], e) := by
 rw [scanL, List.length_cons, scan]
 cases hs : step acc st c l with
 | inr e => rfl
 | inl x =>
  obtain ⟨a, s, r⟩ := x
  exact scan_enough _ _ _ _ (step_le hs)

/-! The document's Scan -/
def wOf : Sc → Bytes
 | .atom w => w
 | .quot w _ => w
 | _ => []
theorem byte_ofNat (c : UInt8) (n : Nat) (h : n < 256) : ((c.toNat : Int) = ((n : Nat) : Int)) ↔ c = UInt8.ofNat n := by rw [byte_eq c n h]
theorem tail_drop {s : ByteArray} {i : Nat} {c : UInt8} {l : Bytes} (hd : (bs s).drop i = c :: l) (hf : foldAt (c :: l) = true) : (bs s).drop (i + 2) = l.tail ∧ i + 2 ≤ (bs s).length ∧ l.tail.length ≤ l.length := by
 obtain ⟨h1, h2, h3, h4⟩ := drop_cons hd
 cases l with
 | nil => cases hf
 | cons b l =>
  obtain ⟨g1, g2, g3, g4⟩ := drop_cons h3
  exact ⟨g3, by omega, by simp⟩
end Go.Proofs.YtnnlhpmkfijppaaDoor.Pl
set_option linter.unusedVariables false
namespace Go.Proofs.YtnnlhpmkfijppaaDoor.Pl
open Go.RowKit Go.Proofs.YtnnlhpmkfijppaaDoorW.PrintWords Go.Proofs.YtnnlhpmkfijppaaDoor.Fn

/-! Layer 12, the program's: its Scan is the same machine. -/
set_option maxRecDepth 100000 in
theorem lexsign_is (c : UInt8) : lex_sign.f (c.toNat : Int) = some (signB c) := forall_byte (p := fun c => lex_sign.f (c.toNat : Int) = some (signB c)) (by decide +kernel) c
set_option maxRecDepth 100000 in
theorem lexwhite_is (c : UInt8) : lex_white.f (c.toNat : Int) = some (whiteB c) := forall_byte (p := fun c => lex_white.f (c.toNat : Int) = some (whiteB c)) (by decide +kernel) c
set_option maxRecDepth 100000 in
theorem atomic_apart (c : UInt8) : atomic c = true → c ≠ 13 ∧ c ≠ 40 ∧ c ≠ 34 ∧ c ≠ 32 ∧ c ≠ 9 ∧ signB c = false := forall_byte (p := fun c => atomic c = true → c ≠ 13 ∧ c ≠ 40 ∧ c ≠ 34 ∧ c ≠ 32 ∧ c ≠ 9 ∧ signB c = false) (by decide +kernel) c
set_option maxRecDepth 100000 in
theorem white_apart (c : UInt8) : whiteB c = true → c ≠ 13 ∧ c ≠ 40 ∧ c ≠ 34 ∧ atomic c = false ∧ signB c = false := forall_byte (p := fun c => whiteB c = true → c ≠ 13 ∧ c ≠ 40 ∧ c ≠ 34 ∧ atomic c = false ∧ signB c = false) (by decide +kernel) c
theorem fold_not {c : UInt8} (h : c ≠ 13) (l : Bytes) : foldAt (c :: l) = false := by
 cases l with
 | nil => rfl
 | cons b l =>
  cases l with
  | nil => rfl
  | cons e l => simp only [foldAt]; simp [h]
theorem lexfold_is (s : ByteArray) (hs : s.size ≤ 1000000) : lex_fold.f s = some (foldAt (bs s)) := by
 have hlen := bs_length s
 unfold lex_fold.f
 cases hb : bs s with
 | nil =>
  rw [hb] at hlen
  simp only [List.length_nil] at hlen
  rw [if_neg (by omega)]; rfl
 | cons a l =>
  have h0 : (bs s).drop 0 = a :: l := by simpa using hb
  cases l with
  | nil =>
   rw [hb] at hlen
   simp only [List.length_cons, List.length_nil] at hlen
   rw [if_neg (by omega)]; rfl
  | cons b l =>
   have h1 : (bs s).drop 1 = b :: l := (drop_cons h0).2.2.1
   cases l with
   | nil =>
    rw [hb] at hlen
    simp only [List.length_cons, List.length_nil] at hlen
    rw [if_neg (by omega)]; rfl
   | cons c l =>
    have h2 : (bs s).drop 2 = c :: l := (drop_cons h1).2.2.1
    rw [hb] at hlen
    simp only [List.length_cons] at hlen
    have e0 : bt s 0 = (a.toNat : Int) := bt_drop h0
    have e1 : bt s 1 = (b.toNat : Int) := bt_drop h1
    have e2 : bt s 2 = (c.toNat : Int) := bt_drop h2
    rw [if_pos (by omega), if_pos (by omega), e0]
    by_cases a13 : a = 13
    ·rw [if_pos (by rw [a13]; rfl), if_pos (by omega), e1]
     by_cases b10 : b = 10
     ·rw [if_pos (by rw [b10]; rfl), if_pos (by omega), e2, lexwhite_is, a13, b10]
      simp [foldAt]
     ·rw [if_neg (c := (b.toNat : Int) = 10) (fun h => b10 ((byte_ofNat b 10 (by decide)).1 h))]
      simp [foldAt, b10]
    ·rw [if_neg (c := (a.toNat : Int) = 13) (fun h => a13 ((byte_ofNat a 13 (by decide)).1 h))]
     simp [foldAt, a13]
def escL : Bytes → Int
 | [] => 9
 | c :: _ => if text c = true then 0 else 3
theorem lexescaped_is (s : ByteArray) : lex_escaped.f s = some (escL (bs s)) := by
 unfold lex_escaped.f
 rw [toList_bs]
 cases hb : bs s with
 | nil => rw [if_pos rfl]; rfl
 | cons c l =>
  have hlen := bs_length s
  rw [hb] at hlen
  simp only [List.length_cons] at hlen
  have e0 : bt s 0 = (c.toNat : Int) := bt_drop (s := s) (i := 0) (by simpa using hb)
  rw [if_neg (by simp), if_pos (by omega), e0, text_is, Option.bind_some]
  show (if text c = true then some (0 : Int) else some 3) = some (if text c = true then 0 else 3)
  cases text c <;> rfl
theorem bs_rest (s : ByteArray) (i : Nat) : bs (s.extract i s.size) = (bs s).drop i := by
 rw [bs_extract, List.take_of_length_le (by rw [bs_length]; exact Nat.le_refl _)]
theorem str_rest (s : ByteArray) (i : Nat) : s.extract i s.size = str ((bs s).drop i) := by
 apply bs_inj
 rw [bs_rest, bs_str]
def QuotSays (s : ByteArray) (k i : Nat) (w l : Bytes) : Prop :=
 (∃ w' r, lex_quoted.l0 k s (numsOf w) (i : Int) = some (2, str w', str r, 0) ∧ r.length ≤ l.length ∧ ∀ acc, scanL acc (.quot w false) l = scanL (acc ++ [(2, w')]) .out r) ∨
 (∃ e, e ≠ 0 ∧ lex_quoted.l0 k s (numsOf w) (i : Int) = some (0, str [], str [], e) ∧ ∀ acc, scanL acc (.quot w false) l = ([], e))
theorem QuotSays.le {s : ByteArray} {k k' i i' : Nat} {w w' l l' : Bytes} (h : QuotSays s k i w l) (hk : lex_quoted.l0 k' s (numsOf w') (i' : Int) = lex_quoted.l0 k s (numsOf w) (i : Int)) (hl : l.length ≤ l'.length) (hs : ∀ acc, scanL acc (.quot w' false) l' = scanL acc (.quot w false) l) : QuotSays s k' i' w' l' := by
 rcases h with ⟨a, r, h1, h2, h3⟩ | ⟨e, h1, h2, h3⟩
 ·exact .inl ⟨a, r, hk.trans h1, by omega, fun acc => (hs acc).trans (h3 acc)⟩
 ·exact .inr ⟨e, h1, hk.trans h2, fun acc => (hs acc).trans (h3 acc)⟩
theorem lexquoted_l0 (s : ByteArray) (hs : s.size ≤ 1000000) : ∀ (n k i : Nat) (w l : Bytes), l.length ≤ n → n + 1 ≤ k → (bs s).drop i = l → i ≤ (bs s).length → w.length ≤ i → QuotSays s k i w l
 | n, k, i, w, [], hn, hk, hd, hi, hw => by
  obtain ⟨k, rfl⟩ : ∃ j, k = j + 1 := ⟨k - 1, by omega⟩
  have := drop_nil hd
  rw [bs_length] at this hi
  refine .inr ⟨9, by decide, ?_, fun acc => rfl⟩
  rw [lex_quoted.l0, if_neg (by omega)]
  rfl
 | 0, k, i, w, c :: l, hn, hk, hd, hi, hw => by simp at hn
 | n + 1, k, i, w, c :: l, hn, hk, hd, hi, hw => by
  obtain ⟨k, rfl⟩ : ∃ j, k = j + 1 := ⟨k - 1, by omega⟩
  obtain ⟨h1, h2, h3, h4⟩ := drop_cons hd
  have h5 : i < s.size := by rw [bs_length] at h1; exact h1
  simp only [List.length_cons] at hn
  have e1 : wrap64 ((i : Int) + 1) = ((i + 1 : Nat) : Int) := wrap_succ i (by omega)
  have e2 : wrap64 (wrap64 ((i : Int) + 1) + 1) = ((i + 2 : Nat) : Int) := by rw [e1, wrap_succ (i + 1) (by omega)]
  have hl0 : ∀ X : Option (Int × ByteArray × ByteArray × Int), X = lex_quoted.l0 (k + 1) s (numsOf w) (i : Int) → lex_quoted.l0 (k + 1) s (numsOf w) (i : Int) = X := fun X h => h.symm
  have hstart : lex_quoted.l0 (k + 1) s (numsOf w) (i : Int) = (if foldAt (c :: l) = true then (lex_quoted.l0 k s (numsOf w) ((i + 2 : Nat) : Int)) else (if (c.toNat : Int) = 92 then (if escL l = 0 then (lex_quoted.l0 k s (numsOf w ++ [bt s ((i + 1 : Nat) : Int)]) ((i + 2 : Nat) : Int)) else some (0, (⟨#[]⟩ : ByteArray), (⟨#[]⟩ : ByteArray), escL l)) else (if (c.toNat : Int) = 34 then some (2, strOfNums (numsOf w), str l, 0) else (if text c = true then lex_quoted.l0 k s (numsOf w ++ [(c.toNat : Int)]) ((i + 1 : Nat) : Int) else some (0, (⟨#[]⟩ : ByteArray), (⟨#[]⟩ : ByteArray), 3))))) := by
   rw [lex_quoted.l0, if_pos (by omega), if_pos (by omega), if_pos (by omega)]
   simp only [Int.toNat_natCast]
   rw [lexfold_is _ (by simp only [ByteArray.size_extract]; omega), bs_rest, hd, Option.bind_some]
   cases hf : foldAt (c :: l) with
   | true => rw [if_pos rfl, if_pos rfl, e2]
   | false =>
    rw [if_neg (c := false = true) (by decide), if_neg (c := false = true) (by decide), bt_drop hd]
    by_cases c92 : (c.toNat : Int) = 92
    ·rw [if_pos c92, if_pos c92, e1, if_pos (by omega), if_pos (by omega)]
     simp only [Int.toNat_natCast]
     rw [lexescaped_is, bs_rest, h3, Option.bind_some]
     by_cases he : escL l = 0
     ·rw [if_pos he, if_pos he]
      have hne : i + 1 < s.size := by
       rcases Nat.lt_or_ge (i + 1) s.size with q | q
       ·exact q
       ·have : l = [] := by rw [← h3]; exact List.drop_of_length_le (by rw [bs_length]; exact q)
        rw [this] at he; cases he
      rw [if_pos (by omega), if_pos (by rw [numsOf_length]; omega), wrap_succ (i + 1) (by omega)]
     ·rw [if_neg he, if_neg he]
    ·rw [if_neg c92, if_neg c92]
     by_cases c34 : (c.toNat : Int) = 34
     ·rw [if_pos c34, if_pos c34, e1, if_pos (by omega), if_pos (by omega)]
      simp only [Int.toNat_natCast]
      rw [str_rest, h3]
     ·rw [if_neg c34, if_neg c34, text_is, Option.bind_some]
      cases ht : text c with
      | true => rw [if_pos rfl, if_pos rfl, if_pos (by rw [numsOf_length]; omega), e1]
      | false => rw [if_neg (c := false = true) (by decide), if_neg (c := false = true) (by decide)]
  cases hf : foldAt (c :: l) with
  | true =>
   obtain ⟨t1, t2, t3⟩ := tail_drop hd hf
   rw [hf, if_pos rfl] at hstart
   refine (lexquoted_l0 s hs n k (i + 2) w l.tail (by omega) (by omega) t1 t2 (by omega)).le hstart (by simp; omega) (fun acc => ?_)
   rw [scanL_cons]
   unfold step
   simp only []
   rw [hf, if_pos rfl]
  | false =>
   rw [hf, if_neg (by decide)] at hstart
   by_cases c92 : c = 92
   ·rw [if_pos (by rw [c92]; rfl)] at hstart
    have hst : ∀ acc, scanL acc (.quot w false) (c :: l) = scanL acc (.quot w true) l := by
     intro acc
     rw [scanL_cons]
     unfold step
     simp only []
     rw [hf, if_neg (by decide), if_pos c92]
    cases hl : l with
    | nil =>
     rw [hl] at hstart
     refine .inr ⟨9, by decide, hstart.trans rfl, fun acc => ?_⟩
     rw [← hl, hst, hl]
     rfl
    | cons x l2 =>
     have hdx : (bs s).drop (i + 1) = x :: l2 := by rw [h3, hl]
     obtain ⟨g1, g2, g3, g4⟩ := drop_cons hdx
     have hsx : ∀ acc, scanL acc (.quot w false) (c :: x :: l2) = if text x = true then scanL acc (.quot (w ++ [x]) false) l2 else ([], 3) := by
      intro acc
      rw [← hl, hst, hl, scanL_cons]
      unfold step
      cases text x <;> rfl
     rw [hl] at hstart hn
     simp only [List.length_cons] at hn
     cases ht : text x with
     | true =>
      rw [show escL (x :: l2) = 0 by show (if text x = true then (0 : Int) else 3) = 0; rw [ht]; rfl, if_pos rfl, bt_drop hdx, show numsOf w ++ [(x.toNat : Int)] = numsOf (w ++ [x]) by simp [numsOf]] at hstart
      refine (lexquoted_l0 s hs n k (i + 2) (w ++ [x]) l2 (by omega) (by omega) g3 (by omega) (by simp; omega)).le hstart (by simp; omega) (fun acc => ?_)
      rw [hsx, ht, if_pos rfl]
     | false =>
      rw [show escL (x :: l2) = 3 by show (if text x = true then (0 : Int) else 3) = 3; rw [ht]; rfl, if_neg (by decide)] at hstart
      exact .inr ⟨3, by decide, hstart, fun acc => by rw [hsx, ht]; rfl⟩
   ·rw [if_neg (c := (c.toNat : Int) = 92) (fun h => c92 ((byte_ofNat c 92 (by decide)).1 h))] at hstart
    by_cases c34 : c = 34
    ·rw [if_pos (by rw [c34]; rfl), strOfNums_of] at hstart
     refine .inl ⟨w, l, hstart, by simp, fun acc => ?_⟩
     rw [scanL_cons]
     unfold step
     simp only []
     rw [hf, if_neg (by decide), if_neg c92, if_pos (by rw [c34]; exact text_34), if_pos c34]
    ·rw [if_neg (c := (c.toNat : Int) = 34) (fun h => c34 ((byte_ofNat c 34 (by decide)).1 h))] at hstart
     cases ht : text c with
     | true =>
      rw [ht, if_pos rfl, show numsOf w ++ [(c.toNat : Int)] = numsOf (w ++ [c]) by simp [numsOf]] at hstart
      refine (lexquoted_l0 s hs n k (i + 1) (w ++ [c]) l (by omega) (by omega) h3 (by omega) (by simp; omega)).le hstart (by simp) (fun acc => ?_)
      rw [scanL_cons]
      unfold step
      simp only []
      rw [hf, ht, if_neg (by decide), if_neg c92, if_pos rfl, if_neg c34]
     | false =>
      rw [ht, if_neg (by decide)] at hstart
      refine .inr ⟨3, by decide, hstart, fun acc => ?_⟩
      rw [scanL_cons]
      unfold step
      simp only []
      rw [hf, ht, if_neg (by decide), if_neg c92, if_neg (by decide)]

def CommSays (s : ByteArray) (k i m : Nat) (l : Bytes) : Prop :=
 (∃ r, lex_comment.l0 k s (m : Int) (i : Int) = some (str r, 0) ∧ r.length ≤ l.length ∧ ∀ acc, scanL acc (.comm m false) l = scanL acc .out r) ∨
 (∃ e, e ≠ 0 ∧ lex_comment.l0 k s (m : Int) (i : Int) = some (str [], e) ∧ ∀ acc, scanL acc (.comm m false) l = ([], e))
theorem CommSays.le {s : ByteArray} {k k' i i' m m' : Nat} {l l' : Bytes} (h : CommSays s k i m l) (hk : lex_comment.l0 k' s (m' : Int) (i' : Int) = lex_comment.l0 k s (m : Int) (i : Int)) (hl : l.length ≤ l'.length) (hs : ∀ acc, scanL acc (.comm m' false) l' = scanL acc (.comm m false) l) : CommSays s k' i' m' l' := by
 rcases h with ⟨r, h1, h2, h3⟩ | ⟨e, h1, h2, h3⟩
 ·exact .inl ⟨r, hk.trans h1, by omega, fun acc => (hs acc).trans (h3 acc)⟩
 ·exact .inr ⟨e, h1, hk.trans h2, fun acc => (hs acc).trans (h3 acc)⟩
theorem text_40 : text 40 = true := by decide +kernel
theorem text_41 : text 41 = true := by decide +kernel
theorem lexcomment_l0 (s : ByteArray) (hs : s.size ≤ 1000000) : ∀ (n k i m : Nat) (l : Bytes), l.length ≤ n → 3 * n + 3 ≤ k → (bs s).drop i = l → i ≤ (bs s).length → 1 ≤ m → m ≤ 16 → CommSays s k i m l
 | n, k, i, m, [], hn, hk, hd, hi, hm1, hm2 => by
  obtain ⟨k, rfl⟩ : ∃ j, k = j + 1 := ⟨k - 1, by omega⟩
  have := drop_nil hd
  rw [bs_length] at this hi
  refine .inr ⟨9, by decide, ?_, fun acc => rfl⟩
  rw [lex_comment.l0, if_neg (by omega), if_pos (by omega)]
  rfl
 | 0, k, i, m, c :: l, hn, hk, hd, hi, hm1, hm2 => by simp at hn
 | n + 1, k, i, m, c :: l, hn, hk, hd, hi, hm1, hm2 => by
  obtain ⟨k, rfl⟩ : ∃ j, k = j + 3 := ⟨k - 3, by omega⟩
  obtain ⟨h1, h2, h3, h4⟩ := drop_cons hd
  have h5 : i < s.size := by rw [bs_length] at h1; exact h1
  simp only [List.length_cons] at hn
  have e1 : wrap64 ((i : Int) + 1) = ((i + 1 : Nat) : Int) := wrap_succ i (by omega)
  have e2 : wrap64 (wrap64 ((i : Int) + 1) + 1) = ((i + 2 : Nat) : Int) := by rw [e1, wrap_succ (i + 1) (by omega)]
  have hstart : lex_comment.l0 (k + 3) s (m : Int) (i : Int) = (if foldAt (c :: l) = true then (lex_comment.l0 (k + 2) s (m : Int) ((i + 2 : Nat) : Int)) else (if (c.toNat : Int) = 92 then (if escL l = 0 then (lex_comment.l0 (k + 2) s (m : Int) ((i + 2 : Nat) : Int)) else some ((⟨#[]⟩ : ByteArray), escL l)) else (if (c.toNat : Int) = 40 then lex_comment.j1 (k + 2) s (m : Int) (i : Int) (c.toNat : Int) ((m : Int) == 16) else lex_comment.j1 (k + 2) s (m : Int) (i : Int) (c.toNat : Int) false))) := by
   rw [lex_comment.l0, if_pos (by omega), if_pos (by omega), if_pos (by omega)]
   simp only [Int.toNat_natCast]
   rw [lexfold_is _ (by simp only [ByteArray.size_extract]; omega), bs_rest, hd, Option.bind_some]
   cases hf : foldAt (c :: l) with
   | true => rw [if_pos rfl, if_pos rfl, e2]
   | false =>
    rw [if_neg (c := false = true) (by decide), if_neg (c := false = true) (by decide), bt_drop hd]
    by_cases c92 : (c.toNat : Int) = 92
    ·rw [if_pos c92, if_pos c92, e1, if_pos (by omega), if_pos (by omega)]
     simp only [Int.toNat_natCast]
     rw [lexescaped_is, bs_rest, h3, Option.bind_some, wrap_succ (i + 1) (by omega)]
    ·rw [if_neg c92, if_neg c92]
  cases hf : foldAt (c :: l) with
  | true =>
   obtain ⟨t1, t2, t3⟩ := tail_drop hd hf
   rw [hf, if_pos rfl] at hstart
   refine (lexcomment_l0 s hs n (k + 2) (i + 2) m l.tail (by omega) (by omega) t1 t2 hm1 hm2).le hstart (by simp; omega) (fun acc => ?_)
   rw [scanL_cons]
   unfold step
   simp only []
   rw [hf, if_pos rfl]
  | false =>
   rw [hf, if_neg (by decide)] at hstart
   by_cases c92 : c = 92
   ·rw [if_pos (by rw [c92]; rfl)] at hstart
    have hst : ∀ acc, scanL acc (.comm m false) (c :: l) = scanL acc (.comm m true) l := by
     intro acc
     rw [scanL_cons]
     unfold step
     simp only []
     rw [hf, if_neg (by decide), if_pos c92]
    cases hl : l with
    | nil =>
     rw [hl] at hstart
     refine .inr ⟨9, by decide, hstart.trans rfl, fun acc => ?_⟩
     rw [← hl, hst, hl]
     rfl
    | cons x l2 =>
     have hdx : (bs s).drop (i + 1) = x :: l2 := by rw [h3, hl]
     obtain ⟨g1, g2, g3, g4⟩ := drop_cons hdx
     have hsx : ∀ acc, scanL acc (.comm m false) (c :: x :: l2) = if text x = true then scanL acc (.comm m false) l2 else ([], 3) := by
      intro acc
      rw [← hl, hst, hl, scanL_cons]
      unfold step
      cases text x <;> rfl
     rw [hl] at hstart hn
     simp only [List.length_cons] at hn
     cases ht : text x with
     | true =>
      rw [show escL (x :: l2) = 0 by show (if text x = true then (0 : Int) else 3) = 0; rw [ht]; rfl, if_pos rfl] at hstart
      refine (lexcomment_l0 s hs n (k + 2) (i + 2) m l2 (by omega) (by omega) g3 (by omega) hm1 hm2).le hstart (by simp; omega) (fun acc => ?_)
      rw [hsx, ht, if_pos rfl]
     | false =>
      rw [show escL (x :: l2) = 3 by show (if text x = true then (0 : Int) else 3) = 3; rw [ht]; rfl, if_neg (by decide)] at hstart
      exact .inr ⟨3, by decide, hstart, fun acc => by rw [hsx, ht]; rfl⟩
   ·rw [if_neg (c := (c.toNat : Int) = 92) (fun h => c92 ((byte_ofNat c 92 (by decide)).1 h))] at hstart
    have hst : text c = true → ∀ acc, scanL acc (.comm m false) (c :: l) = (match commAfter acc (if c = 40 then m + 1 else if c = 41 then m - 1 else m) l with | .inl (a, t, r) => scanL a t r | .inr e => ([], e)) := by
     intro ht acc
     rw [scanL_cons]
     unfold step
     simp only []
     rw [hf, ht, if_neg (by decide), if_neg c92, if_pos rfl]
     all_goals rfl
    by_cases c40 : c = 40
    ·have ht : text c = true := by rw [c40]; exact text_40
     rw [if_pos (by rw [c40]; rfl), lex_comment.j1] at hstart
     by_cases h16 : m = 16
     ·rw [show ((m : Int) == 16) = true by rw [h16]; rfl, if_pos rfl] at hstart
      refine .inr ⟨1, by decide, hstart, fun acc => ?_⟩
      rw [hst ht, if_pos c40]
      unfold commAfter
      rw [if_pos (by omega)]
     ·rw [show ((m : Int) == 16) = false by rw [beq_eq_false_iff_ne]; omega, if_neg (by decide), if_pos (by rw [c40]; rfl), e1, wrap_id (by omega) (by omega), show ((m : Int) + 1) = ((m + 1 : Nat) : Int) by omega] at hstart
      refine (lexcomment_l0 s hs n (k + 1) (i + 1) (m + 1) l (by omega) (by omega) h3 (by omega) (by omega) (by omega)).le hstart (by simp) (fun acc => ?_)
      rw [hst ht, if_pos c40]
      unfold commAfter
      rw [if_neg (by omega), if_neg (by omega)]
    ·rw [if_neg (c := (c.toNat : Int) = 40) (fun h => c40 ((byte_ofNat c 40 (by decide)).1 h)), lex_comment.j1, if_neg (by decide), if_neg (c := (c.toNat : Int) = 40) (fun h => c40 ((byte_ofNat c 40 (by decide)).1 h))] at hstart
     by_cases c41 : c = 41
     ·have ht : text c = true := by rw [c41]; exact text_41
      rw [if_pos (by rw [c41]; rfl), lex_comment.j2] at hstart
      by_cases h1' : m = 1
      ·rw [show ((m : Int) == 1) = true by rw [h1']; rfl, if_pos rfl, e1, if_pos (by omega), if_pos (by omega), if_neg (by decide)] at hstart
       simp only [Int.toNat_natCast] at hstart
       rw [str_rest, h3] at hstart
       refine .inl ⟨l, hstart, by simp, fun acc => ?_⟩
       rw [hst ht, if_neg c40, if_pos c41, h1']
       rfl
      ·rw [show ((m : Int) == 1) = false by rw [beq_eq_false_iff_ne]; omega, if_neg (by decide), if_pos (by rw [c41]; rfl), e1, wrap_id (by omega) (by omega), show ((m : Int) - 1) = ((m - 1 : Nat) : Int) by omega] at hstart
       refine (lexcomment_l0 s hs n k (i + 1) (m - 1) l (by omega) (by omega) h3 (by omega) (by omega) (by omega)).le hstart (by simp) (fun acc => ?_)
       rw [hst ht, if_neg c40, if_pos c41]
       unfold commAfter
       rw [if_neg (by omega), if_neg (by omega)]
     ·rw [if_neg (c := (c.toNat : Int) = 41) (fun h => c41 ((byte_ofNat c 41 (by decide)).1 h)), lex_comment.j2, if_neg (by decide), if_neg (c := (c.toNat : Int) = 41) (fun h => c41 ((byte_ofNat c 41 (by decide)).1 h)), text_is, Option.bind_some] at hstart
      cases ht : text c with
      | true =>
       rw [ht, if_pos rfl, e1] at hstart
       refine (lexcomment_l0 s hs n k (i + 1) m l (by omega) (by omega) h3 (by omega) hm1 hm2).le hstart (by simp) (fun acc => ?_)
       rw [hst ht, if_neg c40, if_neg c41]
       unfold commAfter
       rw [if_neg (by omega), if_neg (by omega)]
      | false =>
       rw [ht, if_neg (by decide)] at hstart
       refine .inr ⟨3, by decide, hstart, fun acc => ?_⟩
       rw [scanL_cons]
       unfold step
       simp only []
       rw [hf, ht, if_neg (by decide), if_neg c92, if_neg (by decide)]

theorem lexatom_l0 (s : ByteArray) (hs : s.size ≤ 1000000) : ∀ (n k i : Nat) (l : Bytes), l.length ≤ n → n + 1 ≤ k → (bs s).drop i = l → i ≤ (bs s).length → 1 ≤ i →
  ∃ j, i ≤ j ∧ j ≤ (bs s).length ∧ lex_next.l0 k s (i : Int) = some (1, str ((bs s).take j), str ((bs s).drop j), 0) ∧ ∀ acc, scanL acc (.atom ((bs s).take i)) l = scanL (acc ++ [(1, (bs s).take j)]) .out ((bs s).drop j)
 | n, k, i, [], hn, hk, hd, hi, h1 => by
  obtain ⟨k, rfl⟩ : ∃ j, k = j + 1 := ⟨k - 1, by omega⟩
  have := drop_nil hd
  have hl := bs_length s
  refine ⟨i, Nat.le_refl _, hi, ?_, fun acc => by rw [hd]; rfl⟩
  rw [lex_next.l0, if_neg (by omega), if_neg (by omega), if_pos (by omega), if_pos (by omega)]
  simp only [Int.toNat_natCast]
  rw [str_rest, show s.extract 0 i = str ((bs s).take i) by apply bs_inj; rw [bs_extract, bs_str, List.drop_zero]]
 | 0, k, i, c :: l, hn, hk, hd, hi, h1 => by simp at hn
 | n + 1, k, i, c :: l, hn, hk, hd, hi, h0 => by
  obtain ⟨k, rfl⟩ : ∃ j, k = j + 1 := ⟨k - 1, by omega⟩
  obtain ⟨h1, h2, h3, h4⟩ := drop_cons hd
  have h5 : i < s.size := by rw [bs_length] at h1; exact h1
  simp only [List.length_cons] at hn
  cases ha : atomic c with
  | true =>
   obtain ⟨j, q1, q2, q3, q4⟩ := lexatom_l0 s hs n k (i + 1) l (by omega) (by omega) h3 (by omega) (by omega)
   refine ⟨j, by omega, q2, ?_, fun acc => ?_⟩
   ·rw [lex_next.l0, if_pos (by omega), if_pos (by omega), bt_drop hd, atomic_is, Option.bind_some, ha, if_pos rfl, wrap_succ i (by omega)]
    exact q3
   ·rw [scanL_cons]
    unfold step
    simp only []
    rw [ha, if_pos rfl, ← h4]
    exact q4 acc
  | false =>
   refine ⟨i, Nat.le_refl _, by omega, ?_, fun acc => ?_⟩
   ·rw [lex_next.l0, if_pos (by omega), if_pos (by omega), bt_drop hd, atomic_is, Option.bind_some, ha, if_neg (by decide), if_neg (by omega), if_pos (by omega)]
    simp only [Int.toNat_natCast]
    rw [str_rest, show s.extract 0 i = str ((bs s).take i) by apply bs_inj; rw [bs_extract, bs_str, List.drop_zero]]
   ·rw [hd, scanL_cons, scanL_cons]
    unfold step
    simp only []
    rw [ha, if_neg (by decide)]
theorem wrap_01 : wrap64 ((0 : Int) + 1) = ((1 : Nat) : Int) := wrap_succ 0 (by decide)
theorem lexnext_is (s : ByteArray) (hs : s.size ≤ 1000000) (c : UInt8) (l : Bytes) (hb : bs s = c :: l) (k : Nat) (hk : 3 * s.size + 10 ≤ k) :
  (∃ (kd : Int) (t r : Bytes), lex_next.f k s = some (kd, str t, str r, 0) ∧ r.length ≤ l.length ∧ ∀ acc, scanL acc .out (c :: l) = scanL (if kd = 0 then acc else acc ++ [(kd, t)]) .out r) ∨
  (∃ (kd : Int) (t : Bytes) (r : ByteArray) (e : Int), e ≠ 0 ∧ lex_next.f k s = some (kd, str t, r, e) ∧ ∀ acc, scanL acc .out (c :: l) = ([], e)) := by
 have hlen := bs_length s
 rw [hb] at hlen
 simp only [List.length_cons] at hlen
 have hd : (bs s).drop 0 = c :: l := by rw [hb]; rfl
 have hd1 : (bs s).drop 1 = l := (drop_cons hd).2.2.1
 have hbt : bt s 0 = (c.toNat : Int) := bt_drop hd
 have eE : s.extract 1 s.size = str l := by rw [str_rest, hd1]
 have hsc : ∀ acc, scanL acc .out (c :: l) = (match stepOut acc c l with | .inl (a, t, r) => scanL a t r | .inr e => ([], e)) := by
  intro acc
  rw [scanL_cons]
  rfl
 have hout : ∀ (a b d e f g : Bool), foldAt (c :: l) = a → atomic c = b → signB c = f → whiteB c = g → ∀ acc, stepOut acc c l = if a = true then .inl (acc, .out, l.tail) else if b = true then .inl (acc, .atom [c], l) else if c = 34 then .inl (acc, .quot [] false, l) else if c = 40 then .inl (acc, .comm 1 false, l) else if f = true then .inl (acc ++ [(3, [c])], .out, l) else if g = true then .inl (acc, .out, l) else .inr 3 := by
  intro a b d e f g h1 h2 h3 h4 acc
  unfold stepOut
  rw [h1, h2, h3, h4]
 unfold lex_next.f
 rw [if_pos (by omega), hbt, lexwhite_is, Option.bind_some]
 cases hw : whiteB c with
 | true =>
  obtain ⟨n13, n40, n34, na, ns⟩ := white_apart c hw
  have hf := fold_not n13 l
  rw [if_pos rfl, if_pos (by omega), eE]
  refine .inl ⟨0, [], l, rfl, Nat.le_refl _, fun acc => ?_⟩
  rw [hsc, hout false false false false false true hf na ns hw, if_neg (by decide), if_neg (by decide), if_neg n34, if_neg n40, if_neg (by decide), if_pos rfl, if_pos rfl]
 | false =>
  rw [if_neg (by decide), lexfold_is s hs, Option.bind_some, hb]
  cases hf : foldAt (c :: l) with
  | true =>
   obtain ⟨t1, t2, t3⟩ := tail_drop hd hf
   rw [bs_length] at t2
   rw [if_pos rfl, if_pos (by omega), show s.extract 2 s.size = str l.tail by rw [str_rest]; congr 1]
   refine .inl ⟨0, [], l.tail, rfl, by simp, fun acc => ?_⟩
   rw [hsc, hout true _ false false _ _ hf rfl rfl rfl, if_pos rfl, if_pos rfl]
  | false =>
   rw [if_neg (c := false = true) (by decide)]
   by_cases c40 : c = 40
   ·have na : atomic c = false := by rw [c40]; decide +kernel
    rw [if_pos (by rw [c40]; rfl)]
    obtain ⟨k, rfl⟩ : ∃ j, k = j + 2 := ⟨k - 2, by omega⟩
    have hcm : lex_comment.f (k + 2) s = lex_comment.l0 k s ((1 : Nat) : Int) ((1 : Nat) : Int) := by
     unfold lex_comment.f
     rw [lex_comment.l0, if_pos (by omega), if_pos (by decide), if_pos (by omega), show s.extract (0 : Int).toNat s.size = s from extract_all s, lexfold_is s hs, hb, hf, Option.bind_some, if_neg (by decide), hbt, if_neg (c := (c.toNat : Int) = 92) (by rw [c40]; decide), if_pos (by rw [c40]; rfl), show ((0 : Int) == 16) = false from rfl, lex_comment.j1, if_neg (by decide), if_pos (by rw [c40]; rfl), wrap_01]
    rw [hcm]
    have hso : ∀ acc, scanL acc .out (c :: l) = scanL acc (.comm 1 false) l := by
     intro acc
     rw [hsc, hout false false false false _ _ hf na rfl rfl, if_neg (by decide), if_neg (by decide), if_neg (by rw [c40]; decide), if_pos c40]
    rcases lexcomment_l0 s hs l.length k 1 1 l (Nat.le_refl _) (by omega) hd1 (by rw [hb]; simp) (by decide) (by decide) with ⟨r, h1, h2, h3⟩ | ⟨e, h1, h2, h3⟩
    ·rw [h1]
     exact .inl ⟨0, [], r, rfl, h2, fun acc => by rw [hso, h3, if_pos rfl]⟩
    ·rw [h2]
     exact .inr ⟨0, [], str [], e, h1, rfl, fun acc => by rw [hso, h3]⟩
   ·rw [if_neg (c := (c.toNat : Int) = 40) (fun h => c40 ((byte_ofNat c 40 (by decide)).1 h))]
    by_cases c34 : c = 34
    ·have na : atomic c = false := by rw [c34]; decide +kernel
     rw [if_pos (by rw [c34]; rfl)]
     have hso : ∀ acc, scanL acc .out (c :: l) = scanL acc (.quot [] false) l := by
      intro acc
      rw [hsc, hout false false false false _ _ hf na rfl rfl, if_neg (by decide), if_neg (by decide), if_pos c34]
     rcases lexquoted_l0 s hs l.length k 1 [] l (Nat.le_refl _) (by omega) hd1 (by rw [hb]; simp) (by simp) with ⟨w', r, h1, h2, h3⟩ | ⟨e, h1, h2, h3⟩
     ·rw [show lex_quoted.f k s = lex_quoted.l0 k s (numsOf []) ((1 : Nat) : Int) from rfl, h1]
      exact .inl ⟨2, w', r, rfl, h2, fun acc => by rw [hso, h3, if_neg (by decide)]⟩
     ·rw [show lex_quoted.f k s = lex_quoted.l0 k s (numsOf []) ((1 : Nat) : Int) from rfl, h2]
      exact .inr ⟨0, [], str [], e, h1, rfl, fun acc => by rw [hso, h3]⟩
    ·rw [if_neg (c := (c.toNat : Int) = 34) (fun h => c34 ((byte_ofNat c 34 (by decide)).1 h)), lexsign_is, Option.bind_some]
     cases hsg : signB c with
     | true =>
      have na : atomic c = false := by
       cases ha : atomic c with
       | false => rfl
       | true => have := (atomic_apart c ha).2.2.2.2.2; rw [hsg] at this; cases this
      rw [if_pos rfl, if_pos (by decide), if_pos (by omega), eE, show s.extract 0 1 = str [c] from extract_one (i := 0) hd]
      refine .inl ⟨3, [c], l, rfl, Nat.le_refl _, fun acc => ?_⟩
      rw [hsc, hout false false false false true false hf na hsg hw, if_neg (by decide), if_neg (by decide), if_neg c34, if_neg c40, if_pos rfl, if_neg (by decide)]
     | false =>
      rw [if_neg (c := false = true) (by decide)]
      obtain ⟨k, rfl⟩ : ∃ j, k = j + 1 := ⟨k - 1, by omega⟩
      cases ha : atomic c with
      | false =>
       rw [lex_next.l0, if_pos (by omega), if_pos (by decide), hbt, atomic_is, ha, Option.bind_some, if_neg (by decide), if_pos rfl]
       refine .inr ⟨0, [], _, 3, by decide, rfl, fun acc => ?_⟩
       rw [hsc, hout false false false false false false hf ha hsg hw, if_neg (by decide), if_neg (by decide), if_neg c34, if_neg c40, if_neg (by decide), if_neg (by decide)]
      | true =>
       rw [lex_next.l0, if_pos (by omega), if_pos (by decide), hbt, atomic_is, ha, Option.bind_some, if_pos rfl, wrap_01]
       obtain ⟨j, q1, q2, q3, q4⟩ := lexatom_l0 s hs l.length k 1 l (Nat.le_refl _) (by omega) hd1 (by rw [hb]; simp) (by decide)
       rw [q3]
       refine .inl ⟨1, _, _, rfl, ?_, fun acc => ?_⟩
       ·rw [hb]
        simp only [List.length_drop, List.length_cons]
        omega
       ·rw [hsc, hout false true false false _ _ hf ha rfl rfl, if_neg (by decide), if_pos rfl, if_neg (by decide), ← q4 acc, hb]
        rfl
def tok142 (t : Tok) : S71 := ⟨t.1, str t.2⟩
theorem lexScan_l0 : ∀ (n k : Nat) (s : ByteArray) (acc : List Tok), s.size ≤ n → s.size ≤ 1000000 → 4 * n + 20 ≤ k → acc.length + s.size ≤ 1000000 →
  lex_Scan.l0 k s (acc.map tok142) = some ((scanL acc .out (bs s)).1.map tok142, (scanL acc .out (bs s)).2)
 | n, k, s, acc, hn, hs, hk, ha => by
  obtain ⟨k, rfl⟩ : ∃ j, k = j + 1 := ⟨k - 1, by omega⟩
  have hlen := bs_length s
  rw [lex_Scan.l0, toList_bs]
  cases hb : bs s with
  | nil => rw [if_pos rfl]; rfl
  | cons c l =>
   rw [hb] at hlen
   simp only [List.length_cons] at hlen
   obtain ⟨n, rfl⟩ : ∃ j, n = j + 1 := ⟨n - 1, by omega⟩
   rw [if_neg (by simp)]
   rcases lexnext_is s hs c l hb k (by omega) with ⟨kd, t, r, h1, h2, h3⟩ | ⟨kd, t, r, e, h0, h1, h3⟩
   ·rw [h1, Option.bind_some, if_pos rfl, h3]
    by_cases hkd : kd = 0
    ·rw [if_pos hkd, if_pos hkd, lexScan_l0 n k (str r) acc (by rw [str_size]; omega) (by rw [str_size]; omega) (by omega) (by rw [str_size]; omega), bs_str]
    ·rw [if_neg hkd, if_neg hkd, if_pos (by rw [List.length_map]; omega), show acc.map tok142 ++ [(⟨kd, str t⟩ : S71)] = (acc ++ [(kd, t)]).map tok142 by simp [tok142],
      lexScan_l0 n k (str r) (acc ++ [(kd, t)]) (by rw [str_size]; omega) (by rw [str_size]; omega) (by omega) (by rw [str_size]; simp; omega), bs_str]
   ·rw [h1, Option.bind_some, if_neg h0, h3]
    rfl
theorem lexScan_is (s : ByteArray) (hs : s.size ≤ 1000000) (k : Nat) (hk : 4 * s.size + 20 ≤ k) : lex_Scan.f k s = some ((scanL [] .out (bs s)).1.map tok142, (scanL [] .out (bs s)).2) := by
 have := lexScan_l0 s.size k s [] (Nat.le_refl _) hs hk (by simpa using hs)
 unfold lex_Scan.f
 exact this
end Go.Proofs.YtnnlhpmkfijppaaDoor.Pl
set_option linter.unusedVariables false
set_option linter.unusedSimpArgs false
namespace Go.Proofs.YtnnlhpmkfijppaaDoor.Pl
open Go.RowKit Go.Proofs.YtnnlhpmkfijppaaDoorW.PrintWords Go.Proofs.YtnnlhpmkfijppaaDoor.Fn

/-! The reference's glyph functions, as the plain ones. -/
end Go.Proofs.YtnnlhpmkfijppaaDoor.Pl
set_option linter.unusedVariables false
namespace Go.Proofs.YtnnlhpmkfijppaaDoor.Pl
open Go.RowKit Go.Proofs.YtnnlhpmkfijppaaDoorW.PrintWords Go.Proofs.YtnnlhpmkfijppaaDoor.Fn

/-! The document's labels, domains, right addresses. -/
def labN (n : Int) : Prop := (97 ≤ n ∧ n ≤ 122) ∨ (65 ≤ n ∧ n ≤ 90) ∨ (48 ≤ n ∧ n ≤ 57) ∨ n = 45
instance (n : Int) : Decidable (labN n) := by unfold labN; infer_instance
end Go.Proofs.YtnnlhpmkfijppaaDoor.Pl
set_option linter.unusedVariables false
namespace Go.Proofs.YtnnlhpmkfijppaaDoor.Pl
open Go.RowKit Go.Proofs.YtnnlhpmkfijppaaDoorW.PrintWords Go.Proofs.YtnnlhpmkfijppaaDoor.Fn

/-! Layer 13: the address that tokens are. -/
def isT (t : Tok) (s : Bytes) : Bool := t.1 == 3 && t.2 == s
def wordT (t : Tok) : Bool := t.1 != 3
def atomT (t : Tok) : Bool := t.1 != 3 && t.1 == 1
def altOk (p : Tok → Bool) : List Tok → Bool
 | [] => false
 | [x] => p x
 | x :: d :: r => p x && isT d [46] && altOk p r
def cat (l : List Tok) : Bytes := l.flatMap (·.2)
def atSplit : List Tok → Option (List Tok × List Tok)
 | [] => none
 | t :: r => if isT t [64] = true then some ([], r) else (atSplit r).map fun x => (t :: x.1, x.2)
abbrev Res := ByteArray × ByteArray × Int
def finish (a b : Bytes) : Res := if why (str a) (str (fold b)) = 0 then (str a, str (fold b), 0) else (str [], str [], why (str a) (str (fold b)))
def noAddr : Res := (str [], str [], 130)
def ofT (l : List Tok) : Res := match atSplit l with
 | none => noAddr
 | some (A, B) => if altOk wordT A = true ∧ altOk atomT B = true then finish (cat A) (cat B) else noAddr

theorem atSplit_some {l A B : List Tok} (h : atSplit l = some (A, B)) : ∃ t, isT t [64] = true ∧ l = A ++ t :: B ∧ ∀ x ∈ A, isT x [64] = false := by
 induction l generalizing A B with
 | nil => cases h
 | cons t r ih =>
  rw [atSplit] at h
  by_cases ht : isT t [64] = true
  ·rw [if_pos ht] at h
   cases h
   exact ⟨t, ht, rfl, by simp⟩
  ·rw [if_neg ht] at h
   cases hr : atSplit r with
   | none => rw [hr] at h; cases h
   | some x =>
    obtain ⟨A', B'⟩ := x
    rw [hr] at h
    simp only [Option.map_some, Option.some.injEq, Prod.mk.injEq] at h
    obtain ⟨rfl, rfl⟩ := h
    obtain ⟨u, h1, h2, h3⟩ := ih hr
    refine ⟨u, h1, by rw [h2]; rfl, ?_⟩
    intro x hx
    rcases List.mem_cons.1 hx with e | e
    ·rw [e]; simpa using ht
    ·exact h3 x e
theorem atSplit_of {A B : List Tok} {t : Tok} (ht : isT t [64] = true) (hA : ∀ x ∈ A, isT x [64] = false) : atSplit (A ++ t :: B) = some (A, B) := by
 induction A with
 | nil => rw [List.nil_append, atSplit, if_pos ht]
 | cons a A ih =>
  rw [List.cons_append, atSplit, if_neg (by rw [hA a (by simp)]; decide), ih (fun x hx => hA x (List.mem_cons_of_mem _ hx))]
  rfl

/-! the program's: words joined by dots, as long as they go on -/
def jn (p : Tok → Bool) : List Tok → Option (Bytes × List Tok)
 | [] => none
 | [x] => if p x = true then some (x.2, []) else none
 | x :: d :: r => if p x = true then (if isT d [46] = true then (jn p r).map fun y => (x.2 ++ d.2 ++ y.1, y.2) else some (x.2, d :: r)) else none
theorem jn_some (p : Tok → Bool) : ∀ {l : List Tok} {s : Bytes} {q : List Tok}, jn p l = some (s, q) → ∃ A, l = A ++ q ∧ altOk p A = true ∧ s = cat A
 | [], s, q, h => by cases h
 | [x], s, q, h => by
  rw [jn] at h
  by_cases hp : p x = true
  ·rw [if_pos hp] at h
   simp only [Option.some.injEq, Prod.mk.injEq] at h
   obtain ⟨rfl, rfl⟩ := h
   exact ⟨[x], rfl, hp, by simp [cat]⟩
  ·rw [if_neg hp] at h; cases h
 | x :: d :: r, s, q, h => by
  rw [jn] at h
  by_cases hp : p x = true
  ·rw [if_pos hp] at h
   by_cases hd : isT d [46] = true
   ·rw [if_pos hd] at h
    cases hr : jn p r with
    | none => rw [hr] at h; cases h
    | some y =>
     obtain ⟨s', q'⟩ := y
     rw [hr] at h
     simp only [Option.map_some, Option.some.injEq, Prod.mk.injEq] at h
     obtain ⟨rfl, rfl⟩ := h
     obtain ⟨A, h1, h2, h3⟩ := jn_some p hr
     refine ⟨x :: d :: A, by rw [h1]; rfl, ?_, ?_⟩
     ·rw [altOk, hp, hd, h2]; rfl
     ·rw [h3]; simp [cat]
   ·rw [if_neg hd] at h
    simp only [Option.some.injEq, Prod.mk.injEq] at h
    obtain ⟨rfl, rfl⟩ := h
    exact ⟨[x], rfl, hp, by simp [cat]⟩
  ·rw [if_neg hp] at h; cases h
theorem jn_of (p : Tok → Bool) : ∀ (A q : List Tok), altOk p A = true → (∀ d r, q = d :: r → isT d [46] = false) → jn p (A ++ q) = some (cat A, q)
 | [], q, h, _ => by cases h
 | [x], q, h, hq => by
  have hp : p x = true := h
  cases q with
  | nil => rw [List.append_nil, jn, if_pos hp]; simp [cat]
  | cons d r =>
   rw [show [x] ++ d :: r = x :: d :: r from rfl, jn, if_pos hp, if_neg (by rw [hq d r rfl]; decide)]
   simp [cat]
 | x :: d :: A, q, h, hq => by
  rw [altOk, Bool.and_eq_true, Bool.and_eq_true] at h
  rw [show (x :: d :: A) ++ q = x :: d :: (A ++ q) from rfl, jn, if_pos h.1.1, if_pos h.1.2, jn_of p A q h.2 hq]
  simp [cat]
def resJ (w : Bytes) : Option (Bytes × List Tok) → ByteArray × List S71 × Bool
 | none => (str [], [], false)
 | some (s, q) => (str (w ++ s), q.map tok142, true)
def pOf (b : Bool) : Tok → Bool := fun t => if b = true then atomT t else wordT t
theorem rd142_0 (x : Tok) (r : List Tok) : rd_T71 ((x :: r).map tok142) 0 = tok142 x := rfl
theorem beq_str (t : Bytes) (a : Array UInt8) : ((str t).toList == (⟨a⟩ : ByteArray).toList) = (t == a.toList) := by
 rw [toList_str, toList_bs]
 rfl
def headIs (l : List Tok) (s : Bytes) : Bool := match l with | [] => false | t :: _ => isT t s
theorem addris_is (l : List Tok) (a : Array UInt8) : addr_is.f (l.map tok142) (⟨a⟩ : ByteArray) = some (headIs l a.toList) := by
 unfold addr_is.f
 cases l with
 | nil => rw [if_neg (by simp)]; rfl
 | cons t r =>
  rw [if_pos (by simp <;> omega), if_pos (by simp <;> omega), rd142_0]
  unfold headIs isT tok142
  simp only []
  rw [beq_str]
theorem joined_is (b : Bool) : ∀ (n k : Nat) (l : List Tok) (w : Bytes), l.length ≤ n → 2 * n + 2 ≤ k → w.length + (cat l).length ≤ 1000000 →
  addr_joined.l0 k (l.map tok142) b (str w) = some (resJ w (jn (pOf b) l))
 | n, k, [], w, hn, hk, hw => by
  obtain ⟨k, rfl⟩ : ∃ j, k = j + 2 := ⟨k - 2, by omega⟩
  rw [addr_joined.l0, if_pos (by simp), addr_joined.j1, if_pos rfl]
  rfl
 | 0, k, x :: r, w, hn, hk, hw => by simp at hn
 | n + 1, k, x :: r, w, hn, hk, hw => by
  obtain ⟨k, rfl⟩ : ∃ j, k = j + 2 := ⟨k - 2, by omega⟩
  simp only [List.length_cons] at hn
  have hsel : addr_joined.l0 (k + 2) ((x :: r).map tok142) b (str w) = addr_joined.j1 (k + 1) ((x :: r).map tok142) b (str w) (!(pOf b x)) := by
   rw [addr_joined.l0, if_neg (by simp <;> omega), if_pos (by simp <;> omega), rd142_0]
   have e3 : ((tok142 x).f0 = 3) = (x.1 = 3) := rfl
   unfold pOf atomT wordT
   by_cases h3 : x.1 = 3
   ·rw [if_pos (by rw [e3]; exact h3)]
    cases b <;> simp [h3]
   ·rw [if_neg (by rw [e3]; exact h3)]
    have q3 : (x.1 == 3) = false := by simpa using h3
    cases b with
    | true => rw [if_pos rfl]; simp [q3, tok142, bne]
    | false => rw [if_neg (by decide)]; simp [q3, bne]
  have hc : (cat (x :: r)).length = x.2.length + (cat r).length := by simp [cat]
  rw [hsel, addr_joined.j1]
  cases hp : pOf b x with
  | false =>
   rw [show (!false) = true from rfl, if_pos rfl]
   have : jn (pOf b) (x :: r) = none := by
    cases r with
    | nil => rw [jn, if_neg (by rw [hp]; decide)]
    | cons d r => rw [jn, if_neg (by rw [hp]; decide)]
   rw [this]
   rfl
  | true =>
   rw [show (!true) = false from rfl, if_neg (by decide), if_pos (by simp <;> omega), rd142_0, show (tok142 x).f1 = str x.2 from rfl, str_app, if_pos (by rw [str_size, str_size]; omega), if_pos (by simp <;> omega), Option.bind_some,
    show ((x :: r).map tok142).drop 1 = r.map tok142 from rfl, addris_is, Option.bind_some]
   cases r with
   | nil =>
    rw [show headIs [] (#[46] : Array UInt8).toList = false from rfl, if_neg (by decide), jn, if_pos hp]
    rfl
   | cons d r =>
    simp only [List.length_cons] at hn
    have hc2 : (cat (d :: r)).length = d.2.length + (cat r).length := by simp [cat]
    rw [jn, if_pos hp]
    cases hd : isT d [46] with
    | false =>
     rw [show headIs (d :: r) (#[46] : Array UInt8).toList = isT d [46] from rfl, hd, if_neg (by decide), if_neg (by decide)]
     rfl
    | true =>
     have hd2 : d.2 = [46] := by
      unfold isT at hd
      rw [Bool.and_eq_true, beq_iff_eq, beq_iff_eq] at hd
      exact hd.2
     rw [show headIs (d :: r) (#[46] : Array UInt8).toList = isT d [46] from rfl, hd, if_pos rfl, if_pos (by rw [str_size]; rw [hd2] at hc2; simp at hc2 ⊢ <;> omega), if_pos (by simp <;> omega), if_pos rfl,
      show ((d :: r).map tok142).drop 1 = r.map tok142 from rfl, show (⟨#[46]⟩ : ByteArray) = str [46] from rfl, str_app]
     rw [joined_is b n k r (w ++ x.2 ++ [46]) (by omega) (by omega) (by rw [hd2] at hc2; simp at hc2 ⊢ <;> omega)]
     cases hj : jn (pOf b) r with
     | none => rfl
     | some y =>
      obtain ⟨s, q⟩ := y
      simp [resJ, hd2]
theorem no64 {p : Tok → Bool} (hp : ∀ t, p t = true → t.1 ≠ 3) : ∀ {A : List Tok}, altOk p A = true → ∀ x ∈ A, isT x [64] = false
 | [], h, x, hx => by cases hx
 | [y], h, x, hx => by
  have : x = y := by simpa using hx
  subst this
  have := hp x h
  unfold isT
  simp [this]
 | y :: d :: A, h, x, hx => by
  rw [altOk, Bool.and_eq_true, Bool.and_eq_true] at h
  rcases List.mem_cons.1 hx with e | e
  ·rw [e]
   have := hp y h.1.1
   unfold isT
   simp [this]
  ·rcases List.mem_cons.1 e with e | e
   ·rw [e]
    have := h.1.2
    unfold isT at this ⊢
    rw [Bool.and_eq_true, beq_iff_eq, beq_iff_eq] at this
    rw [this.2]
    simp
   ·exact no64 hp h.2 x e
theorem addrOf_is (l : List Tok) (hl : l.length ≤ 100000) (hc : (cat l).length ≤ 100000) (k : Nat) (hk : 2 * l.length + 400000 ≤ k) : addr_Of.f k (l.map tok142) = some (ofT l) := by
 obtain ⟨k, rfl⟩ : ∃ j, k = j + 2 := ⟨k - 2, by omega⟩
 have bad : ∀ (k : Nat) (x : List S71) (y : ByteArray), addr_Of.j0 (k + 1) x y true = some noAddr := by
  intro k x y
  rw [addr_Of.j0, if_pos rfl]
  rfl
 have bad1 : ∀ (k : Nat) (x y : ByteArray), addr_Of.j1 (k + 1) x y true = some noAddr := by
  intro k x y
  rw [addr_Of.j1, if_pos rfl]
  rfl
 unfold addr_Of.f addr_joined.f
 rw [show (⟨#[]⟩ : ByteArray) = str [] from rfl, joined_is false l.length (k + 2) l [] (Nat.le_refl _) (by omega) (by simp <;> omega), Option.bind_some]
 have hpf : pOf false = wordT := by funext t; rfl
 have hpt : pOf true = atomT := by funext t; rfl
 rw [hpf]
 have hword : ∀ t, wordT t = true → t.1 ≠ 3 := fun t h => by unfold wordT at h; simpa using h
 cases hj : jn wordT l with
 | none =>
  rw [show resJ [] none = (str [], [], false) from rfl, if_neg (by decide), bad]
  unfold ofT
  cases hs : atSplit l with
  | none => rfl
  | some x =>
   obtain ⟨A, B⟩ := x
   obtain ⟨t, h1, h2, h3⟩ := atSplit_some hs
   simp only []
   rw [if_neg]
   rintro ⟨g, _⟩
   have := jn_of wordT A (t :: B) g (fun d r e => by
    cases e
    unfold isT at h1 ⊢
    rw [Bool.and_eq_true, beq_iff_eq, beq_iff_eq] at h1
    rw [h1.2]
    simp)
   rw [← h2, hj] at this
   cases this
 | some y =>
  obtain ⟨s, q⟩ := y
  obtain ⟨A0, g1, g2, g3⟩ := jn_some wordT hj
  have hA0 := no64 hword g2
  rw [show resJ [] (some (s, q)) = (str s, q.map tok142, true) from rfl]
  simp only [if_true]
  rw [addris_is, Option.bind_some]
  have hother : (∀ t r, q = t :: r → isT t [64] = false) → ofT l = noAddr := by
   intro hq
   unfold ofT
   cases hs : atSplit l with
   | none => rfl
   | some x =>
    obtain ⟨A, B⟩ := x
    obtain ⟨t, h1, h2, h3⟩ := atSplit_some hs
    simp only []
    rw [if_neg]
    rintro ⟨g, _⟩
    have hh := jn_of wordT A (t :: B) g (fun d r e => by
     cases e
     unfold isT at h1 ⊢
     rw [Bool.and_eq_true, beq_iff_eq, beq_iff_eq] at h1
     rw [h1.2]
     simp)
    rw [← h2, hj] at hh
    simp only [Option.some.injEq, Prod.mk.injEq] at hh
    have := hq t B hh.2
    rw [h1] at this
    cases this
  cases q with
  | nil =>
   rw [hother (fun t r e => by cases e)]
   exact bad _ _ _
  | cons t B =>
   simp only []
   rw [show headIs (t :: B) (#[64] : Array UInt8).toList = isT t [64] from rfl]
   cases ht : isT t [64] with
   | false =>
    rw [hother (fun t' r e => by cases e; exact ht)]
    exact bad _ _ _
   | true =>
    have hsp : atSplit l = some (A0, B) := by rw [g1]; exact atSplit_of ht hA0
    have hcl : (cat l).length = (cat A0).length + (t.2.length + (cat B).length) := by rw [g1]; simp [cat]
    have hll : l.length = A0.length + (B.length + 1) := by rw [g1]; simp
    rw [show (!true) = false from rfl, addr_Of.j0, if_neg (by decide), if_pos (by simp <;> omega), show ((t :: B).map tok142).drop 1 = B.map tok142 from rfl]
    unfold addr_joined.f
    rw [show (⟨#[]⟩ : ByteArray) = str [] from rfl, joined_is true B.length (k + 1) B [] (Nat.le_refl _) (by omega) (by simp <;> omega), Option.bind_some, hpt]
    unfold ofT
    rw [hsp]
    simp only []
    cases hj2 : jn atomT B with
    | none =>
     rw [show resJ [] none = (str [], [], false) from rfl, if_neg (by decide), bad1, if_neg]
     rintro ⟨_, g⟩
     have := jn_of atomT B [] g (fun d r e => by cases e)
     rw [List.append_nil, hj2] at this
     cases this
    | some y =>
     obtain ⟨s2, q2⟩ := y
     obtain ⟨A2, f1, f2, f3⟩ := jn_some atomT hj2
     rw [show resJ [] (some (s2, q2)) = (str s2, q2.map tok142, true) from rfl]
     simp only [if_true]
     cases q2 with
     | cons d r =>
      rw [show decide (((((d :: r).map tok142).length : Nat) : Int) > 0) = true by simp <;> omega, bad1, if_neg]
      rintro ⟨_, g⟩
      have := jn_of atomT B [] g (fun d r e => by cases e)
      rw [List.append_nil, hj2] at this
      simp at this
     | nil =>
      rw [List.append_nil] at f1
      subst f1
      rw [show decide ((((([] : List Tok).map tok142).length : Nat) : Int) > 0) = false from rfl, addr_Of.j1, if_neg (by decide), if_pos ⟨g2, f2⟩, f3, g3]
      have hb : (cat B).length ≤ 100000 := by omega
      have ha : (cat A0).length ≤ 100000 := by omega
      rw [glyphFold_is _ (by rw [str_size]; omega), bs_str, Option.bind_some, addrWhy_is _ _ (by rw [str_size]; omega) (by rw [str_size, fold_length]; omega) k (by rw [str_size]; omega), Option.bind_some]
      unfold finish
      by_cases hw : why (str (cat A0)) (str (fold (cat B))) = 0
      ·rw [if_pos hw, if_pos hw]
      ·rw [if_neg hw, if_neg hw]
       rfl
end Go.Proofs.YtnnlhpmkfijppaaDoor.Pl
set_option linter.unusedVariables false
set_option linter.unusedSimpArgs false
namespace Go.Proofs.YtnnlhpmkfijppaaDoor.Pl
open Go.RowKit Go.Proofs.YtnnlhpmkfijppaaDoorW.PrintWords Go.Proofs.YtnnlhpmkfijppaaDoor.Fn

/-! how many tokens there are, and how long they are -/
def pend : Sc → Nat
 | .atom _ => 1
 | _ => 0
theorem cat_app (a b : List Tok) : cat (a ++ b) = cat a ++ cat b := by simp [cat]
theorem tail_len {c : UInt8} {l : Bytes} (h : foldAt (c :: l) = true) : l.tail.length + 1 = l.length := by
 cases l with
 | nil => cases h
 | cons b l => simp
theorem stepOut_bound {acc : List Tok} {c : UInt8} {l : Bytes} {a : List Tok} {t : Sc} {r : Bytes} (h : stepOut acc c l = .inl (a, t, r)) :
  a.length + pend t + r.length ≤ acc.length + (l.length + 1) ∧ (cat a).length + (wOf t).length + r.length ≤ (cat acc).length + (l.length + 1) := by
 unfold stepOut at h
 by_cases c1 : foldAt (c :: l) = true
 ·rw [if_pos c1] at h
  have := tail_len c1
  simp only [Sum.inl.injEq, Prod.mk.injEq] at h
  obtain ⟨rfl, rfl, rfl⟩ := h
  simp only [pend, wOf, List.length_nil]
  omega
 ·rw [if_neg c1] at h
  repeat' split at h
  all_goals (first | (cases h; done) | (simp only [Sum.inl.injEq, Prod.mk.injEq] at h; obtain ⟨rfl, rfl, rfl⟩ := h; simp only [pend, wOf, cat_app, List.length_append, List.length_nil, List.length_cons]; simp [cat]; try omega))
theorem step_bound {acc : List Tok} {st : Sc} {c : UInt8} {l : Bytes} {a : List Tok} {t : Sc} {r : Bytes} (h : step acc st c l = .inl (a, t, r)) :
  a.length + pend t + r.length ≤ acc.length + pend st + (l.length + 1) ∧ (cat a).length + (wOf t).length + r.length ≤ (cat acc).length + (wOf st).length + (l.length + 1) := by
 cases st with
 | out =>
  have := stepOut_bound h
  rw [show pend .out = 0 from rfl, show wOf .out = [] from rfl, List.length_nil]
  omega
 | atom w =>
  unfold step at h
  simp only [] at h
  by_cases ha : atomic c = true
  ·rw [if_pos ha] at h
   simp only [Sum.inl.injEq, Prod.mk.injEq] at h
   obtain ⟨rfl, rfl, rfl⟩ := h
   simp only [pend, wOf, List.length_append, List.length_cons, List.length_nil]
   omega
  ·rw [if_neg ha] at h
   have := stepOut_bound h
   rw [cat_app] at this
   rw [show pend (.atom w) = 1 from rfl, show wOf (.atom w) = w from rfl]
   simp only [List.length_append, List.length_cons, List.length_nil] at this ⊢
   have e : (cat [((1 : Int), w)]).length = w.length := by simp [cat]
   omega
 | quot w b =>
  cases b with
  | true =>
   unfold step at h
   simp only [] at h
   repeat' split at h
   all_goals (first | (cases h; done) | (simp only [Sum.inl.injEq, Prod.mk.injEq] at h; obtain ⟨rfl, rfl, rfl⟩ := h; simp only [pend, wOf, List.length_append, List.length_cons, List.length_nil]; omega))
  | false =>
   unfold step at h
   simp only [] at h
   by_cases c1 : foldAt (c :: l) = true
   ·rw [if_pos c1] at h
    have := tail_len c1
    simp only [Sum.inl.injEq, Prod.mk.injEq] at h
    obtain ⟨rfl, rfl, rfl⟩ := h
    simp only [pend, wOf]
    omega
   ·rw [if_neg c1] at h
    have e : (cat [((2 : Int), w)]).length = w.length := by simp [cat]
    repeat' split at h
    all_goals (first | (cases h; done) | (simp only [Sum.inl.injEq, Prod.mk.injEq] at h; obtain ⟨rfl, rfl, rfl⟩ := h; simp only [pend, wOf, cat_app, List.length_append, List.length_cons, List.length_nil]; omega))
 | comm d b =>
  cases b with
  | true =>
   unfold step at h
   simp only [] at h
   repeat' split at h
   all_goals (first | (cases h; done) | (simp only [Sum.inl.injEq, Prod.mk.injEq] at h; obtain ⟨rfl, rfl, rfl⟩ := h; simp only [pend, wOf, List.length_append, List.length_cons, List.length_nil]; omega))
  | false =>
   unfold step commAfter at h
   simp only [] at h
   by_cases c1 : foldAt (c :: l) = true
   ·rw [if_pos c1] at h
    have := tail_len c1
    simp only [Sum.inl.injEq, Prod.mk.injEq] at h
    obtain ⟨rfl, rfl, rfl⟩ := h
    simp only [pend, wOf]
    omega
   ·rw [if_neg c1] at h
    generalize (if c = 40 then d + 1 else if c = 41 then d - 1 else d) = d' at h
    repeat' split at h
    all_goals (first | (cases h; done) | (simp only [Sum.inl.injEq, Prod.mk.injEq] at h; obtain ⟨rfl, rfl, rfl⟩ := h; simp only [pend, wOf, List.length_nil]; omega))
theorem scan_bound : ∀ (k : Nat) (acc : List Tok) (st : Sc) (l : Bytes), l.length ≤ k →
  (scan k acc st l).1.length ≤ acc.length + pend st + l.length ∧ (cat (scan k acc st l).1).length ≤ (cat acc).length + (wOf st).length + l.length
 | k, acc, st, [], _ => by
  have e : scan k acc st [] = endOf acc st := by cases k <;> rfl
  rw [e]
  cases st <;> simp [endOf, pend, wOf, cat]
 | 0, acc, st, c :: l, h => by simp at h
 | k + 1, acc, st, c :: l, h => by
  rw [scan]
  simp only [List.length_cons] at h
  cases hs : step acc st c l with
  | inr e => simp [cat]
  | inl x =>
   obtain ⟨a, t, r⟩ := x
   have h1 := step_bound hs
   have h2 := step_le hs
   have ih := scan_bound k a t r (by omega)
   simp only [List.length_cons]
   omega
theorem scanL_bound (l : Bytes) : (scanL [] .out l).1.length ≤ l.length ∧ (cat (scanL [] .out l).1).length ≤ l.length := by
 have := scan_bound l.length [] .out l (Nat.le_refl _)
 unfold scanL
 simp only [List.length_nil, pend, wOf, cat, List.flatMap_nil] at this ⊢
 omega
theorem finish_size (a b : Bytes) : (finish a b).1.size ≤ a.length ∧ (finish a b).2.1.size ≤ b.length := by
 unfold finish
 split
 ·simp only [str_size, fold_length]; omega
 ·simp only [str_size, List.length_nil]; omega
theorem ofT_size (l : List Tok) : (ofT l).1.size ≤ (cat l).length ∧ (ofT l).2.1.size ≤ (cat l).length := by
 unfold ofT
 cases hs : atSplit l with
 | none => simp [noAddr, str_size]
 | some x =>
  obtain ⟨A, B⟩ := x
  obtain ⟨t, h1, h2, h3⟩ := atSplit_some hs
  have hcl : (cat l).length = (cat A).length + (t.2.length + (cat B).length) := by rw [h2]; simp [cat]
  simp only []
  split
  ·have := finish_size (cat A) (cat B)
   omega
  ·simp [noAddr, str_size]
def parseL (s : ByteArray) : Res := if (scanL [] .out (bs s)).2 = 0 then ofT (scanL [] .out (bs s)).1 else noAddr
theorem parseL_size (s : ByteArray) : (parseL s).1.size ≤ s.size ∧ (parseL s).2.1.size ≤ s.size := by
 have h := scanL_bound (bs s)
 have h2 := ofT_size (scanL [] .out (bs s)).1
 rw [bs_length] at h
 unfold parseL
 split
 ·omega
 ·simp [noAddr, str_size]
theorem addrParse_is (s : ByteArray) (hs : s.size ≤ 50000) (k : Nat) (hk : 1000000 ≤ k) : addr_Parse.f k s = some (parseL s) := by
 have h := scanL_bound (bs s)
 rw [bs_length] at h
 unfold addr_Parse.f parseL
 rw [lexScan_is s (by omega) k (by omega), Option.bind_some]
 simp only []
 by_cases h0 : (scanL [] .out (bs s)).2 = 0
 ·rw [if_pos h0, if_pos h0, addrOf_is _ (by omega) (by omega) k (by omega), Option.bind_some]
 ·rw [if_neg h0, if_neg h0]
  rfl
end Go.Proofs.YtnnlhpmkfijppaaDoor.Pl
set_option linter.unusedVariables false
set_option linter.unusedSimpArgs false
namespace Go.Proofs.YtnnlhpmkfijppaaDoor.Pl
open Go.RowKit Go.Proofs.YtnnlhpmkfijppaaDoorW.PrintWords Go.Proofs.YtnnlhpmkfijppaaDoor.Fn

theorem right_parts {a b : ByteArray} (h : right a b = true) : domainL (bs b) = 0 ∧ bs a ≠ [] ∧ (bs a).all plainB = true ∧ fold (bs b) = bs b ∧ a.size ≤ 64 ∧ (textL (bs a) (bs b)).length ≤ 254 := by
 unfold right at h
 rw [Bool.and_eq_true, beq_iff_eq, decide_eq_true_eq] at h
 obtain ⟨h1, h2⟩ := h
 unfold why at h1
 by_cases c1 : domain b = 130 ∨ bs a = [] ∨ plain a = false
 ·rw [if_pos c1] at h1; cases h1
 ·rw [if_neg c1] at h1
  by_cases c2 : domain b ≠ 0 ∨ 64 < a.size ∨ 254 < (textL (bs a) (bs b)).length
  ·rw [if_pos c2] at h1; cases h1
  ·have c3 : domain b = 0 := by
    by_cases h : domain b = 0
    ·exact h
    ·exact absurd (.inl h) c2
   have c4 : plain a = true := by
    cases hp : plain a with
    | true => rfl
    | false => exact absurd (.inr (.inr hp)) c1
   refine ⟨by rw [← domain_L]; exact c3, fun h => c1 (.inr (.inl h)), by rw [← plain_L]; exact c4, h2.symm, ?_, ?_⟩
   ·rcases Nat.lt_or_ge 64 a.size with q | q
    ·exact absurd (.inr (.inl q)) c2
    ·exact q
   ·rcases Nat.lt_or_ge 254 (textL (bs a) (bs b)).length with q | q
    ·exact absurd (.inr (.inr q)) c2
    ·exact q
end Go.Proofs.YtnnlhpmkfijppaaDoor.Pl
set_option linter.unusedVariables false
set_option linter.unusedSimpArgs false
namespace Go.Proofs.YtnnlhpmkfijppaaDoor.Pl
open Go.RowKit Go.Proofs.YtnnlhpmkfijppaaDoorW.PrintWords Go.Proofs.YtnnlhpmkfijppaaDoor.Fn

/-! What is written is read again. -/
def stops (l : Bytes) : Prop := ∀ c r, l = c :: r → atomic c = false
theorem scan_atomic (w : Bytes) (acc : List Tok) (l : Bytes) (hl : stops l) : ∀ v : Bytes, v.all atomic = true → scanL acc (.atom w) (v ++ l) = scanL (acc ++ [(1, w ++ v)]) .out l
 | [], _ => by
  rw [List.nil_append, List.append_nil]
  cases l with
  | nil => rfl
  | cons c r =>
   rw [scanL_cons, scanL_cons]
   unfold step
   simp only []
   rw [hl c r rfl, if_neg (by decide)]
 | c :: v, hv => by
  simp only [List.all_cons, Bool.and_eq_true] at hv
  rw [List.cons_append, scanL_cons]
  unfold step
  simp only []
  rw [hv.1, if_pos rfl]
  simp only []
  rw [scan_atomic (w ++ [c]) acc l hl v hv.2]
  simp
theorem scan_word (acc : List Tok) (w l : Bytes) (hw : atomL w = true) (hl : stops l) : scanL acc .out (w ++ l) = scanL (acc ++ [(1, w)]) .out l := by
 unfold atomL at hw
 rw [Bool.and_eq_true] at hw
 cases w with
 | nil => simp at hw
 | cons c v =>
  have hv := hw.1
  simp only [List.all_cons, Bool.and_eq_true] at hv
  rw [List.cons_append, scanL_cons]
  have hs : step acc .out c (v ++ l) = .inl (acc, .atom [c], v ++ l) := by
   unfold step stepOut
   simp only []
   rw [fold_not (atomic_apart c hv.1).1, hv.1, if_neg (by decide), if_pos rfl]
  rw [hs]
  simp only []
  rw [scan_atomic [c] acc l hl v hv.2]
  rfl
theorem scan_sign (acc : List Tok) (c : UInt8) (l : Bytes) (hc : c = 46 ∨ c = 64) : scanL acc .out (c :: l) = scanL (acc ++ [(3, [c])]) .out l := by
 have h : c ≠ 13 ∧ atomic c = false ∧ c ≠ 34 ∧ c ≠ 40 ∧ signB c = true := by rcases hc with rfl | rfl <;> decide +kernel
 rw [scanL_cons]
 have hs : step acc .out c l = .inl (acc ++ [(3, [c])], .out, l) := by
  unfold step stepOut
  simp only []
  rw [fold_not h.1, h.2.1, h.2.2.2.2, if_neg (by decide), if_neg (by decide), if_neg h.2.2.1, if_neg h.2.2.2.1, if_pos rfl]
 rw [hs]
theorem stops_sign (c : UInt8) (l : Bytes) (hc : c = 46 ∨ c = 64) : stops (c :: l) := by
 intro d r e
 obtain ⟨rfl, rfl⟩ := List.cons.inj e
 rcases hc with rfl | rfl <;> decide +kernel
theorem stops_nil : stops [] := fun c r e => by cases e
def toks : List Bytes → List Tok
 | [] => []
 | [p] => [(1, p)]
 | p :: q :: r => (1, p) :: (3, [46]) :: toks (q :: r)
def dotJoin : List Bytes → Bytes
 | [] => []
 | [p] => p
 | p :: q :: r => p ++ 46 :: dotJoin (q :: r)
theorem dotJoin_split : ∀ l : Bytes, dotJoin (splitL 46 l) = l
 | [] => rfl
 | c :: l => by
  have ih := dotJoin_split l
  have hne := splitL_ne 46 l
  rw [splitL]
  by_cases h : c = 46
  ·rw [if_pos h]
   cases hs : splitL 46 l with
   | nil => exact absurd hs hne
   | cons p r => rw [hs] at ih; rw [dotJoin, ih, h]; rfl
  ·rw [if_neg h]
   cases hs : splitL 46 l with
   | nil => exact absurd hs hne
   | cons p r =>
    rw [hs] at ih
    simp only []
    cases r with
    | nil => rw [dotJoin] at ih ⊢; rw [ih]
    | cons q r => rw [dotJoin] at ih ⊢; rw [← ih]; rfl
theorem scan_dots (acc : List Tok) (l : Bytes) (hl : stops l) : ∀ ps : List Bytes, ps ≠ [] → ps.all atomL = true → scanL acc .out (dotJoin ps ++ l) = scanL (acc ++ toks ps) .out l
 | [], h, _ => absurd rfl h
 | [p], _, h => by
  simp only [List.all_cons, List.all_nil, Bool.and_true] at h
  rw [dotJoin, toks, scan_word acc p l h hl]
 | p :: q :: r, _, h => by
  simp only [List.all_cons, Bool.and_eq_true] at h
  rw [dotJoin, List.append_assoc, List.cons_append, scan_word acc p _ h.1 (stops_sign 46 _ (.inl rfl)), scan_sign _ 46 _ (.inl rfl), scan_dots _ l hl (q :: r) (by simp) (by simp only [List.all_cons, Bool.and_eq_true]; exact h.2), toks]
  simp
theorem toks_alt (p : Tok → Bool) (hp : ∀ w, p (1, w) = true) : ∀ ps : List Bytes, ps ≠ [] → altOk p (toks ps) = true
 | [], h => absurd rfl h
 | [w], _ => hp w
 | w :: q :: r, _ => by
  have ih := toks_alt p hp (q :: r) (by simp)
  rw [toks, altOk, hp, ih]
  ·rfl
theorem toks_cat : ∀ ps : List Bytes, cat (toks ps) = dotJoin ps
 | [] => rfl
 | [p] => by simp [toks, cat, dotJoin]
 | p :: q :: r => by
  have ih := toks_cat (q :: r)
  rw [toks, dotJoin, ← ih]
  simp [cat]
theorem scan_quoted (acc : List Tok) (l : Bytes) : ∀ (a w : Bytes), a.all plainB = true → scanL acc (.quot w false) (a.flatMap qB ++ 34 :: l) = scanL (acc ++ [(2, w ++ a)]) .out l
 | [], w, _ => by
  rw [List.flatMap_nil, List.nil_append, scanL_cons, List.append_nil]
  unfold step
  simp only []
  rw [fold_not (by decide), if_neg (by decide), if_neg (by decide), text_34, if_pos rfl, if_pos trivial]
 | c :: a, w, h => by
  simp only [List.all_cons, Bool.and_eq_true] at h
  have ht := plain_text c h.1
  have h13 : c ≠ 13 := fun e => by rw [e] at h; exact absurd h.1 (by decide)
  have ih := scan_quoted acc l a (w ++ [c]) h.2
  rw [List.flatMap_cons, List.append_assoc]
  by_cases hc : c = 34 ∨ c = 92
  ·rw [show qB c = [92, c] by unfold qB; rw [if_pos hc], List.cons_append, scanL_cons]
   have hs : step acc (.quot w false) 92 ([c] ++ (a.flatMap qB ++ 34 :: l)) = .inl (acc, .quot w true, [c] ++ (a.flatMap qB ++ 34 :: l)) := by
    unfold step
    simp only []
    rw [fold_not (by decide), if_neg (by decide), if_pos trivial]
   rw [hs]
   simp only []
   rw [List.cons_append, List.nil_append, scanL_cons]
   have hs2 : step acc (.quot w true) c (a.flatMap qB ++ 34 :: l) = .inl (acc, .quot (w ++ [c]) false, a.flatMap qB ++ 34 :: l) := by
    unfold step
    simp only []
    rw [ht, if_pos rfl]
   rw [hs2]
   simp only []
   rw [ih]
   simp
  ·have h34 : c ≠ 34 := fun e => hc (.inl e)
   have h92 : c ≠ 92 := fun e => hc (.inr e)
   rw [show qB c = [c] by unfold qB; rw [if_neg hc, if_pos ht], List.cons_append, List.nil_append, scanL_cons]
   have hs : step acc (.quot w false) c (a.flatMap qB ++ 34 :: l) = .inl (acc, .quot (w ++ [c]) false, a.flatMap qB ++ 34 :: l) := by
    unfold step
    simp only []
    rw [fold_not h13, if_neg (by decide), if_neg h92, ht, if_pos rfl, if_neg h34]
   rw [hs]
   simp only []
   rw [ih]
   simp
def localToks (a : Bytes) : List Tok := if dottedL a = true then toks (splitL 46 a) else [(2, a)]
theorem scan_local (a l : Bytes) (ha : a.all plainB = true) (hl : stops l) : scanL [] .out (localL a ++ l) = scanL (localToks a) .out l := by
 unfold localL localToks
 by_cases hd : dottedL a = true
 ·rw [if_pos hd, if_pos hd]
  have := scan_dots [] l hl (splitL 46 a) (splitL_ne _ _) hd
  rw [dotJoin_split] at this
  simpa using this
 ·rw [if_neg hd, if_neg hd]
  unfold quote
  rw [List.cons_append, List.append_assoc, scanL_cons]
  have hs : step [] .out 34 (a.flatMap qB ++ ([34] ++ l)) = .inl ([], .quot [] false, a.flatMap qB ++ ([34] ++ l)) := by
   unfold step stepOut
   simp only []
   rw [fold_not (by decide), show atomic 34 = false by decide +kernel, if_neg (by decide), if_neg (by decide), if_pos trivial]
  rw [hs]
  simp only []
  exact scan_quoted [] l a [] ha
theorem localToks_alt (a : Bytes) : altOk wordT (localToks a) = true := by
 unfold localToks
 split
 ·exact toks_alt wordT (fun _ => rfl) _ (splitL_ne _ _)
 ·rfl
theorem localToks_cat (a : Bytes) : cat (localToks a) = a := by
 unfold localToks
 split
 ·rw [toks_cat, dotJoin_split]
 ·simp [cat]
set_option maxRecDepth 100000 in
theorem labelled_atomic (c : UInt8) : labelled c = true → atomic c = true := forall_byte (p := fun c => labelled c = true → atomic c = true) (by decide +kernel) c
theorem label_atom {w : Bytes} (h : labelL w = true) : atomL w = true := by
 unfold atomL
 have hall : w.all atomic = true := by
  rw [List.all_eq_true]
  intro c hc
  exact labelled_atomic c (labelL_bytes h hc)
 rw [hall]
 cases w with
 | nil => simp [labelL] at h
 | cons c r => rfl
theorem domain_dotted {b : Bytes} (h : domainL b = 0) : (splitL 46 b).all atomL = true := by
 unfold domainL at h
 by_cases ha : (splitL 46 b).all labelL = true
 ·rw [List.all_eq_true] at ha ⊢
  exact fun w hw => label_atom (ha w hw)
 ·rw [if_neg ha] at h; cases h
theorem parse_text {a b : ByteArray} (h : right a b = true) : parseL (str (textL (bs a) (bs b))) = (a, b, 0) := by
 obtain ⟨d1, n1, p1, f1, s1, s2⟩ := right_parts h
 have hw : why a b = 0 := by
  unfold right at h
  rw [Bool.and_eq_true, decide_eq_true_eq] at h
  exact h.1
 have hdom := scan_dots (localToks (bs a) ++ [(3, [64])]) [] stops_nil (splitL 46 (bs b)) (splitL_ne _ _) (domain_dotted d1)
 rw [dotJoin_split, List.append_nil] at hdom
 have hscan : scanL [] .out (textL (bs a) (bs b)) = (localToks (bs a) ++ (3, [64]) :: toks (splitL 46 (bs b)), 0) := by
  unfold textL
  rw [scan_local (bs a) _ p1 (stops_sign 64 _ (.inr rfl)), scan_sign _ 64 _ (.inr rfl), hdom]
  simp [scanL_nil, endOf]
 unfold parseL
 rw [bs_str, hscan, if_pos rfl]
 simp only []
 unfold ofT
 rw [atSplit_of (t := (3, [64])) rfl (no64 (fun t ht => by unfold wordT at ht; simpa using ht) (localToks_alt (bs a)))]
 simp only []
 rw [if_pos ⟨localToks_alt _, toks_alt atomT (fun _ => rfl) _ (splitL_ne _ _)⟩, localToks_cat, toks_cat, dotJoin_split]
 unfold finish
 rw [f1, str_bs, str_bs, if_pos hw]
end Go.Proofs.YtnnlhpmkfijppaaDoor.Pl
set_option linter.unusedVariables false
set_option linter.unusedSimpArgs false
namespace Go.Proofs.YtnnlhpmkfijppaaDoor.Pl
open Go.RowKit Go.Proofs.YtnnlhpmkfijppaaDoorW.PrintWords Go.Proofs.YtnnlhpmkfijppaaDoor.Fn

/-! Layer 33: a member's text, and the member of a text. -/
theorem wordM_len (n : Int) : (wordM n).length ≤ 6 := by
  unfold wordM
  repeat' split
  all_goals decide
def yesL (b : Bool) : Bytes := if b = true then [121, 101, 115] else [110, 111]
theorem yes_is (b : Bool) : roster_yes.f b = some (str (yesL b)) := by cases b <;> rfl
def rowL (a b : ByteArray) (mode : Int) (off : Bool) (score day ticket since : Int) : List Bytes :=
  [textL (bs a) (bs b), wordM mode, yesL off, itoL score, itoL day, itoL ticket, itoL since, []]
def i64 (n : Int) : Prop := -9223372036854775808 ≤ n ∧ n ≤ 9223372036854775807
theorem itoa_is (n : Int) (h : i64 n) : strconv_Itoa.f n = some (str (itoL n)) := by
  unfold strconv_Itoa.f
  rw [if_pos h.1, if_pos h.2]
theorem rowL_len (m : Nat) (hm : 10 ≤ m) (a b : ByteArray) (mode : Int) (off : Bool) (score day ticket since : Int) (ha : a.size ≤ m) (hb : b.size ≤ m) : ∀ x ∈ rowL a b mode off score day ticket since, x.length ≤ 3 * m + 3 := by
  intro x hx
  have h0 := textL_length (bs a) (bs b)
  rw [bs_length, bs_length] at h0
  have h1 := wordM_len mode
  have h2 : (yesL off).length ≤ 3 := by cases off <;> decide
  have h3 := itoL_len score
  have h4 := itoL_len day
  have h5 := itoL_len ticket
  have h6 := itoL_len since
  simp only [rowL, List.mem_cons, List.not_mem_nil, or_false] at hx
  rcases hx with rfl | rfl | rfl | rfl | rfl | rfl | rfl | rfl
  all_goals first | omega | simp
theorem row_is (a b : ByteArray) (mode : Int) (off : Bool) (score day ticket since : Int) (ha : a.size ≤ 2000) (hb : b.size ≤ 2000) (h3 : i64 score) (h4 : i64 day) (h5 : i64 ticket) (h6 : i64 since) (k : Nat) (hk : 10000 ≤ k) :
    roster_Member_Row.f k a b mode off score day ticket since = some (str (netsL (rowL a b mode off score day ticket since))) := by
  unfold roster_Member_Row.f
  rw [addrText_is a b (by omega) (by omega) k (by omega), Option.bind_some, word_is, Option.bind_some, yes_is, Option.bind_some, itoa_is _ h3, Option.bind_some, itoa_is _ h4, Option.bind_some, itoa_is _ h5, Option.bind_some, itoa_is _ h6, Option.bind_some]
  have e : ([str (textL (bs a) (bs b)), str (wordM mode), str (yesL off), str (itoL score), str (itoL day), str (itoL ticket), str (itoL since), (⟨#[]⟩ : ByteArray)] : List ByteArray) = (rowL a b mode off score day ticket since).map str := rfl
  rw [e]
  unfold nets_Row.f
  have hl := rowL_len 2000 (by decide) a b mode off score day ticket since ha hb
  rw [if_pos (by rw [List.length_map]; show 8 ≤ 1000000; omega), if_pos, Option.bind_some]
  · congr 3
  · rw [List.all_eq_true]
    intro x hx
    obtain ⟨y, hy, rfl⟩ := List.mem_map.1 hx
    refine decide_eq_true ?_
    have := hl y hy
    rw [str_size]
    omega
def modeL (l : Bytes) : Int := if l = wordM 1 then 1 else if l = wordM 2 then 2 else if l = wordM 3 then 3 else 0
theorem mode_is (s : ByteArray) (k : Nat) (hk : 10 ≤ k) : roster_Mode.f k s = some (modeL (bs s)) := by
  unfold roster_Mode.f modeL
  obtain ⟨k, rfl⟩ : ∃ q, k = q + 1 + 1 + 1 + 1 := ⟨k - 4, by omega⟩
  rw [roster_Mode.l0, if_pos (by decide), word_is, Option.bind_some, toList_str, toList_bs]
  by_cases h1 : bs s = wordM 1
  · rw [if_pos h1.symm, if_pos h1]
  rw [if_neg (fun e => h1 e.symm), if_neg h1, show wrap64 (1 + 1) = 2 from wrap_id (by decide) (by decide), roster_Mode.l0, if_pos (by decide), word_is, Option.bind_some, toList_str, toList_bs]
  by_cases h2 : bs s = wordM 2
  · rw [if_pos h2.symm, if_pos h2]
  rw [if_neg (fun e => h2 e.symm), if_neg h2, show wrap64 (2 + 1) = 3 from wrap_id (by decide) (by decide), roster_Mode.l0, if_pos (by decide), word_is, Option.bind_some, toList_str, toList_bs]
  by_cases h3 : bs s = wordM 3
  · rw [if_pos h3.symm, if_pos h3]
  rw [if_neg (fun e => h3 e.symm), if_neg h3, show wrap64 (3 + 1) = 4 from wrap_id (by decide) (by decide), roster_Mode.l0, if_neg (by decide)]
theorem mode_word {n : Int} (h : okM n = true) : modeL (wordM n) = n := by
  unfold okM at h
  rw [Bool.and_eq_true, decide_eq_true_eq, decide_eq_true_eq] at h
  rcases (by omega : n = 1 ∨ n = 2 ∨ n = 3) with rfl | rfl | rfl <;> decide
def figG : Int → Bytes → Int
  | x, [] => x
  | x, c :: r => if x ≤ 1099511627776 then figG (wrap64 ((wrap64 ((wrap64 (10 * x)) + (wrap64 (c.toNat : Int)))) - 48)) r else x
def figL (l : Bytes) : Int := if l = [45, 49] then -1 else figG 0 l
theorem figure_l0 (s : ByteArray) (hs : s.size ≤ 1000000) : ∀ (r : Bytes) (i K : Nat) (x : Int), (bs s).drop i = r → i ≤ (bs s).length → r.length + 1 ≤ K → roster_figure.l0 K s x (i : Int) = some (figG x r)
  | [], i, K, x, hd, hi, hk => by
    obtain ⟨K, rfl⟩ : ∃ q, K = q + 1 := ⟨K - 1, by omega⟩
    have hl := drop_nil hd
    rw [bs_length] at hl
    rw [roster_figure.l0, if_neg (by omega), figG]
  | c :: r, i, K, x, hd, hi, hk => by
    obtain ⟨K, rfl⟩ : ∃ q, K = q + 1 := ⟨K - 1, by omega⟩
    obtain ⟨h1, _, h2, _⟩ := drop_cons hd
    rw [bs_length] at h1
    rw [roster_figure.l0, if_pos (by omega), figG, bt_drop hd]
    by_cases hx : x ≤ 1099511627776
    · rw [if_pos hx, if_pos hx, if_pos (by omega), wrap_succ i (by omega)]
      exact figure_l0 s hs r (i + 1) K _ h2 (by rw [bs_length]; omega) (by simp only [List.length_cons] at hk; omega)
    · rw [if_neg hx, if_neg hx]
theorem figure_is (s : ByteArray) (hs : s.size ≤ 1000000) (k : Nat) (hk : s.size + 1 ≤ k) : roster_figure.f k s = some (figL (bs s)) := by
  unfold roster_figure.f figL
  rw [toList_bs]
  by_cases h : bs s = [45, 49]
  · rw [if_pos h, if_pos h]
  rw [if_neg h, if_neg h]
  exact figure_l0 s hs (bs s) 0 k 0 rfl (Nat.zero_le _) (by rw [bs_length]; exact hk)
theorem fig_digits : ∀ (r : Bytes) (l : Bytes), (∀ c ∈ r, isD c = true) → val (l ++ r) ≤ 1099511627776 → figG ((val l : Nat) : Int) r = ((val (l ++ r) : Nat) : Int)
  | [], l, _, _ => by rw [figG, List.append_nil]
  | c :: r, l, hd, hv => by
    have hc := (isD_iff c).1 (hd c (by simp))
    have e : l ++ c :: r = (l ++ [c]) ++ r := by simp
    have up : ∀ (r l : Bytes), val l ≤ val (l ++ r) := by
      intro r
      induction r with
      | nil => intro l; rw [List.append_nil]; exact Nat.le_refl _
      | cons x r ih =>
        intro l
        have h1 := ih (l ++ [x])
        rw [val_snoc] at h1
        rw [show l ++ x :: r = (l ++ [x]) ++ r by simp]
        omega
    rw [e] at hv ⊢
    have h1 := up r (l ++ [c])
    have hs := val_snoc l c
    rw [hs] at h1
    rw [figG, if_pos (by omega)]
    have e1 : wrap64 (10 * ((val l : Nat) : Int)) = ((10 * val l : Nat) : Int) := by rw [wrap_id (by omega) (by omega)]; omega
    have e2 : wrap64 ((c.toNat : Nat) : Int) = (c.toNat : Int) := wrap_id (by omega) (by omega)
    have e3 : wrap64 (((10 * val l : Nat) : Int) + (c.toNat : Int)) = ((10 * val l + c.toNat : Nat) : Int) := by rw [wrap_id (by omega) (by omega)]; omega
    have e4 : wrap64 (((10 * val l + c.toNat : Nat) : Int) - 48) = ((val (l ++ [c]) : Nat) : Int) := by rw [hs, wrap_id (by omega) (by omega)]; omega
    rw [e1, e2, e3, e4]
    exact fig_digits r (l ++ [c]) (fun x hx => hd x (by simp [hx])) hv
theorem fig_num {n : Int} (h0 : -1 ≤ n) (h1 : n ≤ 1099511627776) : figL (itoL n) = n := by
  unfold figL
  by_cases hn : n = -1
  · subst hn
    rw [if_pos (by decide +kernel)]
  have e : itoL n = digL n.toNat := by
    unfold itoL
    rw [if_neg (by omega)]
  have hD := dig_isD 20 n.toNat
  rw [e, if_neg]
  · have hv : val (digL n.toNat) = n.toNat := dig_val 20 n.toNat (by omega)
    have := fig_digits (digL n.toNat) [] hD (by rw [List.nil_append, hv]; omega)
    rw [List.nil_append, hv] at this
    rw [show ((val [] : Nat) : Int) = 0 from rfl] at this
    rw [this]
    omega
  · intro h
    have := hD 45 (by show (45 : UInt8) ∈ digL n.toNat; rw [h]; simp)
    exact absurd this (by decide)
abbrev MemberR := ByteArray × ByteArray × Int × Bool × Int × Int × Int × Int × Int
def errR : MemberR := ((⟨#[]⟩ : ByteArray), (⟨#[]⟩ : ByteArray), 0, false, 0, 0, 0, 0, 3)
def member8 (s : Bytes) (l0 l1 l2 l3 l4 l5 l6 : Bytes) : MemberR :=
  let p := parseL (str l0)
  let off := (l2 == ([121, 101, 115] : Bytes))
  if p.2.2 = 0 then
    (if sound p.1 p.2.1 (modeL l1) (figL l3) (figL l4) (figL l5) (figL l6) = true then
      (if netsL (rowL p.1 p.2.1 (modeL l1) off (figL l3) (figL l4) (figL l5) (figL l6)) = s then (p.1, p.2.1, modeL l1, off, figL l3, figL l4, figL l5, figL l6, 0) else errR)
     else errR)
  else errR
def readL33 (s : Bytes) : MemberR := match pickL s 8 with
  | ([l0, l1, l2, l3, l4, l5, l6, _], 0) => member8 s l0 l1 l2 l3 l4 l5 l6
  | _ => errR
theorem list8 {α : Type} {cs : List α} (h : cs.length = 8) : ∃ c0 c1 c2 c3 c4 c5 c6 c7, cs = [c0, c1, c2, c3, c4, c5, c6, c7] := by
  match cs, h with
  | [c0, c1, c2, c3, c4, c5, c6, c7], _ => exact ⟨c0, c1, c2, c3, c4, c5, c6, c7, rfl⟩
theorem pickL_len (s : Bytes) (h : (pickL s 8).2 = 0) : (pickL s 8).1.length = 8 := by
  unfold pickL at h ⊢
  by_cases h1 : (textsL s).2 = 0
  · rw [if_pos h1] at h ⊢
    by_cases h2 : (textsL s).1.length = 8
    · rw [if_pos h2]; exact h2
    · rw [if_neg h2] at h; cases h
  · rw [if_neg h1] at h; exact absurd h h1
theorem pickL_mem (s : Bytes) (hs : s.length ≤ 1000000) : ∀ x ∈ (pickL s 8).1, x.length ≤ s.length := by
  have h := (textsM_code (s.length + 1) s [] (Nat.lt_succ_self _) (by simpa using hs)).2
  intro x hx
  unfold pickL at hx
  have : x ∈ (textsL s).1 := by
    by_cases h1 : (textsL s).2 = 0
    · rw [if_pos h1] at hx
      by_cases h2 : (textsL s).1.length = 8
      · rw [if_pos h2] at hx; exact hx
      · rw [if_neg h2] at hx; cases hx
    · rw [if_neg h1] at hx; exact hx
  rcases h x this with h | h
  · cases h
  · exact h
theorem sound_parts {a b : ByteArray} {mode score day ticket since : Int} (h : sound a b mode score day ticket since = true) :
    right a b = true ∧ okM mode = true ∧ (0 ≤ score ∧ score ≤ 1099511627776) ∧ (-1 ≤ day ∧ day ≤ 1099511627776) ∧ (0 ≤ ticket ∧ ticket ≤ 1099511627776) ∧ (0 ≤ since ∧ since ≤ 1099511627776) := by
  unfold sound okN at h
  simp only [Bool.and_eq_true, Bool.or_eq_true, decide_eq_true_eq] at h
  obtain ⟨h1, h2, h3, h4, h5, h6⟩ := h
  exact ⟨h1, h2, h3, by omega, h5, h6⟩
theorem read33_is (s : ByteArray) (hs : s.size ≤ 10000) (k : Nat) (hk : 1000000 ≤ k) : roster_Read.f k s = some (readL33 (bs s)) := by
  unfold roster_Read.f
  rw [show (8 : Int) = ((8 : Nat) : Int) from rfl, netsPick_is s (by omega) 8 k (by omega), Option.bind_some]
  dsimp only
  by_cases h1 : (pickL (bs s) 8).2 = 0
  case neg =>
    have e : readL33 (bs s) = errR := by
      unfold readL33
      split
      · rename_i heq
        rw [heq] at h1
        exact absurd rfl h1
      · rfl
    rw [if_neg h1, e]
    rfl
  rw [if_pos h1]
  obtain ⟨l0, l1, l2, l3, l4, l5, l6, l7, hl⟩ := list8 (pickL_len _ h1)
  have hm := pickL_mem (bs s) (by rw [bs_length]; omega)
  rw [hl, bs_length] at hm
  have hp : pickL (bs s) 8 = ([l0, l1, l2, l3, l4, l5, l6, l7], 0) := Prod.ext hl h1
  have e : readL33 (bs s) = member8 (bs s) l0 l1 l2 l3 l4 l5 l6 := by
    unfold readL33
    rw [hp]
    rfl
  rw [e, hp]
  dsimp only
  have m0 := hm l0 (by simp)
  have m1 := hm l1 (by simp)
  have m3 := hm l3 (by simp)
  have m4 := hm l4 (by simp)
  have m5 := hm l5 (by simp)
  have m6 := hm l6 (by simp)
  have r0 : rdOf ByteArray.empty ([l0, l1, l2, l3, l4, l5, l6, l7].map str) 0 = str l0 := rfl
  have r1 : rdOf ByteArray.empty ([l0, l1, l2, l3, l4, l5, l6, l7].map str) 1 = str l1 := rfl
  have r2 : rdOf ByteArray.empty ([l0, l1, l2, l3, l4, l5, l6, l7].map str) 2 = str l2 := rfl
  have r3 : rdOf ByteArray.empty ([l0, l1, l2, l3, l4, l5, l6, l7].map str) 3 = str l3 := rfl
  have r4 : rdOf ByteArray.empty ([l0, l1, l2, l3, l4, l5, l6, l7].map str) 4 = str l4 := rfl
  have r5 : rdOf ByteArray.empty ([l0, l1, l2, l3, l4, l5, l6, l7].map str) 5 = str l5 := rfl
  have r6 : rdOf ByteArray.empty ([l0, l1, l2, l3, l4, l5, l6, l7].map str) 6 = str l6 := rfl
  have rl : (([l0, l1, l2, l3, l4, l5, l6, l7].map str).length : Int) = 8 := rfl
  rw [rl, r0, r1, r2, r3, r4, r5, r6]
  have hps := parseL_size (str l0)
  rw [str_size] at hps
  rw [if_pos (by decide), addrParse_is _ (by rw [str_size]; omega) k (by omega), Option.bind_some, if_pos (by decide), mode_is _ k (by omega), Option.bind_some, bs_str, if_pos (by decide), if_pos (by decide), figure_is _ (by rw [str_size]; omega) k (by rw [str_size]; omega), Option.bind_some, bs_str, if_pos (by decide), figure_is _ (by rw [str_size]; omega) k (by rw [str_size]; omega), Option.bind_some, bs_str, if_pos (by decide), figure_is _ (by rw [str_size]; omega) k (by rw [str_size]; omega), Option.bind_some, bs_str, if_pos (by decide), figure_is _ (by rw [str_size]; omega) k (by rw [str_size]; omega), Option.bind_some, bs_str]
  unfold member8 errR
  rw [toList_str, toList_bs]
  dsimp only
  by_cases h2 : (parseL (str l0)).2.2 = 0
  case neg => rw [if_neg h2, if_neg h2]
  rw [if_pos h2, if_pos h2, sound_is _ _ _ _ _ _ _ _ (by omega) (by omega) k (by omega), Option.bind_some]
  by_cases h3 : sound (parseL (str l0)).1 (parseL (str l0)).2.1 (modeL l1) (figL l3) (figL l4) (figL l5) (figL l6) = true
  case neg => rw [if_neg h3, if_neg h3]
  obtain ⟨p1, _, p3, p4, p5, p6⟩ := sound_parts h3
  have hz := right_short p1
  rw [if_pos h3, if_pos h3, row_is _ _ _ _ _ _ _ _ (by omega) (by omega) ⟨by omega, by omega⟩ ⟨by omega, by omega⟩ ⟨by omega, by omega⟩ ⟨by omega, by omega⟩ k (by omega), Option.bind_some, toList_str]
  split <;> rfl
theorem read_row {a b : ByteArray} {mode : Int} {off : Bool} {score day ticket since : Int} (h : sound a b mode score day ticket since = true) :
    readL33 (netsL (rowL a b mode off score day ticket since)) = (a, b, mode, off, score, day, ticket, since, 0) := by
  obtain ⟨p1, p2, p3, p4, p5, p6⟩ := sound_parts h
  have hz := right_short p1
  have hp := pick_nets (rowL a b mode off score day ticket since) (fun x hx => by have := rowL_len 2000 (by decide) a b mode off score day ticket since (by omega) (by omega) x hx; omega)
  unfold readL33
  rw [show (8 : Nat) = (rowL a b mode off score day ticket since).length from rfl, hp]
  show member8 _ _ _ _ _ _ _ _ = _
  unfold member8
  rw [parse_text p1, mode_word p2, fig_num (by omega) (by omega), fig_num (by omega) (by omega), fig_num (by omega) (by omega), fig_num (by omega) (by omega)]
  dsimp only
  have hy : (yesL off == ([121, 101, 115] : Bytes)) = off := by cases off <;> rfl
  rw [if_pos rfl, if_pos h, hy, if_pos rfl]
theorem read_cases (s : Bytes) : readL33 s = errR ∨ ∃ a b mode off score day ticket since, readL33 s = (a, b, mode, off, score, day, ticket, since, 0) ∧ sound a b mode score day ticket since = true ∧ netsL (rowL a b mode off score day ticket since) = s := by
  unfold readL33
  split
  · unfold member8
    dsimp only
    split
    · split
      · split
        · rename_i h1 h2 h3
          exact .inr ⟨_, _, _, _, _, _, _, _, rfl, h2, h3⟩
        · exact .inl rfl
      · exact .inl rfl
    · exact .inl rfl
  · exact .inl rfl
end Go.Proofs.YtnnlhpmkfijppaaDoor.Pl
set_option linter.unusedVariables false
set_option linter.unusedSimpArgs false
namespace Go.Proofs.YtnnlhpmkfijppaaDoor.Pl
open Go.RowKit Go.Proofs.YtnnlhpmkfijppaaDoorW.PrintWords Go.Proofs.YtnnlhpmkfijppaaDoor.Fn

theorem to33_is (a b : ByteArray) (m : Int) (o : Bool) (s d t n : Int) : bulletinlaw33_To.f a b m o s d t n = some (a, b, m, o, s, d, t, n) := rfl
theorem rosterBack_j1 (x : ByteArray) (hx : x.size ≤ 1000) (k : Nat) (hk : 1000000 ≤ k) : bulletinlaw33_RosterBack.j1 (k + 1) x false = some true := by
 rw [bulletinlaw33_RosterBack.j1, if_neg (by decide), read33_is x (by omega) k hk, Option.bind_some]
 rcases read_cases (bs x) with h | ⟨a, b, mode, off, score, day, ticket, since, h, hs, hr⟩
 ·rw [h]
  unfold errR
  dsimp only
  rw [if_neg (by decide), if_pos (by decide +kernel)]
 ·rw [h]
  dsimp only
  obtain ⟨p1, p2, p3, p4, p5, p6⟩ := sound_parts hs
  have hz := right_short p1
  rw [if_pos rfl, sound_is _ _ _ _ _ _ _ _ (by omega) (by omega) k (by omega), Option.bind_some, if_pos hs, row_is _ _ _ _ _ _ _ _ (by omega) (by omega) ⟨by omega, by omega⟩ ⟨by omega, by omega⟩ ⟨by omega, by omega⟩ ⟨by omega, by omega⟩ k (by omega), Option.bind_some, toList_str, toList_bs, hr, beq_self_eq_true]
theorem RosterBack (a b : ByteArray) (mode : Int) (off : Bool) (score day ticket since : Int) (s : ByteArray) (h3 : i64 score) (h4 : i64 day) (h5 : i64 ticket) (h6 : i64 since) : ∃ k, bulletinlaw33_RosterBack.f k a b mode off score day ticket since s = some true := by
 refine ⟨1000000 + 1 + 1, ?_⟩
 generalize hk : (1000000 : Nat) = k
 unfold bulletinlaw33_RosterBack.f
 rw [works33 _ (by omega), Option.bind_some, if_pos rfl]
 have hj : ∀ x : Bool, x = true → bulletinlaw33_RosterBack.j0 (k + 1 + 1) s x a b mode off score day ticket since = some true := by
  intro x hx
  rw [bulletinlaw33_RosterBack.j0, if_pos hx]
 by_cases h0 : (a.size : Int) > 300
 ·rw [if_pos h0, hj _ rfl]
 by_cases h1 : (b.size : Int) > 300
 ·rw [if_neg h0, if_pos h1, hj _ rfl]
 rw [if_neg h0, if_neg h1]
 by_cases h2 : (s.size : Int) > 1000
 ·rw [hj _ (decide_eq_true h2)]
 rw [decide_eq_false h2, bulletinlaw33_RosterBack.j0, if_neg (by decide), to33_is, Option.bind_some]
 dsimp only
 rw [row_is a b mode off score day ticket since (by omega) (by omega) h3 h4 h5 h6 _ (by omega), Option.bind_some]
 have hl : (netsL (rowL a b mode off score day ticket since)).length ≤ 8 * (903 + 23) := netsL_le 903 (rowL a b mode off score day ticket since) (rowL_len 300 (by decide) a b mode off score day ticket since (by omega) (by omega))
 rw [read33_is _ (by rw [str_size]; omega) _ (by omega), bs_str, Option.bind_some, sound_is _ _ _ _ _ _ _ _ (by omega) (by omega) _ (by omega), Option.bind_some]
 by_cases hs : sound a b mode score day ticket since = true
 ·rw [if_pos hs, read_row hs]
  dsimp only
  rw [if_pos rfl]
  simp only [beq_self_eq_true, Bool.not_true, Bool.or_false]
  exact rosterBack_j1 s (by omega) k (by omega)
 ·rw [if_neg hs]
  exact rosterBack_j1 s (by omega) k (by omega)
end Go.Proofs.YtnnlhpmkfijppaaDoor.Pl
