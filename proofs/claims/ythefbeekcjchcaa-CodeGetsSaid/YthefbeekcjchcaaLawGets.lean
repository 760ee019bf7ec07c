/- The law CodeGets, walked. -/
import Derived.Test.YthefbeekcjchcaaGetAllC
import Derived.Test.YthefbeekcjchcaaPutAllC
import Derived.Test.YthefbeekcjchcaaCodeP2
import Derived.Test.YthefbeekcjchcaaRefC
import Derived.Test.YthefbeekcjchcaaAnchor
import Derived.Test.YthefbeekcjchcaaRead
namespace Go.Proofs.Ythefbeekcjchcaa.P
open Go Go.RowKit Go.Proofs.YthefbeekcjchcaaW.PrintWords Go.Proofs.YthefbeekcjchcaaW.PrintLast Go.Proofs.YthefbeekcjchcaaW.PrintMore Go.Proofs.Ythefbeekcjchcaa.Pure
set_option linter.unusedVariables false
set_option linter.unusedSimpArgs false
def byteG (l : List Int) : Bool := l.all fun x => decide (0 ≤ x) && decide (x < 256)
theorem byteG_of {l : List Int} (h : byteG l = true) : Bytes l := fun x hx => by
  have := List.all_eq_true.1 h x hx
  simpa using this
set_option maxHeartbeats 8000000 in
set_option maxRecDepth 20000 in
theorem CodeGets_big (odd : List Int) (AO : Option Addr) (kO : Nat) (w : World) (hbig : ¬ odd.length ≤ 1500) :
    Calls Try.prog 9 #[.slice AO odd.length kO] w fun e w' => e = .returned (.bool true) ∧ Below w.heap.size w w' := by
  have d : decide (1500 < (odd.length : Int)) = true := decide_eq_true (by omega)
  clear hbig
  go_enter Try.func9, Try.ntmps9
  go_wp2_with (fail)
  refine (anchor_calls _).mono ?_
  rintro e w1 ⟨rfl, hb⟩
  have HB := Aside0.mk hb
  clear hb
  go_wp2
  go_ret
  exact ⟨rfl, HB.out⟩
set_option maxHeartbeats 8000000 in
set_option maxRecDepth 20000 in
theorem CodeGets_main (odd : List Int) (AO : Option Addr) (kO : Nat) (w : World) (hO : Kd.C (Kd.int .u8) w AO odd.length odd) (hcO : odd.length ≤ kO) (hby : Bytes odd) (q : odd.length ≤ 1500) :
    Calls Try.prog 9 #[.slice AO odd.length kO] w fun e w' => e = .returned (.bool true) ∧ Below w.heap.size w w' := by
  have d : decide (1500 < (odd.length : Int)) = false := decide_eq_false (by omega)
  have HQ := Aside0.mk q
  have HO := Aside0.mk hO
  have HCO := Aside0.mk hcO
  have HBYO := Aside0.mk hby
  clear hO hcO hby q
  go_enter Try.func9, Try.ntmps9
  go_wp2_with (fail)
  refine (anchor_calls _).mono ?_
  rintro e w1 ⟨rfl, hb⟩
  have HB := Aside0.mk hb
  have HO1 := Aside0.mk (Kd.C_below HO.out hb)
  clear hb
  go_wp2_with (fail)
  refine (GetCatalog_T AO kO odd w1 HO1.out HCO.out HBYO.out (by have := HQ.out; omega)).mono ?_
  rintro e w10 ⟨x, u0, rfl, r0, hx0, hx1, hb⟩
  have HB10 := Aside0.mk (below_step HB.out hb)
  have HO10 := Aside0.mk (Kd.C_below HO.out HB10.out)
  have HX0 := Aside0.mk hx0
  have HX1 := Aside0.mk hx1
  obtain ⟨B0, e0, rfl, hd0, g0⟩ := Kd.R_reads r0
  obtain ⟨F, hF⟩ : ∃ F, finP rCat odd = F := ⟨_, rfl⟩
  rw [hF]
  have HF := Aside0.mk hF
  have hb46 := below_alloc (Below.refl w10.heap.size w10) (Obj.cells #[.slice B0 x.length e0] 61)
  have hbox := heap_last w10 (.cells #[.slice B0 x.length e0] 61)
  obtain ⟨W11, hW11⟩ : ∃ W, w10.alloc (.cells #[.slice B0 x.length e0] 61) = W := ⟨_, rfl⟩
  have hS11 : W11.heap.size = w10.heap.size + 1 := by rw [← hW11, World.size_alloc]
  rw [hW11] at hb46 hbox
  have HR11 := RQ.new (c := kO) (Kd.C_below HO10.out hb46) HCO.out
  rw [hS11] at HR11
  have HG0 := Aside0.mk g0
  have HB46 := Aside0.mk hb46
  have HBOX := Aside0.mk hbox
  have K := Aside0.mk (R_Catalog_Q (w10.heap.size + 1) odd ⟨HBYO.out, by have := HQ.out; omega⟩ (.left odd) W11 _ HR11 (below_alloc (Below.refl _ _) _))
  subst hW11
  clear hF hx0 hx1 hb46 hbox hS11 HR11 hb r0 g0 hd0 d
  go_wp2_with (fail)
  refine K.out.mono ?_
  rintro e w12 ⟨vP, xP, stP, rfl, _, hs, hi, hb, hk⟩
  have HFIN := Aside0.mk (hs.fin (fun e h => RQ.ne (h ▸ hi))).1
  have HB12 := Aside0.mk hb
  have K2 := Aside0.mk (R_End_Q (w10.heap.size + 1) odd (by have := HQ.out; omega) stP _ w12 hi hb)
  rw [HFIN.out, HF.out] at K2
  clear hs hi hb hk K
  go_wp2_with (fail)
  refine K2.out.mono ?_
  rintro e w13 ⟨rfl, _, hb, hk⟩
  have HB13 := Aside0.mk (below_step (below_step HB10.out HB46.out) hb)
  have HBOX13 := Aside0.mk ((hb.block _ (blk_lt HBOX.out)).trans HBOX.out)
  have HBB13 := Aside0.mk (below_step HB46.out hb)
  have hx0 := (blk_cell HBOX13.out) 0
  clear hb hk K2
  by_cases h0 : F = 0
  · have z0 : (F == 0) = true := beq_iff_eq.2 h0
    have z1 : (F != 0) = false := bne_eq_false_iff_eq.2 h0
    obtain ⟨f1, f2, f3⟩ := fin_from fit_cat HBYO.out (HX0.out (HF.out.trans h0))
    have K := Aside0.mk (PutCatalog_T x B0 e0 w13 (Kd.C_below HG0.out HBB13.out) (by have := HQ.out; omega))
    rw [endE, endL, f1, if_pos rfl, if_pos rfl, f2] at K
    clear h0 f1 f2 f3
    go_wp2_with (fail)
    refine K.out.mono ?_
    rintro e w14 ⟨v, rfl, hr, hb⟩
    obtain ⟨Ad, cd, rfl, hcd, hCd⟩ := Kd.R_reads hr
    have HCD := Aside0.mk hCd
    have HCDc := Aside0.mk hcd
    have HB14 := Aside0.mk (below_step HB13.out hb)
    have HO14 := Aside0.mk (Kd.C_below HO.out HB14.out)
    clear hr hb hcd hCd K
    obtain ⟨ks2, hs2⟩ := same_self odd (by have := HQ.out; omega)
    have HSM2 := Aside0.mk hs2
    clear hs2
    go_wp2_with (fail)
    refine (slipwayref11_Same.calls ks2 Ad cd odd AO kO odd true w14 HCD.out HCDc.out HO14.out HCO.out HSM2.out).mono ?_
    rintro e w15 ⟨rfl, ⟨⟨n15, rfl⟩⟩⟩
    go_wp2
    go_ret
    exact ⟨rfl, pw_below_drewN HB14.out n15⟩
  · have z0 : (F == 0) = false := beq_eq_false_iff_ne.2 h0
    have z1 : (F != 0) = true := bne_iff_ne.2 h0
    have hxe := HX1.out (fun h => h0 (HF.out.symm.trans h))
    subst hxe
    clear h0
    go_wp2
    go_ret
    exact ⟨rfl, HB13.out⟩
def slipwaylaw12_CodeGets.f (_k : Nat) (l : List Int) : Option Bool := if byteG l = true then some true else none
theorem slipwaylaw12_CodeGets.calls (k : Nat) (A1 : Option Addr) (c1 : Nat) (l1 : List Int) (r : Bool) (w : World) (hr1 : Kd.C (Kd.int .u8) w A1 l1.length l1) (hc1 : l1.length ≤ c1) (h : slipwaylaw12_CodeGets.f k l1 = some r) :
    Calls Try.prog 9 #[.slice A1 l1.length c1] w fun e w' => e = .returned (.bool r) ∧ Below w.heap.size w w' := by
  unfold slipwaylaw12_CodeGets.f at h
  split at h
  · rename_i hb
    obtain rfl := Option.some.inj h
    by_cases hbig : l1.length ≤ 1500
    · exact CodeGets_main l1 A1 c1 w hr1 hc1 (byteG_of hb) hbig
    · exact CodeGets_big l1 A1 c1 w hbig
  · cases h
end Go.Proofs.Ythefbeekcjchcaa.P
namespace Go.Proofs.Ythefbeekcjchcaa.Pure
open Go Go.Proofs.Ythefbeekcjchcaa.P Go.Proofs.Ythefbeekcjchcaa.Read
set_option linter.unusedVariables false
theorem CodeGets (l : List Int) (g : goodList (fun x => (Lit.int .u8 x).wf = true) l) : ∃ k, slipwaylaw12_CodeGets.f k l = some true := by
  refine ⟨0, if_pos (List.all_eq_true.2 fun x hx => ?_)⟩
  have h := g.2 x hx
  simp only [Lit.wf, decide_eq_true_eq, Bool.and_eq_true] at h
  rw [show IntKind.u8.min = 0 from rfl, show IntKind.u8.max = 255 from rfl] at h
  simp
  omega
end Go.Proofs.Ythefbeekcjchcaa.Pure
