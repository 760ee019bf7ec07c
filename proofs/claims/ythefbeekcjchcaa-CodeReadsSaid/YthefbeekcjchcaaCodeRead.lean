import Derived.Test.YthefbeekcjchcaaRefP
import Derived.Test.YthefbeekcjchcaaCodeNum
namespace Go.Proofs.Ythefbeekcjchcaa.P
open Go Go.RowKit Go.Proofs.YthefbeekcjchcaaW.PrintWords Go.Proofs.YthefbeekcjchcaaW.PrintLast Go.Proofs.YthefbeekcjchcaaW.PrintMore Go.Proofs.Ythefbeekcjchcaa.Pure
set_option linter.unusedVariables false
set_option linter.unusedSimpArgs false
set_option maxHeartbeats 8000000 in
set_option maxRecDepth 20000 in
theorem CodeReads_calls (A : Option Addr) (c : Nat) (l : List Int) (w : World) (hr : Kd.C (Kd.int .u8) w A l.length l) (hc : l.length ≤ c) (hby : Bytes l) :
    Calls Try.prog 4 #[.slice A l.length c] w fun e w' => e = .returned (.bool true) ∧ Below w.heap.size w w' := by
  have HR := Aside0.mk hr
  have HC := Aside0.mk hc
  have HBY := Aside0.mk hby
  clear hr hc hby
  by_cases h3 : l.length > 1000
  · have d : decide (1000 < (l.length : Int)) = true := decide_eq_true (by omega)
    have d' : decide (1000 < l.length) = true := decide_eq_true h3
    go_enter Try.func4, Try.ntmps4
    go_wp2_with (fail)
    refine (anchor_calls _).mono ?_
    rintro e w1 ⟨rfl, HB⟩
    replace HB := Aside0.mk HB
    go_wp2
    go_ret
    exact ⟨rfl, HB.out⟩
  · have d : decide (1000 < (l.length : Int)) = false := decide_eq_false (by omega)
    have d' : decide (1000 < l.length) = false := decide_eq_false h3
    have HLEN : Aside0 (l.length ≤ 1000) := ⟨by omega⟩
    obtain ⟨out, p, hat, ⟨kI, hI⟩, hout⟩ := Rints_ev l HBY.out (by omega)
    have hend := Rend_eq l (gets l 0).2.1 p (gets l 0).2.2 hat
    have hRE : dend (gets l 0).2.1 (gets l 0).2.2 = readE l := rfl
    rw [hRE] at hend
    have hok : readE l = 0 → out = readL l := fun h => by
      have hd := dend_zero (show dend (gets l 0).2.1 (gets l 0).2.2 = 0 from h)
      unfold readL
      rw [if_pos h]
      exact hout hd.2
    have hno : readE l ≠ 0 → readL l = [] := fun h => by unfold readL; rw [if_neg h]
    have hrw := read_write l HBY.out
    generalize (gets l 0).2.2 = e2 at hI hend
    clear hRE hout hat
    generalize hE : readE l = E at hend hok hno hrw
    have HI := Aside0.mk hI
    have HEND := Aside0.mk hend
    have HOK := Aside0.mk hok
    have HNO := Aside0.mk hno
    have HRW := Aside0.mk hrw
    have HEE := Aside0.mk hE
    clear hI hend hok hno hrw hE
    go_enter Try.func4, Try.ntmps4
    go_wp2_with (fail)
    refine (anchor_calls _).mono ?_
    rintro e w1 ⟨rfl, hb⟩
    have HB := Aside0.mk hb
    have HR1 := Aside0.mk (Kd.C_below HR.out hb)
    clear hb
    have K := Aside0.mk (GetNumbers_calls A c l w1 HR1.out HC.out HBY.out (by have := HLEN.out; omega))
    rw [HEE.out] at K
    go_wp2_with (fail)
    refine K.out.mono ?_
    rintro e w2 ⟨v, rfl, hr, hb⟩
    obtain ⟨Al, cl, rfl, hcl, hCl⟩ := Kd.R_reads hr
    have HCl := Aside0.mk hCl
    have HCLc := Aside0.mk hcl
    have HB2 := Aside0.mk (below_step HB.out hb)
    have HR2 := Aside0.mk (Kd.C_below HR1.out hb)
    clear hr hb hcl hCl K
    have hS := IsS39.new w2 w2 A c l 0 0 (Below.refl _ _) HR2.out
    have K := Aside0.mk (slipwayref12_R_Ints.calls kI w2.heap.size l 0 0 out p e2 w2 _ hS (below_alloc (Below.refl _ _) _) HI.out)
    clear hS
    go_wp2_with (fail)
    refine K.out.mono ?_
    rintro e w3 ⟨v3, rfl, hr, hs, hb, hk⟩
    have K2 := Aside0.mk (slipwayref12_R_End.calls w2.heap.size l p e2 E p E w2 w3 hs hb HEND.out)
    have HM := Aside0.mk hr
    clear hr hs hb hk K
    go_wp2_with (fail)
    refine K2.out.mono ?_
    rintro e w4 ⟨rfl, hs, hb, hk⟩
    have HM4 := Aside0.mk (Kd.R_keep (Kd.R_bound HM.out) hk (fun k hk => by have := hk.2.1; simp at this; omega))
    have HB4 := Aside0.mk (below_step HB2.out hb)
    have HR4 := Aside0.mk (Kd.C_below HR2.out hb)
    have HCl4 := Aside0.mk (Kd.C_below HCl.out hb)
    clear hs hb hk K2 HM
    by_cases h0 : E = 0
    · have d0 : (E == 0) = true := beq_iff_eq.2 h0
      have d1 : (E != 0) = false := bne_eq_false_iff_eq.2 h0
      obtain ⟨r1, r2, r3⟩ := HRW.out h0
      have hm := HOK.out h0
      rw [hm] at HM4
      generalize readL l = L at HCl HCLc HCl4 HM4 r1 r2 r3
      obtain ⟨Am, cm, rfl, hcm, hCm⟩ := Kd.R_reads HM4.out
      have HCm := Aside0.mk hCm
      have HCMc := Aside0.mk hcm
      have HLL : Aside0 (L.length ≤ 1000) := ⟨by have := HLEN.out; omega⟩
      have K := Aside0.mk (PutNumbers_calls Al cl L w4 HCl4.out (by have := HLL.out; omega))
      rw [r1, r2] at K
      clear h0 hm r1 r2 r3 hCm hcm
      go_wp2_with (fail)
      refine K.out.mono ?_
      rintro e w5 ⟨v, rfl, hr, hb⟩
      obtain ⟨Ac, cc, rfl, hcc, hCc⟩ := Kd.R_reads hr
      have HCc := Aside0.mk hCc
      have HCCc := Aside0.mk hcc
      have HB5 := Aside0.mk (below_step HB4.out hb)
      have HR5 := Aside0.mk (Kd.C_below HR4.out hb)
      have HCl5 := Aside0.mk (Kd.C_below HCl4.out hb)
      have HCm5 := Aside0.mk (Kd.C_below HCm.out hb)
      clear hr hb hcc hCc K
      obtain ⟨ki, hi⟩ := ints_self L (by have := HLL.out; omega)
      obtain ⟨ks, hs⟩ := same_self l (by have := HLEN.out; omega)
      have K1 := Aside0.mk (slipwaymade_Ints.calls ki Al cl L Am cm L true w5 HCl5.out HCLc.out HCm5.out HCMc.out hi)
      clear hi
      go_wp2_with (fail)
      refine K1.out.mono ?_
      rintro e w6 ⟨rfl, ⟨⟨n6, rfl⟩⟩⟩
      have K2 := Aside0.mk (slipwayref11_Same.calls ks Ac cc l A c l true (w5.drewN n6) (Kd.C_drewN HCc.out n6) HCCc.out (Kd.C_drewN HR5.out n6) HC.out hs)
      clear hs
      go_wp2_with (fail)
      refine K2.out.mono ?_
      rintro e w7 ⟨rfl, ⟨⟨n7, rfl⟩⟩⟩
      go_wp2
      go_ret
      exact ⟨rfl, pw_below_drewN HB5.out (n6 + n7)⟩
    · have d0 : (E == 0) = false := beq_eq_false_iff_ne.2 h0
      have d1 : (E != 0) = true := bne_iff_ne.2 h0
      rw [HNO.out h0]
      clear h0
      go_wp2
      go_ret
      exact ⟨rfl, HB4.out⟩
def byteB (l : List Int) : Bool := l.all fun x => decide (0 ≤ x) && decide (x < 256)
theorem byteB_of {l : List Int} (h : byteB l = true) : Bytes l := fun x hx => by
  have := List.all_eq_true.1 h x hx
  simpa using this
def slipwaylaw12_CodeReads.f (_k : Nat) (l : List Int) : Option Bool := if byteB l = true then some true else none
theorem slipwaylaw12_CodeReads.calls (k : Nat) (A0 : Option Addr) (c0 : Nat) (l0 : List Int) (r : Bool) (w : World) (hr0 : Kd.C (Kd.int .u8) w A0 l0.length l0) (hc0 : l0.length ≤ c0) (h : slipwaylaw12_CodeReads.f k l0 = some r) :
    Calls Try.prog 4 #[.slice A0 l0.length c0] w fun e w' => e = .returned (.bool r) ∧ Below w.heap.size w w' := by
  unfold slipwaylaw12_CodeReads.f at h
  split at h
  · rename_i hb
    obtain rfl := Option.some.inj h
    exact CodeReads_calls A0 c0 l0 w hr0 hc0 (byteB_of hb)
  · cases h
end Go.Proofs.Ythefbeekcjchcaa.P
namespace Go.Proofs.Ythefbeekcjchcaa.Pure
open Go Go.Proofs.Ythefbeekcjchcaa.P Go.Proofs.Ythefbeekcjchcaa.Read
set_option linter.unusedVariables false
theorem CodeReads (l : List Int) (g : goodList (fun x => (Lit.int .u8 x).wf = true) l) : ∃ k, slipwaylaw12_CodeReads.f k l = some true := by
  refine ⟨0, if_pos (List.all_eq_true.2 fun x hx => ?_)⟩
  have h := g.2 x hx
  simp only [Lit.wf, decide_eq_true_eq, Bool.and_eq_true] at h
  rw [show IntKind.u8.min = 0 from rfl, show IntKind.u8.max = 255 from rfl] at h
  simp
  omega
end Go.Proofs.Ythefbeekcjchcaa.Pure
