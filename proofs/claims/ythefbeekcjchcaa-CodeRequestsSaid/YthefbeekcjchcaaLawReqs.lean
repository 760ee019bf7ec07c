/- The law CodeRequests, walked. -/
import Derived.Test.YthefbeekcjchcaaLawCuts
import Derived.Test.YthefbeekcjchcaaReqW
namespace Go.Proofs.Ythefbeekcjchcaa.P
open Go Go.RowKit Go.Proofs.YthefbeekcjchcaaW.PrintWords Go.Proofs.YthefbeekcjchcaaW.PrintLast Go.Proofs.YthefbeekcjchcaaW.PrintMore Go.Proofs.Ythefbeekcjchcaa.Pure
set_option linter.unusedVariables false
set_option linter.unusedSimpArgs false
theorem cost_req_le (p : List Nd) (m : List Int) (h : okReq p m = true) : costT (tReq (p, m)) ≤ 1000000 := by
  unfold okReq at h
  simp only [Bool.and_eq_true, decide_eq_true_eq, List.all_eq_true] at h
  obtain ⟨⟨h1, h2⟩, h3⟩ := h
  have hp := cost_all tNd 18804 p (fun n hn => cost_nd_le n (h3 n hn))
  unfold tReq
  rw [costT_app, costT_nums]
  have : p.length * 18804 ≤ 40 * 18804 := Nat.mul_le_mul_right _ h1
  dsimp only
  omega
theorem bo_req (p : List Nd) (m : List Int) : Bytes (outT (tReq (p, m))) := bo_app (bo_list bo_nd _) (bo_list (fun n => bo_num bo_nil) _)
set_option maxHeartbeats 16000000 in
set_option maxRecDepth 20000 in
theorem CodeRequests_main (p : List Nd) (m : List Int) (odd : List Int) (A A1 AO : Option Addr) (c c1 kO : Nat) (w : World) (h0 : Kd.C kNd w A p.length p) (h1 : Kd.C (Kd.int .i64) w A1 m.length m) (hc1 : m.length ≤ c1) (hO : Kd.C (Kd.int .u8) w AO odd.length odd) (hcO : odd.length ≤ kO) (hby : Bytes odd) :
    Calls Try.prog 7 #[.agg #[.slice A p.length c, .slice A1 m.length c1], .slice AO odd.length kO] w fun e w' => e = .returned (.bool true) ∧ Below w.heap.size w w' := by
  have HC := Aside0.mk h0
  have HC1 := Aside0.mk h1
  have HCC1 := Aside0.mk hc1
  have HO := Aside0.mk hO
  have HCO := Aside0.mk hcO
  have HBYO := Aside0.mk hby
  obtain ⟨R, hR⟩ : ∃ r, okReq p m = r := ⟨_, rfl⟩
  have HR := Aside0.mk hR
  have hbx := below_alloc (Below.refl w.heap.size w) (Obj.cells #[.slice A p.length c, .slice A1 m.length c1] 72)
  have HBX := Aside0.mk hbx
  have HBOX := Aside0.mk (heap_last w (Obj.cells #[.slice A p.length c, .slice A1 m.length c1] 72))
  clear h0 h1 hc1 hO hcO hby hR hbx
  go_enter Try.func7, Try.ntmps7
  go_wp2_with (fail)
  refine (anchor_calls _).mono ?_
  rintro e w1 ⟨rfl, hb⟩
  have HB := Aside0.mk (below_step HBX.out hb)
  have HP := Aside0.mk ((hb.block _ (blk_lt HBOX.out)).trans HBOX.out)
  have hp0 := (blk_cell HP.out) 0
  have hp1 := (blk_cell HP.out) 1
  have K := Aside0.mk (request_T p m A A1 c c1 w1 (Kd.C_below HC.out HB.out))
  rw [HR.out] at K
  clear hb HBX HBOX
  go_wp2_with (fail)
  refine K.out.mono ?_
  rintro e w2 ⟨Au, nu, cu, rfl, hok, hb⟩
  have hb3 := below_alloc (Below.refl w2.heap.size w2) (Obj.cells #[.slice Au nu cu, .slice A1 m.length c1] 75)
  have HB3 := Aside0.mk (below_step (below_step HB.out hb) hb3)
  have HP3 := Aside0.mk ((hb3.block _ (by have := hb.size; have := blk_lt HP.out; omega)).trans ((hb.block _ (blk_lt HP.out)).trans HP.out))
  cases R with
  | false =>
    clear hok hb hb3 K hp0 hp1
    go_wp2
    go_ret
    exact ⟨rfl, HB3.out⟩
  | true =>
    by_cases q : odd.length ≤ 1000
    case neg =>
      have d : decide (1000 < (odd.length : Int)) = true := decide_eq_true (by omega)
      clear hok hb hb3 K hp0 hp1 q
      go_wp2
      go_ret
      exact ⟨rfl, HB3.out⟩
    case pos =>
    have d : decide (1000 < (odd.length : Int)) = false := decide_eq_false (by omega)
    have HQ := Aside0.mk q
    have hr := hok rfl
    obtain ⟨Au', cu', hv⟩ := Kd.R_slice hr
    cases hv
    obtain ⟨_, hcu, hCu⟩ := Kd.R_reads' hr
    have HX := Aside0.mk (heap_last w2 (Obj.cells #[.slice Au p.length cu, .slice A1 m.length c1] 75))
    obtain ⟨W3, hW3⟩ : ∃ W, w2.alloc (Obj.cells #[.slice Au p.length cu, .slice A1 m.length c1] 75) = W := ⟨_, rfl⟩
    have hS3 : W3.heap.size = w2.heap.size + 1 := by rw [← hW3, World.size_alloc]
    rw [hW3] at hb3 HB3 HP3 HX
    have HCU := Aside0.mk (Kd.C_below hCu hb3)
    have hOT := OT.new 27 W3
    rw [hS3] at hOT
    have hbW := below_alloc (Below.refl W3.heap.size W3) (Obj.cells #[.slice none 0 0, .bool false] 27)
    have HCOST := Aside0.mk (cost_req_le p m HR.out)
    have HMLEN : Aside0 (m.length ≤ 100) := ⟨by
      have h := HR.out
      unfold okReq at h
      simp only [Bool.and_eq_true, decide_eq_true_eq] at h
      exact h.1.2⟩
    clear K
    have KW := Aside0.mk (W_Request_T (w2.heap.size + 1) [] p m Au A1 cu c1 W3 _ hOT hbW HCU.out (Kd.C_below HC1.out HB3.out) (by rw [costT_nil]; have := HCOST.out; omega))
    rw [List.nil_append] at KW
    have hx0 := (blk_cell ((hbW.block _ (blk_lt HX.out)).trans HX.out)) 0
    have hx1 := (blk_cell ((hbW.block _ (blk_lt HX.out)).trans HX.out)) 1
    subst hW3
    clear hok hb hb3 hr hCu hcu hOT hbW hS3 hp0 hp1 q
    go_wp2_with (fail)
    refine KW.out.mono ?_
    rintro e w4 ⟨rfl, ho, hb, hk⟩
    have HOT4 := Aside0.mk ho
    have HB4 := Aside0.mk (below_step HB3.out hb)
    have HP4 := Aside0.mk ((hb.block _ (blk_lt HP3.out)).trans HP3.out)
    have hp0 := (blk_cell HP4.out) 0
    have hp1 := (blk_cell HP4.out) 1
    obtain ⟨ok, hok⟩ : ∃ b, okT (tReq (p, m)) = b := ⟨_, rfl⟩
    have HOK := Aside0.mk hok
    have K := Aside0.mk (PutRequest_T (p, m) A A1 c c1 w4 (Kd.C_below HC.out HB4.out) (Kd.C_below HC1.out HB4.out) (by have := HCOST.out; omega))
    rw [endE, endL, hok] at K
    dsimp only at K
    clear hok ho hb hk KW hx0 hx1
    obtain ⟨E, hE⟩ : ∃ E : Int, (if ok = true then 0 else 12) = E := ⟨_, rfl⟩
    obtain ⟨L, hL⟩ : ∃ L : List Int, (if ok = true then outT (tReq (p, m)) else []) = L := ⟨_, rfl⟩
    rw [hE, hL] at K
    have HE := Aside0.mk hE
    have HLL := Aside0.mk hL
    clear hE hL
    go_wp2_with (fail)
    refine K.out.mono ?_
    rintro e w5 ⟨v, rfl, hr, hb⟩
    obtain ⟨Ab, cb, rfl, hcb, hCb⟩ := Kd.R_reads hr
    have HCB := Aside0.mk hCb
    have HCBc := Aside0.mk hcb
    have HB5 := Aside0.mk (below_step HB4.out hb)
    have HP5 := Aside0.mk ((hb.block _ (blk_lt HP4.out)).trans HP4.out)
    have HOT5 := Aside0.mk (HOT4.out.below hb)
    clear hr hb hcb hCb hp0 hp1 K
    obtain ⟨bs, bad, ⟨vB, hgB, hgB0, hRB⟩, hsay⟩ := HOT5.out
    have hB1 := (blk_cell hgB) 1
    have HGB := Aside0.mk hgB
    have HRB := Aside0.mk hRB
    have HSAY := Aside0.mk hsay
    clear hgB hgB0 hRB hsay
    cases ok with
    | false =>
      have hbad : bad = true := by have := HSAY.out.1; rw [HOK.out] at this; exact this
      have hE : E = 12 := HE.out.symm
      have hL : L = [] := HLL.out.symm
      subst hbad
      subst hE
      subst hL
      go_wp2
      go_ret
      exact ⟨rfl, HB5.out⟩
    | true =>
      have hbad : bad = false := by have := HSAY.out.1; rw [HOK.out] at this; exact this
      have hE : E = 0 := HE.out.symm
      have hL : L = outT (tReq (p, m)) := HLL.out.symm
      have hbs : bs = outT (tReq (p, m)) := HSAY.out.2.1 HOK.out
      obtain ⟨hbk1, hbk2⟩ := fin_back fit_req (p, m) HOK.out
      rw [← hL] at hbs hbk1 hbk2
      subst hbad
      subst hE
      have HBYL : Aside0 (Bytes L) := ⟨hL ▸ bo_req p m⟩
      have HLN : Aside0 (L.length ≤ 1000000) := ⟨by rw [hL]; have := outT_cost (tReq (p, m)); have := HCOST.out; omega⟩
      have HLU := Aside0.mk hL
      subst hbs
      have HF1 := Aside0.mk hbk1
      have HF2 := Aside0.mk hbk2
      clear hL hbk1 hbk2 HE HLL HSAY
      have K := Aside0.mk (GetRequest_T Ab cb bs w5 HCB.out HCBc.out HBYL.out (by have := HLN.out; omega))
      go_wp2_with (fail)
      refine K.out.mono ?_
      rintro e w6 ⟨x, u0, u1, rfl, r0, r1, hx, _, hb⟩
      have hx' := hx HF2.out
      rw [HF1.out] at hx'
      simp only [Except.ok.injEq, Prod.mk.injEq, and_true] at hx'
      subst hx'
      dsimp only at r0 r1
      clear hx K hB1
      obtain ⟨B0, e0, rfl, hd0, g0⟩ := Kd.R_reads r0
      obtain ⟨B1, e1', rfl, hd1, g1⟩ := Kd.R_reads r1
      rw [HF2.out]
      have hb46 := below_alloc (Below.refl w6.heap.size w6) (Obj.cells #[.slice B0 p.length e0, .slice B1 m.length e1'] 72)
      have hbox := heap_last w6 (.cells #[.slice B0 p.length e0, .slice B1 m.length e1'] 72)
      have HB7 := Aside0.mk (below_step (below_step HB5.out hb) hb46)
      have hb5 := below_step hb hb46
      have HP7 := Aside0.mk ((hb5.block _ (blk_lt HP5.out)).trans HP5.out)
      have HGB7 := Aside0.mk ((hb5.block _ (blk_lt HGB.out)).trans HGB.out)
      have HRB7 := Aside0.mk (Kd.R_below HRB.out hb5)
      have HCB7 := Aside0.mk (Kd.C_below HCB.out hb5)
      have HBX7 := Aside0.mk hbox
      have HCM := Aside0.mk (Kd.C_below g1 hb46)
      have HCMc := Aside0.mk hd1
      have K := Aside0.mk (PutRequest_T (p, m) B0 B1 e0 e1' _ (Kd.C_below g0 hb46) HCM.out (by have := HCOST.out; omega))
      rw [endE, endL, HOK.out, if_pos rfl, if_pos rfl, ← HLU.out] at K
      dsimp only at K
      clear hb hb46 hbox hb5 r0 r1 g0 g1 hd0 hd1 HP5 HGB HRB HCB HOT5 HB5
      go_wp2_with (fail)
      refine K.out.mono ?_
      rintro e w8 ⟨v, rfl, hr, hb⟩
      clear K
      obtain ⟨Ac, cc, rfl, hcc, hCc⟩ := Kd.R_reads hr
      have HB8 := Aside0.mk (below_step HB7.out hb)
      have HP8 := Aside0.mk ((hb.block _ (blk_lt HP7.out)).trans HP7.out)
      have HGB8 := Aside0.mk ((hb.block _ (blk_lt HGB7.out)).trans HGB7.out)
      have HBX8 := Aside0.mk ((hb.block _ (blk_lt HBX7.out)).trans HBX7.out)
      obtain ⟨AB, cB, hvB, hcB, hCB⟩ := Kd.R_reads (Kd.R_below HRB7.out hb)
      have HCB8 := Aside0.mk (Kd.C_below HCB7.out hb)
      have HCM8 := Aside0.mk (Kd.C_below HCM.out hb)
      have HCC := Aside0.mk hCc
      have HCCc := Aside0.mk hcc
      have HCW := Aside0.mk hCB
      have HCWc := Aside0.mk hcB
      subst hvB
      have hB0 := (blk_cell HGB8.out) 0
      have hx0 := (blk_cell HBX8.out) 0
      have hx1 := (blk_cell HBX8.out) 1
      have hp0 := (blk_cell HP8.out) 0
      have hp1 := (blk_cell HP8.out) 1
      clear hr hb hcc hCc hcB hCB HB7 HP7 HGB7 HBX7 HCB7 HRB7
      obtain ⟨ks, hs⟩ := same_self bs (by have := HLN.out; omega)
      have HSM := Aside0.mk hs
      clear hs
      go_wp2_with (fail)
      refine (slipwayref11_Same.calls ks Ab cb bs AB cB bs true w8 HCB8.out HCBc.out HCW.out HCWc.out HSM.out).mono ?_
      rintro e w7 ⟨rfl, ⟨⟨n7, rfl⟩⟩⟩
      go_wp2_with (fail)
      refine (slipwayref11_Same.calls ks Ac cc bs Ab cb bs true (w8.drewN n7) (Kd.C_drewN HCC.out n7) HCCc.out (Kd.C_drewN HCB8.out n7) HCBc.out HSM.out).mono ?_
      rintro e w9 ⟨rfl, ⟨⟨n8, rfl⟩⟩⟩
      obtain ⟨ks3, hs3⟩ := ints_self m (by have := HMLEN.out; omega)
      have HSI := Aside0.mk hs3
      have HCQ := Aside0.mk (Kd.C_below HC1.out HB8.out)
      clear hs3
      go_wp2_with (fail)
      refine (slipwaymade_Ints.calls ks3 B1 e1' m A1 c1 m true _ (Kd.C_drewN HCM8.out _) HCMc.out (Kd.C_drewN HCQ.out _) HCC1.out HSI.out).mono ?_
      rintro e w10 ⟨rfl, ⟨⟨n10, rfl⟩⟩⟩
      have HO6 := Aside0.mk (Kd.C_below HO.out HB8.out)
      go_wp2_with (fail)
      refine (GetRequest_T AO kO odd _ (Kd.C_drewN HO6.out _) HCO.out HBYO.out (by have := HQ.out; omega)).mono ?_
      rintro e w10 ⟨x, u0, u1, rfl, r0, r1, hx0', hx1', hb⟩
      clear hB0 hx0 hx1 hp0 hp1
      have HB10 := Aside0.mk (below_step (pw_below_drewN HB8.out _) hb)
      have HO10 := Aside0.mk (Kd.C_below HO.out HB10.out)
      have HX0 := Aside0.mk hx0'
      have HX1 := Aside0.mk hx1'
      obtain ⟨B2, e2, rfl, hd0, g0⟩ := Kd.R_reads r0
      obtain ⟨B3, e3, rfl, hd1, g1⟩ := Kd.R_reads r1
      obtain ⟨F, hF⟩ : ∃ F, finP rReq odd = F := ⟨_, rfl⟩
      rw [hF]
      have HF := Aside0.mk hF
      have hb46 := below_alloc (Below.refl w10.heap.size w10) (Obj.cells #[.slice B2 x.1.length e2, .slice B3 x.2.length e3] 72)
      have hbox := heap_last w10 (.cells #[.slice B2 x.1.length e2, .slice B3 x.2.length e3] 72)
      obtain ⟨W11, hW11⟩ : ∃ W, w10.alloc (.cells #[.slice B2 x.1.length e2, .slice B3 x.2.length e3] 72) = W := ⟨_, rfl⟩
      have hS11 : W11.heap.size = w10.heap.size + 1 := by rw [← hW11, World.size_alloc]
      rw [hW11] at hb46 hbox
      have HR11 := RQ.new (c := kO) (Kd.C_below HO10.out hb46) HCO.out
      rw [hS11] at HR11
      have HG0 := Aside0.mk g0
      have HG1 := Aside0.mk g1
      have HB46 := Aside0.mk hb46
      have HBOX := Aside0.mk hbox
      have K := Aside0.mk (R_Request_Q (w10.heap.size + 1) odd ⟨HBYO.out, by have := HQ.out; omega⟩ (.left odd) W11 _ HR11 (below_alloc (Below.refl _ _) _))
      subst hW11
      clear hF hx0' hx1' hb46 hbox hS11 HR11 hb r0 r1 g0 g1 hd0 hd1 d
      go_wp2_with (fail)
      refine K.out.mono ?_
      rintro e w12 ⟨vP, xP, stP, rfl, _, hs, hi, hb, hk⟩
      have HFIN := Aside0.mk (hs.fin (fun e h => RQ.ne (h ▸ hi))).1
      have HB12 := Aside0.mk hb
      have K2 := Aside0.mk (R_End_Q (w10.heap.size + 1) odd (by have := HQ.out; omega) stP _ w12 hi hb)
      rw [HFIN.out, HF.out] at K2
      clear hs hi hb hk K
      go_wp2_with (fail)
      refine K2.out.mono ?_
      rintro e w13 ⟨rfl, ⟨ip, _, hgR⟩, hb, hk⟩
      have HB13 := Aside0.mk (below_step (below_step HB10.out HB46.out) hb)
      have HBOX13 := Aside0.mk ((hb.block _ (blk_lt HBOX.out)).trans HBOX.out)
      have HBB13 := Aside0.mk (below_step HB46.out hb)
      obtain ⟨AR, cR, hgR', _⟩ := hgR
      have hR2 := (blk_cell hgR') 2
      have hx0 := (blk_cell HBOX13.out) 0
      have hx1 := (blk_cell HBOX13.out) 1
      clear hb hk K2 hgR'
      by_cases h0 : F = 0
      · have z0 : (F == 0) = true := beq_iff_eq.2 h0
        have z1 : (F != 0) = false := bne_eq_false_iff_eq.2 h0
        obtain ⟨f1, f2, f3⟩ := fin_from fit_req HBYO.out (HX0.out (HF.out.trans h0))
        have K := Aside0.mk (PutRequest_T x B2 B3 e2 e3 w13 (Kd.C_below HG0.out HBB13.out) (Kd.C_below HG1.out HBB13.out) (by have := HQ.out; omega))
        rw [endE, endL, f1, if_pos rfl, if_pos rfl, f2] at K
        clear h0 f1 f2 f3
        go_wp2_with (fail)
        refine K.out.mono ?_
        rintro e w14 ⟨v, rfl, hr, hb⟩
        obtain ⟨Ad, cd, rfl, hcd, hCd⟩ := Kd.R_reads hr
        have HCD := Aside0.mk hCd
        have HCDc := Aside0.mk hcd
        have HB14 := Aside0.mk (below_step HB13.out hb)
        have HO14 := Aside0.mk (Kd.C_below HO.out HB14.out)
        clear hr hb hcd hCd K
        obtain ⟨ks2, hs2⟩ := same_self odd (by have := HQ.out; omega)
        have HSM2 := Aside0.mk hs2
        clear hs2
        go_wp2_with (fail)
        refine (slipwayref11_Same.calls ks2 Ad cd odd AO kO odd true w14 HCD.out HCDc.out HO14.out HCO.out HSM2.out).mono ?_
        rintro e w15 ⟨rfl, ⟨⟨n15, rfl⟩⟩⟩
        go_wp2
        go_ret
        exact ⟨rfl, pw_below_drewN HB14.out n15⟩
      · have z0 : (F == 0) = false := beq_eq_false_iff_ne.2 h0
        have z1 : (F != 0) = true := bne_iff_ne.2 h0
        have hxe := HX1.out (fun h => h0 (HF.out.symm.trans h))
        subst hxe
        clear h0
        go_wp2
        go_ret
        exact ⟨rfl, HB13.out⟩
def byteQ (l : List Int) : Bool := l.all fun x => decide (0 ≤ x) && decide (x < 256)
theorem byteQ_of {l : List Int} (h : byteQ l = true) : Bytes l := fun x hx => by
  have := List.all_eq_true.1 h x hx
  simpa using this
abbrev kReqA : Kd Req := Kd.pair (Kd.slice 148 kNd) (Kd.slice 3 (Kd.int .i64))
def slipwaylaw12_CodeRequests.f (_k : Nat) (x : Req) (l : List Int) : Option Bool := if byteQ l = true then some true else none
theorem slipwaylaw12_CodeRequests.calls (k : Nat) (cs : Array Value) (x : Req) (A1 : Option Addr) (c1 : Nat) (l1 : List Int) (r : Bool) (w : World) (hK : kReqA.K w x cs.toList) (hr1 : Kd.C (Kd.int .u8) w A1 l1.length l1) (hc1 : l1.length ≤ c1) (h : slipwaylaw12_CodeRequests.f k x l1 = some r) :
    Calls Try.prog 7 #[.agg cs, .slice A1 l1.length c1] w fun e w' => e = .returned (.bool r) ∧ Below w.heap.size w w' := by
  unfold slipwaylaw12_CodeRequests.f at h
  split at h
  · rename_i hb
    obtain rfl := Option.some.inj h
    obtain ⟨z0, z1, hz, ⟨A0, k0, rfl, hl0, h0⟩, ⟨A2, k2, rfl, hl1, h1⟩⟩ := hK
    obtain rfl : cs = #[.slice A0 x.1.length k0, .slice A2 x.2.length k2] := by
      apply Array.ext'
      exact hz
    exact CodeRequests_main x.1 x.2 l1 A0 A2 A1 k0 k2 c1 w h0 h1 hl1 hr1 hc1 (byteQ_of hb)
  · cases h
end Go.Proofs.Ythefbeekcjchcaa.P
namespace Go.Proofs.Ythefbeekcjchcaa.Pure
open Go Go.Proofs.Ythefbeekcjchcaa.P Go.Proofs.Ythefbeekcjchcaa.Read
set_option linter.unusedVariables false
theorem CodeRequests (x : Req) {G : Prop} (gp : G) (l : List Int) (g : goodList (fun x => (Lit.int .u8 x).wf = true) l) : ∃ k, slipwaylaw12_CodeRequests.f k x l = some true := by
  refine ⟨0, if_pos (List.all_eq_true.2 fun x hx => ?_)⟩
  have h := g.2 x hx
  simp only [Lit.wf, decide_eq_true_eq, Bool.and_eq_true] at h
  rw [show IntKind.u8.min = 0 from rfl, show IntKind.u8.max = 255 from rfl] at h
  simp
  omega
end Go.Proofs.Ythefbeekcjchcaa.Pure
