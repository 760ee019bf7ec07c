import Derived.Test.YthefbeekcjchcaaGetSvc
import Derived.Laws.EntriesVeiled
namespace Go.Proofs.Ythefbeekcjchcaa.P
open Go Go.RowKit Go.Proofs.YthefbeekcjchcaaW.PrintWords Go.Proofs.YthefbeekcjchcaaW.PrintLast Go.Proofs.YthefbeekcjchcaaW.PrintMore
set_option linter.unusedVariables false
set_option linter.unusedSimpArgs false
set_option maxHeartbeats 4000000 in
set_option maxRecDepth 20000 in
theorem got_req_S (g : Nat) (st : St) (A0 A1 : Option Addr) (n0 n1 c0 c1 : Nat) (w0 w : World) (hI : IP w0 w g st) (hB : Below w0.heap.size w0 w) :
    Calls Try.prog 70 #[.pointer (some ⟨g, 0, none⟩), .agg #[.slice A0 n0 c0, .slice A1 n1 c1]] w fun e' w' => ∃ (B0 B1 : Option Addr) (m0 m1 d0 d1 : Nat), e' = .returned (.tuple #[.agg #[.slice B0 m0 d0, .slice B1 m1 d1], .int .i64 st.fin]) ∧ (st.fin = 0 → Value.slice B0 m0 d0 = .slice A0 n0 c0 ∧ Value.slice B1 m1 d1 = .slice A1 n1 c1) ∧ (st.fin ≠ 0 → Value.slice B0 m0 d0 = .slice none 0 0 ∧ Value.slice B1 m1 d1 = .slice none 0 0) ∧ Below w0.heap.size w0 w' ∧ Only w w' g := by
  obtain ⟨P, hP⟩ : ∃ o, o = Obj.cells #[.slice A0 n0 c0, .slice A1 n1 c1] 72 := ⟨_, rfl⟩
  obtain ⟨Z, hZ⟩ : ∃ o, o = Obj.cells #[.slice none 0 0, .slice none 0 0] 72 := ⟨_, rfl⟩
  have hbx := below_alloc (below_alloc (Below.refl w.heap.size w) P) Z
  have HK0 := Aside0.mk (Only.below g hbx)
  have hp := box_lit w P Z
  have hz := heap_last (w.alloc P) Z
  rw [World.size_alloc] at hz
  have HGN : Aside0 (g < w.heap.size) := ⟨hI.lt⟩
  have HLE := Aside0.mk hB.size
  have HWS : Aside0 (w.heap.size + 1 < ((w.alloc P).alloc Z).heap.size) := ⟨by rw [World.size_alloc, World.size_alloc]; omega⟩
  have K := Aside0.mk (in_end_T g st w0 ((w.alloc P).alloc Z) (hI.below hbx) (below_alloc (below_alloc hB P) Z))
  obtain ⟨E, hE⟩ : ∃ E, st.fin = E := ⟨_, rfl⟩
  rw [hE] at K ⊢
  subst hP hZ
  have HP := Aside0.mk hp
  have HZ := Aside0.mk hz
  clear hI hB hbx hp hz hE
  by_cases h : E = 0
  · have h1 : (E == 0) = true := beq_iff_eq.2 h
    have h2 : (E != 0) = false := bne_eq_false_iff_eq.2 h
    have HE := Aside0.mk h
    clear h
    go_enter Try.func70, Try.ntmps70
    go_wp2_with (fail)
    refine K.out.mono ?_
    rintro e w1 ⟨rfl, hb, hk⟩
    have HB := Aside0.mk hb
    have HK := Aside0.mk (HK0.out.trans hk)
    have HP1 := Aside0.mk ((hk.2 w.heap.size (by have := HWS.out; omega) (by have := HGN.out; omega)).trans HP.out)
    have HZ1 := Aside0.mk ((hk.2 (w.heap.size + 1) HWS.out (by have := HGN.out; omega)).trans HZ.out)
    have hp0 := (blk_cell HP1.out) 0
    have hp1 := (blk_cell HP1.out) 1
    have hz0 := (blk_cell HZ1.out) 0
    have hz1 := (blk_cell HZ1.out) 1
    have hf0 := free_of HZ1.out 0
    have hf1 := free_of HZ1.out 1
    clear hb hk K
    go_wp2
    refine bodyPost_ret (v := .tuple #[.agg #[.slice A0 n0 c0, .slice A1 n1 c1], .int .i64 E]) (by simp [results, Try.results70, go_sem, hz0, hz1, HE.out]) rfl ⟨_, _, _, _, _, _, rfl, fun _ => ⟨rfl, rfl⟩, fun h => absurd HE.out h, ?_, ?_⟩
    · exact (HB.out.setCell (p := ⟨w.heap.size + 1, 0, none⟩) (by have := HLE.out; show _ ≤ w.heap.size + 1; omega) _).setCell (p := ⟨w.heap.size + 1, 1, none⟩) (by have := HLE.out; show _ ≤ w.heap.size + 1; omega) _
    · exact HK.out.turned (b := w.heap.size + 1) (by omega) (by simp) (fun k hk => far2 _ hk _ _)
  · have h1 : (E == 0) = false := beq_eq_false_iff_ne.2 h
    have h2 : (E != 0) = true := bne_iff_ne.2 h
    have HE := Aside0.mk h
    clear h
    go_enter Try.func70, Try.ntmps70
    go_wp2_with (fail)
    refine K.out.mono ?_
    rintro e w1 ⟨rfl, hb, hk⟩
    have hb3 := below_alloc (Below.refl w1.heap.size w1) (Obj.cells #[.slice none 0 0, .slice none 0 0] 72)
    have HB := Aside0.mk (below_step hb hb3)
    have HK := Aside0.mk ((HK0.out.trans hk).trans (Only.below g hb3))
    have HZ1 := Aside0.mk ((hb3.block _ (blk_lt ((hk.2 (w.heap.size + 1) HWS.out (by have := HGN.out; omega)).trans HZ.out))).trans ((hk.2 (w.heap.size + 1) HWS.out (by have := HGN.out; omega)).trans HZ.out))
    have hz0 := (blk_cell HZ1.out) 0
    have hz1 := (blk_cell HZ1.out) 1
    have hf0 := free_of HZ1.out 0
    have hf1 := free_of HZ1.out 1
    clear hb hk K hb3
    go_wp2
    refine bodyPost_ret (v := .tuple #[.agg #[.slice none 0 0, .slice none 0 0], .int .i64 E]) (by simp [results, Try.results70, go_sem, hz0, hz1]) rfl ⟨_, _, _, _, _, _, rfl, fun h => absurd h HE.out, fun _ => ⟨rfl, rfl⟩, ?_, ?_⟩
    · exact (HB.out.setCell (p := ⟨w.heap.size + 1, 0, none⟩) (by have := HLE.out; show _ ≤ w.heap.size + 1; omega) _).setCell (p := ⟨w.heap.size + 1, 1, none⟩) (by have := HLE.out; show _ ≤ w.heap.size + 1; omega) _
    · exact HK.out.turned (b := w.heap.size + 1) (by omega) (by simp) (fun k hk => far2 _ hk _ _)
set_option maxHeartbeats 4000000 in
set_option maxRecDepth 20000 in
theorem got_cat_S (g : Nat) (st : St) (A0 : Option Addr) (n0 c0 : Nat) (w0 w : World) (hI : IP w0 w g st) (hB : Below w0.heap.size w0 w) :
    Calls Try.prog 82 #[.pointer (some ⟨g, 0, none⟩), .agg #[.slice A0 n0 c0]] w fun e' w' => ∃ (B0 : Option Addr) (m0 d0 : Nat), e' = .returned (.tuple #[.agg #[.slice B0 m0 d0], .int .i64 st.fin]) ∧ (st.fin = 0 → Value.slice B0 m0 d0 = .slice A0 n0 c0) ∧ (st.fin ≠ 0 → Value.slice B0 m0 d0 = .slice none 0 0) ∧ Below w0.heap.size w0 w' ∧ Only w w' g := by
  obtain ⟨P, hP⟩ : ∃ o, o = Obj.cells #[.slice A0 n0 c0] 61 := ⟨_, rfl⟩
  obtain ⟨Z, hZ⟩ : ∃ o, o = Obj.cells #[.slice none 0 0] 61 := ⟨_, rfl⟩
  have hbx := below_alloc (below_alloc (Below.refl w.heap.size w) P) Z
  have HK0 := Aside0.mk (Only.below g hbx)
  have hp := box_lit w P Z
  have hz := heap_last (w.alloc P) Z
  rw [World.size_alloc] at hz
  have HGN : Aside0 (g < w.heap.size) := ⟨hI.lt⟩
  have HLE := Aside0.mk hB.size
  have HWS : Aside0 (w.heap.size + 1 < ((w.alloc P).alloc Z).heap.size) := ⟨by rw [World.size_alloc, World.size_alloc]; omega⟩
  have K := Aside0.mk (in_end_T g st w0 ((w.alloc P).alloc Z) (hI.below hbx) (below_alloc (below_alloc hB P) Z))
  obtain ⟨E, hE⟩ : ∃ E, st.fin = E := ⟨_, rfl⟩
  rw [hE] at K ⊢
  subst hP hZ
  have HP := Aside0.mk hp
  have HZ := Aside0.mk hz
  clear hI hB hbx hp hz hE
  by_cases h : E = 0
  · have h1 : (E == 0) = true := beq_iff_eq.2 h
    have h2 : (E != 0) = false := bne_eq_false_iff_eq.2 h
    have HE := Aside0.mk h
    clear h
    go_enter Try.func82, Try.ntmps82
    go_wp2_with (fail)
    refine K.out.mono ?_
    rintro e w1 ⟨rfl, hb, hk⟩
    have HB := Aside0.mk hb
    have HK := Aside0.mk (HK0.out.trans hk)
    have HP1 := Aside0.mk ((hk.2 w.heap.size (by have := HWS.out; omega) (by have := HGN.out; omega)).trans HP.out)
    have HZ1 := Aside0.mk ((hk.2 (w.heap.size + 1) HWS.out (by have := HGN.out; omega)).trans HZ.out)
    have hp0 := (blk_cell HP1.out) 0
    have hz0 := (blk_cell HZ1.out) 0
    have hf0 := free_of HZ1.out 0
    clear hb hk K
    go_wp2
    refine bodyPost_ret (v := .tuple #[.agg #[.slice A0 n0 c0], .int .i64 E]) (by simp [results, Try.results82, go_sem, hz0, HE.out]) rfl ⟨_, _, _, rfl, fun _ => rfl, fun h => absurd HE.out h, ?_, ?_⟩
    · exact HB.out.setCell (p := ⟨w.heap.size + 1, 0, none⟩) (by have := HLE.out; show _ ≤ w.heap.size + 1; omega) _
    · exact HK.out.turned (b := w.heap.size + 1) (by omega) (by simp) (fun k hk => far1 _ hk _)
  · have h1 : (E == 0) = false := beq_eq_false_iff_ne.2 h
    have h2 : (E != 0) = true := bne_iff_ne.2 h
    have HE := Aside0.mk h
    clear h
    go_enter Try.func82, Try.ntmps82
    go_wp2_with (fail)
    refine K.out.mono ?_
    rintro e w1 ⟨rfl, hb, hk⟩
    have hb3 := below_alloc (Below.refl w1.heap.size w1) (Obj.cells #[.slice none 0 0] 61)
    have HB := Aside0.mk (below_step hb hb3)
    have HK := Aside0.mk ((HK0.out.trans hk).trans (Only.below g hb3))
    have HZ1 := Aside0.mk ((hb3.block _ (blk_lt ((hk.2 (w.heap.size + 1) HWS.out (by have := HGN.out; omega)).trans HZ.out))).trans ((hk.2 (w.heap.size + 1) HWS.out (by have := HGN.out; omega)).trans HZ.out))
    have hz0 := (blk_cell HZ1.out) 0
    have hf0 := free_of HZ1.out 0
    clear hb hk K hb3
    go_wp2
    refine bodyPost_ret (v := .tuple #[.agg #[.slice none 0 0], .int .i64 E]) (by simp [results, Try.results82, go_sem, hz0]) rfl ⟨_, _, _, rfl, fun h => absurd h HE.out, fun _ => rfl, ?_, ?_⟩
    · exact HB.out.setCell (p := ⟨w.heap.size + 1, 0, none⟩) (by have := HLE.out; show _ ≤ w.heap.size + 1; omega) _
    · exact HK.out.turned (b := w.heap.size + 1) (by omega) (by simp) (fun k hk => far1 _ hk _)
theorem get_start (w : World) (Z : Obj) (A : Option Addr) (c : Nat) (bs : List Int) (hr : Kd.C (Kd.int .u8) w A bs.length bs) (hc : bs.length ≤ c) (hb : Bytes bs) (hlen : bs.length ≤ 1000000000) :
    IP w ((w.alloc Z).alloc (.cells #[.slice A bs.length c, .int .i64 0] 98)) (w.heap.size + 1) (.left bs) := by
  have hl := heap_last (w.alloc Z) (.cells #[.slice A bs.length c, .int .i64 0] 98)
  rw [World.size_alloc] at hl
  exact ⟨bs, 0, ⟨A, c, hl, by omega, hr, hc⟩, .inl ⟨rfl, rfl⟩, hb, hlen⟩
/-- What GetRequest comes to. -/
def ReqGot (bs : List Int) (w : World) (e : Ending) (w' : World) : Prop :=
  ∃ (x : Req) (u0 u1 : Value), e = .returned (.tuple #[.agg #[u0, u1], .int .i64 (finP rReq bs)]) ∧ kNd.R 148 w' w.heap.size (fun _ => True) u0 x.1 ∧ (Kd.int .i64).R 3 w' w.heap.size (fun _ => True) u1 x.2 ∧
    (finP rReq bs = 0 → rReq bs = .ok (x, [])) ∧ (finP rReq bs ≠ 0 → x = ([], [])) ∧ Below w.heap.size w w'
set_option maxHeartbeats 8000000 in
set_option maxRecDepth 20000 in
theorem GetRequest_T (A : Option Addr) (c : Nat) (bs : List Int) (w : World) (hr : Kd.C (Kd.int .u8) w A bs.length bs) (hc : bs.length ≤ c) (hb : Bytes bs) (hlen : bs.length ≤ 1000000000) :
    Calls Try.prog 29 #[.slice A bs.length c] w (ReqGot bs w) := by
  have hmf : ∀ (fn : Fn) (first cap : Array Value) (w : World), (Instr.makeFunc fn first cap).run Try.prog w = .ok (.func fn first cap) w := fun _ _ _ _ => rfl
  obtain ⟨Z, hZ⟩ : ∃ o, o = Obj.cells #[.slice none 0 0, .slice none 0 0] 72 := ⟨_, rfl⟩
  obtain ⟨Y, hY⟩ : ∃ o, o = Obj.cells #[.slice A bs.length c, .int .i64 0] 98 := ⟨_, rfl⟩
  obtain ⟨X, hX⟩ : ∃ o, o = Obj.cells #[.pointer (some ⟨w.heap.size + 1, 0, none⟩)] 96 := ⟨_, rfl⟩
  have hI := get_start w Z A c bs hr hc hb hlen
  rw [← hY] at hI
  have hb3 := below_drew (below_alloc (Below.refl ((w.alloc Z).alloc Y).heap.size ((w.alloc Z).alloc Y)) X)
  have hs2 : ((w.alloc Z).alloc Y).heap.size = w.heap.size + 2 := by rw [World.size_alloc, World.size_alloc]
  have hBX : BXI (((w.alloc Z).alloc Y).alloc X).drew (w.heap.size + 2) (w.heap.size + 1) := ⟨by
    have := heap_last ((w.alloc Z).alloc Y) X
    rw [hs2] at this
    rw [← hX]
    exact this, by omega⟩
  have hz : (((w.alloc Z).alloc Y).alloc X).drew.heap[w.heap.size]? = some Z := three_P w Z Y X
  have hBw := below_drew (below_alloc (below_alloc (below_alloc (Below.refl w.heap.size w) Z) Y) X)
  have K := Aside0.mk (things_pin_T (w.heap.size + 1) (w.heap.size + 2) _ w _ (hI.below hb3) hBX hBw)
  have hx := (blk_cell hBX.1) 0
  have HX := Aside0.mk hBX
  have HZ := Aside0.mk hz
  have HL0 : Aside0 (w.heap.size ≤ (((w.alloc Z).alloc Y).alloc X).drew.heap.size) := ⟨Nat.le_of_lt (blk_lt hz)⟩
  subst hX hZ hY
  clear hr hc hb hlen hs2 hI hb3 hBX hz hBw
  go_enter Try.func29, Try.ntmps29
  go_wp2
  go_region_held3 (fun w' => w'.cell? ⟨w.heap.size + 2, 0, none⟩ = some (.pointer (some ⟨w.heap.size + 1, 0, none⟩))) (first | go_keep | exact BXI.set2 HX3.out (by omega) _ _)
    (first
      | (go_at_call 71; refine K.out.mono ?_; rintro e w1 ⟨v0, x0, st1, rfl, hr, hs, hi, hb, hk⟩; have HX1 := Aside0.mk (HX.out.only hk); have HZ1 := Aside0.mk ((hk.2 _ (blk_lt HZ.out) (by omega)).trans HZ.out); have HS1 := Aside0.mk hs; have K1 := Aside0.mk (in_ints_T (w.heap.size + 1) (w.heap.size + 2) st1 w w1 hi HX1.out hb); have hx1 := (blk_cell HX1.out.1) 0; have HR0 := Aside0.mk (Kd.R_lower (base' := w.heap.size) hr HL0.out); have HL1 : Aside0 (w.heap.size ≤ w1.heap.size) := ⟨Nat.le_trans HL0.out hk.1⟩; clear K hx HX HZ hr hs hi hb hk)
      | (go_at_call 39; refine K1.out.mono ?_; rintro e w2 ⟨v1, x1, st2, rfl, hr, hs, hi, hb, hk⟩; have HX2 := Aside0.mk (HX1.out.only hk); have HZ2 := Aside0.mk ((hk.2 _ (blk_lt HZ1.out) (by omega)).trans HZ1.out); have HS2 := Aside0.mk hs; have hx2 := (blk_cell HX2.out.1) 0; have HR1 := Aside0.mk (Kd.R_lower (base' := w.heap.size) hr HL1.out); have HR01 := Aside0.mk (R_only HR0.out hk); obtain ⟨A0, d0, rfl⟩ := Kd.R_slice HR01.out; obtain ⟨A1, d1, rfl⟩ := Kd.R_slice HR1.out; have HI2 := Aside0.mk hi; have K2 := Aside0.mk (got_req_S (w.heap.size + 1) st2 A0 A1 x0.length x1.length d0 d1 w w2 hi hb); clear K1 hx1 HX1 HZ1 HR0 hr hs hi hb hk)
      | (go_at_call 70; refine K2.out.mono ?_; rintro e w5 ⟨B0, B1, m0, m1, b0, b1, rfl, hu, hv, hb, hk⟩; have HX3 := Aside0.mk (HX2.out.only hk); have HZ5 := Aside0.mk ((hk.2 _ (blk_lt HZ2.out) (by omega)).trans HZ2.out); have hx5 := (blk_cell HX3.out.1) 0; have hq0 := (blk_cell HZ5.out) 0; have hq1 := (blk_cell HZ5.out) 1; have hf0 := free_of HZ5.out 0; have hf1 := free_of HZ5.out 1; have HU := Aside0.mk hu; have HV := Aside0.mk hv; have HB5 := Aside0.mk hb; have HK5 := Aside0.mk hk; clear K2 hx2 HX2 HZ2 hu hv hb hk))
  go_wp2
  refine bodyPost_ret (v := .tuple #[.agg #[.slice B0 m0 b0, .slice B1 m1 b1], .int .i64 st2.fin]) (by simp [results, Try.results29, go_sem, hq0, hq1]) rfl ?_
  have HS : Step rReq (.left bs) (x0, x1) st2 := Step.bind HS1.out (Step.map (f := fun y => (x0, y)) HS2.out)
  obtain ⟨hfin, hok⟩ := HS.fin (fun e h => IP.ne (h ▸ HI2.out))
  have hB6 := (HB5.out.setCell (p := ⟨w.heap.size, 0, none⟩) (Nat.le_refl _) (.slice B0 m0 b0)).setCell (p := ⟨w.heap.size, 1, none⟩) (Nat.le_refl _) (.slice B1 m1 b1)
  by_cases h : st2.fin = 0
  · obtain ⟨e0, e1⟩ := HU.out h
    rw [e0, e1] at hB6 ⊢
    refine ⟨(x0, x1), _, _, by rw [hfin], Kd.R_mono (Kd.R_turned (R_only HR01.out HK5.out) HZ5.out (by decide) (fun k hk => far2 _ hk _ _)) (fun _ _ => trivial), Kd.R_mono (Kd.R_turned (R_only HR1.out HK5.out) HZ5.out (by decide) (fun k hk => far2 _ hk _ _)) (fun _ _ => trivial), fun _ => hok h, fun h' => absurd h (hfin ▸ h'), hB6⟩
  · obtain ⟨e0, e1⟩ := HV.out h
    rw [e0, e1] at hB6 ⊢
    exact ⟨([], []), _, _, by rw [hfin], Kd.R_nil _ _ _ _ _, Kd.R_nil _ _ _ _ _, fun h' => absurd (hfin.trans h') h, fun _ => rfl, hB6⟩
/-- What GetCatalog comes to. -/
def CatGot (bs : List Int) (w : World) (e : Ending) (w' : World) : Prop :=
  ∃ (x : List Svc) (u0 : Value), e = .returned (.tuple #[.agg #[u0], .int .i64 (finP rCat bs)]) ∧ kSvc.R 113 w' w.heap.size (fun _ => True) u0 x ∧
    (finP rCat bs = 0 → rCat bs = .ok (x, [])) ∧ (finP rCat bs ≠ 0 → x = []) ∧ Below w.heap.size w w'
set_option maxHeartbeats 8000000 in
set_option maxRecDepth 20000 in
theorem GetCatalog_T (A : Option Addr) (c : Nat) (bs : List Int) (w : World) (hr : Kd.C (Kd.int .u8) w A bs.length bs) (hc : bs.length ≤ c) (hb : Bytes bs) (hlen : bs.length ≤ 1000000000) :
    Calls Try.prog 32 #[.slice A bs.length c] w (CatGot bs w) := by
  have hmf : ∀ (fn : Fn) (first cap : Array Value) (w : World), (Instr.makeFunc fn first cap).run Try.prog w = .ok (.func fn first cap) w := fun _ _ _ _ => rfl
  obtain ⟨Z, hZ⟩ : ∃ o, o = Obj.cells #[.slice none 0 0] 61 := ⟨_, rfl⟩
  obtain ⟨Y, hY⟩ : ∃ o, o = Obj.cells #[.slice A bs.length c, .int .i64 0] 98 := ⟨_, rfl⟩
  obtain ⟨X, hX⟩ : ∃ o, o = Obj.cells #[.pointer (some ⟨w.heap.size + 1, 0, none⟩)] 96 := ⟨_, rfl⟩
  obtain ⟨F, hF⟩ : ∃ o, o = Obj.cells #[.func (.func 75) #[] #[.pointer (some ⟨w.heap.size + 2, 0, none⟩)]] 159 := ⟨_, rfl⟩
  obtain ⟨G, hG⟩ : ∃ o, o = Obj.cells #[.func (.func 76) #[] #[.pointer (some ⟨w.heap.size + 2, 0, none⟩), .pointer (some ⟨w.heap.size + 3, 0, none⟩)]] 162 := ⟨_, rfl⟩
  have hI := get_start w Z A c bs hr hc hb hlen
  rw [← hY] at hI
  obtain ⟨W2, hW2⟩ : ∃ W, (w.alloc Z).alloc Y = W := ⟨_, rfl⟩
  have hs2 : W2.heap.size = w.heap.size + 2 := by rw [← hW2, World.size_alloc, World.size_alloc]
  have hz2 : W2.heap[w.heap.size]? = some Z := hW2 ▸ box_lit w Z Y
  have hBw2 : Below w.heap.size w W2 := hW2 ▸ below_alloc (below_alloc (Below.refl w.heap.size w) Z) Y
  rw [hW2] at hI
  have hb5 := below_drew (below_alloc (below_alloc (below_alloc (Below.refl W2.heap.size W2) X) F) G)
  have hx3 := heap_last W2 X
  have hf3 := heap_last (W2.alloc X) F
  have hg3 := heap_last ((W2.alloc X).alloc F) G
  rw [hs2] at hx3
  rw [World.size_alloc, hs2] at hf3
  rw [World.size_alloc, World.size_alloc, hs2] at hg3
  have hb35 := below_drew (below_alloc (below_alloc (Below.refl (W2.alloc X).heap.size (W2.alloc X)) F) G)
  have hb45 := below_drew (below_alloc (Below.refl ((W2.alloc X).alloc F).heap.size ((W2.alloc X).alloc F)) G)
  have hBX : BXI (((W2.alloc X).alloc F).alloc G).drew (w.heap.size + 2) (w.heap.size + 1) := ⟨by
    rw [← hX]; exact (hb35.block _ (blk_lt hx3)).trans hx3, by omega⟩
  have hBF : BXF (((W2.alloc X).alloc F).alloc G).drew (w.heap.size + 3) (.func (.func 75) #[] #[.pointer (some ⟨w.heap.size + 2, 0, none⟩)]) 159 (w.heap.size + 1) := ⟨by
    rw [← hF]; exact (hb45.block _ (blk_lt hf3)).trans hf3, by omega⟩
  have hBG : BXF (((W2.alloc X).alloc F).alloc G).drew (w.heap.size + 4) (.func (.func 76) #[] #[.pointer (some ⟨w.heap.size + 2, 0, none⟩), .pointer (some ⟨w.heap.size + 3, 0, none⟩)]) 162 (w.heap.size + 1) := ⟨by
    rw [← hG]; exact hg3, by omega⟩
  have hz : (((W2.alloc X).alloc F).alloc G).drew.heap[w.heap.size]? = some Z := (hb5.block _ (blk_lt hz2)).trans hz2
  have hBw := hBw2.trans (hb5.mono (by omega))
  have K := Aside0.mk (things_svc_T (w.heap.size + 1) (w.heap.size + 2) (w.heap.size + 3) (w.heap.size + 4) _ w _ (hI.below hb5) hBX hBF hBG hBw)
  have hx := (blk_cell hBX.1) 0
  have HX := Aside0.mk hBX
  have HZ := Aside0.mk hz
  have HL0 : Aside0 (w.heap.size ≤ (((W2.alloc X).alloc F).alloc G).drew.heap.size) := ⟨Nat.le_of_lt (blk_lt hz)⟩
  subst hX hZ hY hF hG hW2
  clear hr hc hb hlen hs2 hI hb5 hBX hz hBw hz2 hBw2 hx3 hf3 hg3 hb35 hb45 hBF hBG
  go_enter Try.func32, Try.ntmps32
  go_wp2
  go_region_held3 (fun w' => w'.cell? ⟨w.heap.size + 2, 0, none⟩ = some (.pointer (some ⟨w.heap.size + 1, 0, none⟩))) (first | go_keep | exact (blk_cell ((far1 _ (by omega) _).trans HX3.out.1)) 0)
    (first
      | (go_at_call 83; refine K.out.mono ?_; rintro e w2 ⟨v0, x0, st2, rfl, hr, hs, hi, hb, hk⟩; have HX2 := Aside0.mk (HX.out.only hk); have HZ2 := Aside0.mk ((hk.2 _ (blk_lt HZ.out) (by omega)).trans HZ.out); have HS2 := Aside0.mk hs; have hx2 := (blk_cell HX2.out.1) 0; have HR0 := Aside0.mk (Kd.R_lower (base' := w.heap.size) hr HL0.out); obtain ⟨A0, d0, rfl⟩ := Kd.R_slice hr; have HI2 := Aside0.mk hi; have K2 := Aside0.mk (got_cat_S (w.heap.size + 1) st2 A0 x0.length d0 w w2 hi hb); clear K hx HX HZ hr hs hi hb hk)
      | (go_at_call 82; refine K2.out.mono ?_; rintro e w5 ⟨B0, m0, b0, rfl, hu, hv, hb, hk⟩; have HX3 := Aside0.mk (HX2.out.only hk); have HZ5 := Aside0.mk ((hk.2 _ (blk_lt HZ2.out) (by omega)).trans HZ2.out); have hx5 := (blk_cell HX3.out.1) 0; have hq0 := (blk_cell HZ5.out) 0; have hf0 := free_of HZ5.out 0; have HU := Aside0.mk hu; have HV := Aside0.mk hv; have HB5 := Aside0.mk hb; have HK5 := Aside0.mk hk; clear K2 hx2 HX2 HZ2 hu hv hb hk))
  go_wp2
  refine bodyPost_ret (v := .tuple #[.agg #[.slice B0 m0 b0], .int .i64 st2.fin]) (by simp [results, Try.results32, go_sem, hq0]) rfl ?_
  have HS : Step rCat (.left bs) x0 st2 := HS2.out
  obtain ⟨hfin, hok⟩ := HS.fin (fun e h => IP.ne (h ▸ HI2.out))
  have hB6 := HB5.out.setCell (p := ⟨w.heap.size, 0, none⟩) (Nat.le_refl _) (.slice B0 m0 b0)
  by_cases h : st2.fin = 0
  · have e0 := HU.out h
    rw [e0] at hB6 ⊢
    refine ⟨x0, _, by rw [hfin], Kd.R_mono (Kd.R_turned (R_only HR0.out HK5.out) HZ5.out (by decide) (fun k hk => far1 _ hk _)) (fun _ _ => trivial), fun _ => hok h, fun h' => absurd h (hfin ▸ h'), hB6⟩
  · have e0 := HV.out h
    rw [e0] at hB6 ⊢
    exact ⟨[], _, by rw [hfin], Kd.R_nil _ _ _ _ _, fun h' => absurd (hfin.trans h') h, fun _ => rfl, hB6⟩
end Go.Proofs.Ythefbeekcjchcaa.P
