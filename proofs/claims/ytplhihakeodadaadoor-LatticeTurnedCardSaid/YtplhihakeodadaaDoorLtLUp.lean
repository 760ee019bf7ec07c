/- lattice: the law LatticeUp, walked. -/
import Derived.Test.YtplhihakeodadaaDoorLtLDn
namespace Go.Proofs.YtplhihakeodadaaDoor.Sg
open Go Go.RowKit Go.Proofs.YtplhihakeodadaaDoorW.PrintWords Go.Proofs.YtplhihakeodadaaDoorW.PrintLast Go.Proofs.YtplhihakeodadaaDoorW.PrintMore
set_option linter.unusedVariables false
set_option linter.unusedSimpArgs false
/-- An edge turned round. -/
def swapS (e : Stp) : Stp := (e.2, e.1)
theorem cl_swap {E : List Stp} {x : Nat} : Cl Prod.snd Prod.fst (E.map swapS) x ↔ Cl Prod.fst Prod.snd E x := by
  constructor
  · intro h e he hb
    exact h (swapS e) (List.mem_map.2 ⟨e, he, rfl⟩) hb
  · intro h e he hb
    obtain ⟨e, he', rfl⟩ := List.mem_map.1 he
    exact h e he' hb
theorem cl_swap' {E : List Stp} {x : Nat} : Cl Prod.fst Prod.snd (E.map swapS) x ↔ Cl Prod.snd Prod.fst E x := by
  constructor
  · intro h e he hb
    exact h (swapS e) (List.mem_map.2 ⟨e, he, rfl⟩) hb
  · intro h e he hb
    obtain ⟨e, he', rfl⟩ := List.mem_map.1 he
    exact h e he' hb
theorem least_swap {E : List Stp} {s d : Nat} (h : Least Prod.snd Prod.fst (E.map swapS) s d) : Least Prod.fst Prod.snd E s d :=
  ⟨h.lt, cl_swap.1 h.cl, h.sub, fun x hx hs => h.least x (cl_swap.2 hx) hs⟩
theorem Least.unique {f t : Stp → Int} {E : List Stp} {s a b : Nat} (h : Least f t E s a) (k : Least f t E s b) : a = b := (h.least b k.cl k.sub).eq (k.least a h.cl h.sub)
theorem right_swap {n : Int} {E : List Stp} : rightG n (E.map swapS) = rightG n E := by
  unfold rightG
  rw [List.length_map, List.all_map]
  congr 1
  refine congrArg (fun f => E.all f) (funext fun e => ?_)
  unfold okEdge swapS
  simp only [Function.comp]
  refine decide_eq_decide.2 ⟨fun h => ⟨h.2, h.1⟩, fun h => ⟨h.2, h.1⟩⟩
theorem inside_swap {n : Int} {E : List Stp} {s : Nat} : insideE n (E.map swapS) s = insideE n E s := by unfold insideE; rw [right_swap]
theorem bits_lt64 {n : Nat} (h : n ≤ 10) : (2 : Nat) ^ n - 1 < 2 ^ 64 := Nat.lt_of_lt_of_le (Nat.sub_lt (Nat.two_pow_pos n) (by decide)) (Nat.pow_le_pow_right (by decide) (by omega))
/-- Down and Up look at each other. -/
theorem down_up {E : List Stp} {n i j a b : Nat} (hn : n ≤ 10) (hE : ∀ e ∈ E, e.1.toNat < n ∧ e.2.toNat < n) (hi : i < n) (hj : j < n) (ha : Least Prod.snd Prod.fst E (2 ^ i) a) (hb : Least Prod.fst Prod.snd E (2 ^ j) b) : a.testBit j = b.testBit i := by
  have hm := bits_lt64 hn
  have bi : (2 ^ i).testBit i = true := by rw [Nat.testBit_two_pow]; simp
  have bj : (2 ^ j).testBit j = true := by rw [Nat.testBit_two_pow]; simp
  have k1 : a.testBit j = true → b.testBit i = true := fun h => by
    cases hbi : b.testBit i with
    | true => rfl
    | false =>
      have hc : Cl Prod.snd Prod.fst E (andN (2 ^ n - 1) b) := fun e he h2 => by
        rw [andN_bit _ _ _ hm, Bool.and_eq_true, mask_bit] at h2
        rw [andN_bit _ _ _ hm, mask_bit, decide_eq_true (hE e he).1, Bool.true_and]
        cases h1 : b.testBit (Prod.fst e).toNat with
        | false => rfl
        | true => rw [hb.cl e he h1] at h2; exact absurd h2.2 (by simp)
      have hs : Sub (2 ^ i) (andN (2 ^ n - 1) b) := fun k hk => by
        rw [Nat.testBit_two_pow, decide_eq_true_eq] at hk
        subst hk
        rw [andN_bit _ _ _ hm, mask_bit, decide_eq_true hi, hbi]
        rfl
      have := ha.least _ hc hs j h
      rw [andN_bit _ _ _ hm, hb.sub j bj] at this
      simp at this
  have k2 : b.testBit i = true → a.testBit j = true := fun h => by
    cases haj : a.testBit j with
    | true => rfl
    | false =>
      have hc : Cl Prod.fst Prod.snd E (andN (2 ^ n - 1) a) := fun e he h2 => by
        rw [andN_bit _ _ _ hm, Bool.and_eq_true, mask_bit] at h2
        rw [andN_bit _ _ _ hm, mask_bit, decide_eq_true (hE e he).2, Bool.true_and]
        cases h1 : a.testBit (Prod.snd e).toNat with
        | false => rfl
        | true => rw [ha.cl e he h1] at h2; exact absurd h2.2 (by simp)
      have hs : Sub (2 ^ j) (andN (2 ^ n - 1) a) := fun k hk => by
        rw [Nat.testBit_two_pow, decide_eq_true_eq] at hk
        subst hk
        rw [andN_bit _ _ _ hm, mask_bit, decide_eq_true hj, haj]
        rfl
      have := hb.least _ hc hs i h
      rw [andN_bit _ _ _ hm, ha.sub i bi] at this
      simp at this
  cases h1 : a.testBit j with
  | true => exact (k1 h1).symm
  | false =>
    cases h2 : b.testBit i with
    | false => rfl
    | true => rw [k2 h2] at h1; cases h1
theorem lit_rp (W : World) (g : Nat) (x y : Int) (h0 : W.cell? ⟨g, 0, none⟩ = some (.int .i64 x)) (h1 : W.cell? ⟨g, 1, none⟩ = some (.int .i64 y)) : ReadsRow (fun (p : Stp) cs => cs = [.int .i64 p.1, .int .i64 p.2]) 2 W (some ⟨g, 0, none⟩) 1 [(x, y)] := by
  refine ⟨rfl, by decide, fun _ => ⟨⟨g, 0, none⟩, rfl, fun j p hj => ?_⟩⟩
  match j with
  | 0 =>
    cases hj
    refine ⟨_, rfl, rfl, fun i u hu => ?_⟩
    match i with
    | 0 => cases hu; simpa [Addr.add] using h0
    | 1 => cases hu; simpa [Addr.add] using h1
    | i + 2 => simp at hu
  | j + 1 => simp at hj
theorem M_pair {w : World} {base : Nat} {ok : Nat → Prop} (p : Stp) (cs : List Value) (h : cs = [.int .i64 p.1, .int .i64 p.2]) : kP.M w base ok p cs := by
  subst h
  exact ⟨[.int .i64 p.1], [.int .i64 p.2], rfl, rfl, rfl⟩
theorem info_pair : (Tryd.prog.info? 74).map (fun i => (i.zero, i.size, i.bytes)) = some (some (.agg #[.int .i64 0, .int .i64 0]), 2, 16) := by kernel_rfl
set_option maxHeartbeats 16000000 in
set_option maxRecDepth 1000000 in
theorem LatticeUp_main (N : Int) (E : List Stp) (A : Option Addr) (c s : Nat) (i j : Int) (w : World) (hT : TabW w) (hs : s < 2 ^ 64) (hI : -9223372036854775808 ≤ i ∧ i < 9223372036854775808) (hJ : -9223372036854775808 ≤ j ∧ j < 9223372036854775808) (h : Kd.C kP w A E.length E) (hN : -9223372036854775808 ≤ N ∧ N < 9223372036854775808) :
    Calls Tryd.prog 12 #[.agg #[.int .i64 N, .slice A E.length c], .int .u64 (s : Int), .int .i64 i, .int .i64 j] w fun e w' => e = .returned (.bool true) ∧ Below w.heap.size w w' := by
  have hb0 := below_alloc (Below.refl w.heap.size w) (.cells #[.int .i64 N, .slice A E.length c] 62)
  have HX := Aside0.mk (heap_last w (.cells #[.int .i64 N, .slice A E.length c] 62))
  have HB := Aside0.mk hb0
  have K0 := Aside0.mk (Anchor_T (w.alloc (.cells #[.int .i64 N, .slice A E.length c] 62)) (hT.below hb0))
  have KP := Aside0.mk (fun W (hb : Below w.heap.size w W) => plain_T N E A c W (Kd.C_below h hb) hN)
  have HN := Aside0.mk hN
  have HC := Aside0.mk h
  have HS := Aside0.mk hs
  have h0 := (blk_cell HX.out) 0
  have h1 := (blk_cell HX.out) 1
  clear hb0 h hs hT
  obtain ⟨hN1, hN2⟩ := hN
  go_enter Tryd.func12, Tryd.ntmps12
  go_wp2_with (fail)
  refine K0.out.mono ?_
  rintro e w1 ⟨rfl, hb⟩
  have HB1 := Aside0.mk (below_step HB.out hb)
  have HX1 := Aside0.mk (blk_below HX.out hb)
  clear K0 hb h0 h1
  have h0 := (blk_cell HX1.out) 0
  have h1 := (blk_cell HX1.out) 1
  go_wp2_with (fail)
  refine (KP.out w1 HB1.out).mono ?_
  rintro e w2 ⟨rfl, hb⟩
  have HB2' := Aside0.mk (below_step HB1.out hb)
  have HX2' := Aside0.mk (blk_below HX1.out hb)
  clear KP hb h0 h1
  have HB2 := Aside0.mk (below_alloc HB2'.out (.cells #[.int .i64 N, .slice A E.length c] 55))
  have HX2 := Aside0.mk (blk_alloc HX2'.out (.cells #[.int .i64 N, .slice A E.length c] 55))
  have HP2 := Aside0.mk (heap_last w2 (.cells #[.int .i64 N, .slice A E.length c] 55))
  have h0 := (blk_cell HX2.out) 0
  have h1 := (blk_cell HX2.out) 1
  have hp0 := (blk_cell HP2.out) 0
  have hp1 := (blk_cell HP2.out) 1
  have HW2 : Aside0 (w.heap.size ≤ w2.heap.size) := ⟨below_size HB2'.out⟩
  clear HB1 HX1 HB HX HB2' HX2'
  by_cases hok : okG N E = true
  · rw [hok]
    have HOK := Aside0.mk hok
    have hl := okG_len hok
    have KD := Aside0.mk (fun W (hb : Below w.heap.size w W) => Up_T N E A c s W HS.out (Kd.C_below HC.out hb) (by omega) (by omega) HN.out.1)
    have KR := Aside0.mk (fun W (hb : Below w.heap.size w W) => RRight_T N E A c W (Kd.C_below HC.out hb) (by omega) HN.out)
    have HL : Aside0 (E.length ≤ 1000000000) := ⟨by omega⟩
    clear hok hl
    go_wp2_with (fail)
    refine (KD.out _ HB2.out).mono ?_
    rintro e w3 ⟨d, rfl, hd1, hd2, hb⟩
    have HB3 := Aside0.mk (below_step HB2.out hb)
    have HX3 := Aside0.mk (blk_below HX2.out hb)
    have HP3 := Aside0.mk (blk_below HP2.out hb)
    have HD1 := Aside0.mk hd1
    have HD2 := Aside0.mk hd2
    clear KD hb h0 h1 hp0 hp1 hd1 hd2
    have h0 := (blk_cell HX3.out) 0
    have h1 := (blk_cell HX3.out) 1
    have hp0 := (blk_cell HP3.out) 0
    have hp1 := (blk_cell HP3.out) 1
    go_wp2_with (fail)
    refine (KR.out _ HB3.out).mono ?_
    rintro e w4 ⟨rfl, hb⟩
    have HB4 := Aside0.mk (below_step HB3.out hb)
    have HX4 := Aside0.mk (blk_below HX3.out hb)
    have HP4 := Aside0.mk (blk_below HP3.out hb)
    clear KR hb h0 h1 hp0 hp1
    have h0 := (blk_cell HX4.out) 0
    have h1 := (blk_cell HX4.out) 1
    have hp0 := (blk_cell HP4.out) 0
    have hp1 := (blk_cell HP4.out) 1
    cases hr : rightG N E with
    | false =>
      have e1 : insideE N E s = 20 := by unfold insideE; rw [hr]; rfl
      have e2 : d = 0 := HD2.out (by rw [e1]; decide)
      subst e2
      rw [e1]
      clear hr e1
      go_wp2
      go_ret
      exact ⟨by simp, HB4.out⟩
    | true =>
      have h0n := (rightG_in hr).2.1
      obtain ⟨n, rfl⟩ := Int.eq_ofNat_of_zero_le h0n.1
      have HR := Aside0.mk hr
      have hz := shr_zero s n
      have hi := inside_iff HS.out hr
      have s0 : min n 64 = n := by omega
      by_cases hsn : s < 2 ^ n
      · rw [if_pos hsn] at hi
        rw [decide_eq_true hsn] at hz
        have HSN := Aside0.mk hsn
        have HI := Aside0.mk hi
        rw [hi]
        have HLE := Aside0.mk (HD1.out hi)
        have hn10 := okG_ten HOK.out hr
        have HN10 := Aside0.mk hn10
        have HLN := Aside0.mk (okG_len HOK.out)
        clear hi hsn hr h0n hn10 hp0 hp1 HP4
        go_upto_region 9 with (fail)
        have HIJ := Aside0.mk (And.intro hI hJ)
        clear hI hJ hz hN1 hN2
        have h2 := (blk_cell (blk_alloc HX4.out (.cells #[.int .i64 (n : Int), .slice none 0 0] 62))) 1
        go_wp2_with (fail)
        clear h2
        obtain ⟨bt, hbt⟩ : ∃ b, w4.heap.size = b := ⟨_, rfl⟩
        rw [hbt]
        have HBT := Aside0.mk hbt
        have hwb : w.heap.size ≤ bt := by rw [← hbt]; exact below_size HB4.out
        have HWB := Aside0.mk hwb
        clear hbt hwb
        go_loopg [59] E.length (fun kq v59 w' => ∃ (k : Nat) (v : Value), v59 = .int .i64 (k : Int) ∧ Aside0 (k + kq = E.length) ∧ Aside0 (w'.heap[bt]? = some (.cells #[.int .i64 (n : Int), v] 62 (0, 0))) ∧ Aside0 (Kd.R kP 74 w' bt (fun b => bt < b) v ((E.take k).map swapS)) ∧ Aside0 (Below bt w4 w'))
        case atStart =>
          refine ⟨0, .slice none 0 0, rfl, ⟨by omega⟩, ⟨?_⟩, ⟨Kd.R_nil _ _ _ _ _⟩, ⟨?_⟩⟩
          · have := heap_last w4 (.cells #[.int .i64 (n : Int), .slice none 0 0] 62)
            rw [HBT.out] at this
            exact this
          · have := below_alloc (Below.refl w4.heap.size w4) (.cells #[.int .i64 (n : Int), .slice none 0 0] 62)
            rw [HBT.out] at this
            exact this
        case round =>
          clear h0 h1
          obtain ⟨k, v, rfl, HJJ, HG, HR2, HB5⟩ := hrel
          have HBW := Aside0.mk (HB4.out.trans (HB5.out.mono HWB.out))
          obtain ⟨A14, c14, rfl⟩ := Kd.R_slice HR2.out
          by_cases c1 : k < E.length
          · have e1 : decide (k < E.length) = true := decide_eq_true c1
            have HE5 : Aside0 (wrap64 ((k : Int) + 1) = ((k + 1 : Nat) : Int)) := ⟨by have := HLN.out; unfold wrap64; omega⟩
            obtain ⟨ad, ea, hx, hy⟩ := at_stp HC.out k c1
            cases ea
            replace hx := pw_cell_below HBW.out hx
            replace hy := pw_cell_below HBW.out hy
            obtain ⟨e, he⟩ : ∃ e, E.getD k (0, 0) = e := ⟨_, rfl⟩
            have htk : (E.take (k + 1)).map swapS = (E.take k).map swapS ++ [swapS e] := by rw [take_snoc' c1 (0, 0), he, List.map_append]; rfl
            rw [he] at hx hy
            obtain ⟨p, q⟩ := e
            dsimp only at hx hy
            have HI := Aside0.mk c1
            have HTK := Aside0.mk htk
            have hbl : bt ≤ wr.heap.size := by rw [← HBT.out]; exact HB5.out.size
            have hB6 := HB5.out.alloc hbl (.cells #[.int .i64 p, .int .i64 q] 74)
            have hB7 := hB6.alloc (Nat.le_trans hbl (by simp)) (.cells #[.int .i64 q, .int .i64 p] 74)
            have hG6 := blk_alloc HG.out (.cells #[.int .i64 p, .int .i64 q] 74)
            have hG7 := blk_alloc hG6 (.cells #[.int .i64 q, .int .i64 p] 74)
            have hL6 := heap_last wr (.cells #[.int .i64 p, .int .i64 q] 74)
            have hL7 := heap_last (wr.alloc (.cells #[.int .i64 p, .int .i64 q] 74)) (.cells #[.int .i64 q, .int .i64 p] 74)
            rw [World.size_alloc] at hL7
            have HR7 := Aside0.mk (Kd.R_alloc (Kd.R_alloc HR2.out (.cells #[.int .i64 p, .int .i64 q] 74)) (.cells #[.int .i64 q, .int .i64 p] 74))
            have HL7 := Aside0.mk (lit_rp _ _ q p ((blk_cell hL7) 0) ((blk_cell hL7) 1))
            have hl1 := (blk_cell hL6) 0
            have hl2 := (blk_cell hL6) 1
            have hg1 := (blk_cell hG6) 1
            have HB7 := Aside0.mk hB7
            have HG7 := Aside0.mk hG7
            have HF7 : Aside0 (∀ b, ((wr.alloc (.cells #[.int .i64 p, .int .i64 q] 74)).alloc (.cells #[.int .i64 q, .int .i64 p] 74)).heap.size ≤ b → bt < b) := ⟨fun b hb => by have := blk_lt hG6; rw [World.size_alloc] at hb; omega⟩
            have HS7 : Aside0 (bt ≤ ((wr.alloc (.cells #[.int .i64 p, .int .i64 q] 74)).alloc (.cells #[.int .i64 q, .int .i64 p] 74)).heap.size) := ⟨by rw [World.size_alloc, World.size_alloc]; omega⟩
            have HLL : Aside0 ((List.length ((E.take k).map swapS) + 1) * 16 ≤ 140737488355328) := ⟨by have := HLN.out; rw [List.length_map, List.length_take]; omega⟩
            obtain ⟨n14, hn14⟩ : ∃ z, ((E.take k).map swapS).length = z := ⟨_, rfl⟩
            rw [hn14] at HR7 HG7 hg1
            clear he htk hB6 hB7 hG6 hG7 hL6 hL7 hbl hn14
            go_wp2_with (first | ((with_reducible refine gate_builtin (b := .append) (xs := #[.tmp 64, .tmp 70]) rfl ?_); at_builtin; refine Kd.R_append_rows kP (w0 := w4) bt rfl (.tmp 64) (.tmp 70) 24 74 (.agg #[.int .i64 0, .int .i64 0]) 16 rfl Tryd.underlying24 info_pair rfl (by decide) (by decide) (.slice A14 n14 c14) ((E.take k).map swapS) [(q, p)] _ 1 _ (fun b => bt < b) (fun b => bt < b ∧ some b ≠ (Value.slice A14 n14 c14).ownBlock) rfl rfl HR7.out HL7.out (fun p cs hp => M_pair p cs hp) (fun _ hb => hb) HF7.out HB7.out HS7.out HLL.out ?_; intro v1 w8 ho hbl hg hat; refine Halt.out ?_))
            unfold Halt
            obtain ⟨A8, c8, rfl⟩ := Kd.R_slice ho
            obtain ⟨n8, hn8⟩ : ∃ z, ((E.take k).map swapS ++ [(q, p)]).length = z := ⟨_, rfl⟩
            rw [hn8] at ho ⊢
            clear hn8
            have hne : some bt ≠ (Value.slice A14 n14 c14).ownBlock := fun e => by have := HR7.out.1 bt e.symm; omega
            have hG8 := blk_grown HG7.out hg hne
            have HR8 := Aside0.mk (Kd.R_far (p := ⟨bt, 1, none⟩) ho (fun b hb => Nat.ne_of_gt hb) (.slice A8 n8 c8))
            have HG8 := Aside0.mk (box_set (o := 1) hG8 (.slice A8 n8 c8))
            have HB8 := Aside0.mk (hbl.setCell (p := ⟨bt, 1, none⟩) (Nat.le_refl _) (.slice A8 n8 c8))
            have hc8 := (blk_cell hG8) 1
            have hf8 := free_of hG8 1
            clear hl1 hl2 hg1 ho hbl hg hat hne hG8 HR7 HL7 HG7 HB7 HF7 HS7 HLL
            go_wp2
            go_roundg (gk - 1)
            case measure => have := HJJ.out; have := HI.out; omega
            case rel => exact ⟨k + 1, (.slice A8 n8 c8), (by first | exact congrArg _ HE5.out | rfl), ⟨by have := HJJ.out; have := HI.out; omega⟩, HG8, ⟨by rw [HTK.out]; exact HR8.out⟩, HB8⟩
          · have e1 : decide (k < E.length) = false := decide_eq_false c1
            have hit : E.take k = E := List.take_of_length_le (by omega)
            have hr2 := HR2.out
            rw [hit] at hr2
            have hC2 := (Kd.R_reads' hr2).2.2
            rw [hit] at HG
            have hln : (E.map swapS).length = E.length := List.length_map ..
            have KD := Aside0.mk (Down_T (n : Int) (E.map swapS) A14 c14 s wr HS.out hC2 (by rw [hln]; have := HLN.out; omega) (by have := HN10.out; omega) (by omega))
            rw [inside_swap, HI.out, hln] at KD
            have hg0 := (blk_cell HG.out) 0
            have hg1 := (blk_cell HG.out) 1
            have HX5 := Aside0.mk (HX4.out.symm ▸ (HB5.out.block _ (by rw [← HBT.out]; exact blk_lt HX4.out)))
            clear hit hr2 hC2 hln c1
            go_wp2_with (fail)
            refine KD.out.mono ?_
            rintro e w5 ⟨d2, rfl, hd, _, hb⟩
            obtain rfl := HLE.out.unique (least_swap (hd trivial))
            have HB6 := Aside0.mk (HBW.out.trans (hb.mono (below_size HBW.out)))
            have HX6 := Aside0.mk (blk_below HX5.out hb)
            clear KD hd hb hg0 hg1 HX5
            have h0 := (blk_cell HX6.out) 0
            have h1 := (blk_cell HX6.out) 1
            by_cases q1 : i < 0
            · go_wp2
              go_ret
              exact ⟨by simp, HB6.out⟩
            by_cases q2 : j < 0
            · go_wp2
              go_ret
              exact ⟨by simp, HB6.out⟩
            by_cases q3 : (n : Int) ≤ i
            · go_wp2
              go_ret
              exact ⟨by simp, HB6.out⟩
            by_cases q4 : (n : Int) ≤ j
            · go_wp2
              go_ret
              exact ⟨by simp, HB6.out⟩
            obtain ⟨i, rfl⟩ := Int.eq_ofNat_of_zero_le (Int.not_lt.1 q1)
            obtain ⟨j, rfl⟩ := Int.eq_ofNat_of_zero_le (Int.not_lt.1 q2)
            have hin : i < n := by omega
            have hjn : j < n := by omega
            have hn10 := HN10.out
            have hE2 := right_edges HR.out
            have si : min i 64 = i := by omega
            have sj : min j 64 = j := by omega
            have ti := shlU i (by omega)
            have tj := shlU j (by omega)
            have p64 : ∀ k, k < n → (2 : Nat) ^ k < 2 ^ 64 := fun k hk => Nat.pow_lt_pow_right (by decide) (by omega)
            have pin : ∀ k, k < n → insideE (n : Int) E (2 ^ k) = 0 := fun k hk => by rw [inside_iff (p64 k hk) HR.out, if_pos (Nat.pow_lt_pow_right (by decide) hk)]
            have KA := Aside0.mk (Down_T (n : Int) E A c (2 ^ i) w5.drew (p64 i hin) (Kd.C_below HC.out (below_drew1 HB6.out)) (by have := HLN.out; omega) (by omega) (by omega))
            have KB := Aside0.mk (fun W (hb : Below w.heap.size w W) => Up_T (n : Int) E A c (2 ^ j) W (p64 j hjn) (Kd.C_below HC.out hb) (by have := HLN.out; omega) (by omega) (by omega))
            have ci : (((2 ^ i : Nat)) : Int) = (2 : Int) ^ i := by simp
            have cj : (((2 ^ j : Nat)) : Int) = (2 : Int) ^ j := by simp
            rw [pin i hin, ci] at KA
            simp only [pin j hjn, cj] at KB
            have HDU := Aside0.mk (fun a b ha hb => down_up (a := a) (b := b) hn10 hE2 hin hjn ha hb)
            have HIN : Aside0 (i < 64 ∧ j < 64) := ⟨by omega⟩
            clear p64 pin ci cj hE2 hn10
            go_wp2_with (fail)
            have z0 : w5.drew.cell? ⟨w.heap.size, 0, none⟩ = some (.int .i64 (n : Int)) := h0
            have z1 : w5.drew.cell? ⟨w.heap.size, 1, none⟩ = some (.slice A E.length c) := h1
            have HBD := Aside0.mk (below_drew1 HB6.out)
            have HXD := Aside0.mk (blk_drew HX6.out)
            clear h0 h1 HB6 HX6
            go_region_held3 (fun w' => w'.cell? ⟨w.heap.size, 0, none⟩ = some (.int .i64 (n : Int)) ∧ w'.cell? ⟨w.heap.size, 1, none⟩ = some (.slice A E.length c)) (first | exact ⟨z0, z1⟩ | exact ⟨y0, y1⟩ | go_keep)
              (first
                | (go_at_call 37; refine KA.out.mono ?_; rintro e w6 ⟨a, rfl, ha, _, hb⟩; have HB7 := Aside0.mk (below_step HBD.out hb); have HX7 := Aside0.mk (blk_below HXD.out hb); have y0 := (blk_cell HX7.out) 0; have y1 := (blk_cell HX7.out) 1; have HA := Aside0.mk ha; clear KA z0 z1 hb ha HBD HXD))
            go_wp2_with (fail)
            have KB' := Aside0.mk (KB.out w6.drew (below_drew1 HB7.out))
            have z0 : w6.drew.cell? ⟨w.heap.size, 0, none⟩ = some (.int .i64 (n : Int)) := y0
            have z1 : w6.drew.cell? ⟨w.heap.size, 1, none⟩ = some (.slice A E.length c) := y1
            have HBD := Aside0.mk (below_drew1 HB7.out)
            have HXD := Aside0.mk (blk_drew HX7.out)
            clear y0 y1 HB7 HX7 KB
            go_region_held3 (fun w' => w'.cell? ⟨w.heap.size, 0, none⟩ = some (.int .i64 (n : Int)) ∧ w'.cell? ⟨w.heap.size, 1, none⟩ = some (.slice A E.length c)) (first | exact ⟨z0, z1⟩ | exact ⟨y0, y1⟩ | go_keep)
              (first
                | (go_at_call 38; refine KB'.out.mono ?_; rintro e w7 ⟨b, rfl, hb2, _, hb⟩; have HB8 := Aside0.mk (below_step HBD.out hb); have HX8 := Aside0.mk (blk_below HXD.out hb); have y0 := (blk_cell HX8.out) 0; have y1 := (blk_cell HX8.out) 1; have HBB := Aside0.mk hb2; clear KB' z0 z1 hb hb2 HBD HXD))
            clear y0 y1 HX8
            have K1 := Aside0.mk (In_T a j w7 (HA.out trivial).lt HIN.out.2)
            have K2 := Aside0.mk (In_T b i w7 (HBB.out trivial).lt HIN.out.1)
            have hdu := HDU.out a b (HA.out trivial) (HBB.out trivial)
            rw [hdu] at K1
            obtain ⟨bb, hbb⟩ : ∃ z, b.testBit i = z := ⟨_, rfl⟩
            rw [hbb] at K1 K2
            clear hdu hbb
            go_wp2_with (fail)
            refine K1.out.mono ?_
            rintro e w8 ⟨rfl, rfl⟩
            go_wp2_with (fail)
            refine K2.out.mono ?_
            rintro e w8 ⟨rfl, rfl⟩
            go_wp2
            go_ret
            exact ⟨by simp, HB8.out⟩
      · rw [if_neg hsn] at hi
        rw [decide_eq_false hsn] at hz
        have e2 : d = 0 := HD2.out (by rw [hi]; decide)
        subst e2
        rw [hi]
        clear hi hsn hr h0n
        go_wp2
        go_ret
        exact ⟨by simp, HB4.out⟩
  · rw [Bool.not_eq_true] at hok
    rw [hok]
    clear hok
    go_wp2
    go_ret
    exact ⟨by simp, HB2.out⟩
theorem LatticeUp_card (N : Int) (E : List Stp) (A : Option Addr) (c : Nat) (a i j : Int) (w : World) (hT : TabW w) (ha : (Lit.int .u64 a).wf = true) (hi : (Lit.int .i64 i).wf = true) (hj : (Lit.int .i64 j).wf = true) (h : Kd.C kP w A E.length E) (hN : (Lit.int .i64 N).wf = true) :
    Calls Tryd.prog 12 #[.agg #[.int .i64 N, .slice A E.length c], .int .u64 a, .int .i64 i, .int .i64 j] w fun e w' => e = .returned (.bool true) ∧ Below w.heap.size w w' := by
  obtain ⟨s, rfl, hs⟩ := wf_u64 ha
  exact LatticeUp_main N E A c s i j w hT hs (wf_i64 hi) (wf_i64 hj) h (wf_i64 hN)
end Go.Proofs.YtplhihakeodadaaDoor.Sg
