import Derived.Test.YthefbeekcjchcaaProg
import Derived.Test.YthefbeekcjchcaaPure0
import Derived.Test.YthefbeekcjchcaaWMore
import Derived.Test.YthefbeekcjchcaaWWords
import Derived.Test.YthefbeekcjchcaaWRepsOne
import Derived.WalkKit
import Derived.WalkMore
import Derived.WalkSpells
import Derived.KernelRfl
import Derived.OwnWalk
import Derived.LoopTactic
import Derived.Deep.LoopGhost
import Derived.Maps.AppendAt
import Derived.Below
import Derived.Deep.Draws
import Derived.IntWalk
import Derived.Laws.BitsAllLaws
namespace Go.Proofs.Ythefbeekcjchcaa.P
open Go Go.RowKit Go.Proofs.YthefbeekcjchcaaW.PrintWords Go.Proofs.YthefbeekcjchcaaW.PrintLast Go.Proofs.YthefbeekcjchcaaW.PrintMore
set_option linter.unusedVariables false
set_option linter.unusedSimpArgs false
theorem infoB5 : (Try.prog.info? 5).map (fun i => (i.zero, i.size, i.bytes)) = some (some (.int .u8 0), 1, 1) := by kernel_rfl
/-- What is written so far, and whether something couldn't be. -/
def OW (T : TypeId) (w0 w : World) (g : Nat) (bs : List Int) (bad : Bool) : Prop :=
  ∃ v, w.heap[g]? = some (.cells #[v, .bool bad] T (0, 0)) ∧ w0.heap.size ≤ g ∧ Kd.R (Kd.int .u8) 5 w w0.heap.size (fun k => k ≠ g) v bs
theorem OW.free {T : TypeId} {w0 w : World} {g : Nat} {bs : List Int} {bad : Bool} (h : OW T w0 w g bs bad) (o : Nat) : w.frozen? ⟨g, o, none⟩ = false := by
  obtain ⟨v, h, _⟩ := h
  simp [World.frozen?, h]
theorem free_of {w : World} {g : Nat} {cs : Array Value} {t : TypeId} (h : w.heap[g]? = some (.cells cs t (0, 0))) (o : Nat) : w.frozen? ⟨g, o, none⟩ = false := by simp [World.frozen?, h]
/-- Behind an append, whose row is then laid into the state. -/
theorem OW.put {T : TypeId} {w0 w1 : World} {g : Nat} {bs : List Int} {bad : Bool} {v v1 : Value} (h : w1.heap[g]? = some (.cells #[v, .bool bad] T (0, 0))) (hg : w0.heap.size ≤ g) (hR : Kd.R (Kd.int .u8) 5 w1 w0.heap.size (fun k => k ≠ g) v1 bs) :
    OW T w0 (w1.setCell ⟨g, 0, none⟩ v1) g bs bad := by
  refine ⟨v1, ?_, hg, Kd.R_far hR (fun k hk => hk) _⟩
  obtain ⟨hlt, hv⟩ := Array.getElem?_eq_some_iff.1 h
  simp [World.setCell, Array.getElem?_modify, h]
theorem OW.spoil {T : TypeId} {w0 w : World} {g : Nat} {bs : List Int} {bad : Bool} (h : OW T w0 w g bs bad) : OW T w0 (w.setCell ⟨g, 1, none⟩ (.bool true)) g bs true := by
  obtain ⟨v, h, hg, hR⟩ := h
  refine ⟨v, ?_, hg, Kd.R_far hR (fun k hk => hk) _⟩
  obtain ⟨hlt, hv⟩ := Array.getElem?_eq_some_iff.1 h
  simp [World.setCell, Array.getElem?_modify, h]
theorem OW.below {T : TypeId} {w0 w w1 : World} {g : Nat} {bs : List Int} {bad : Bool} (h : OW T w0 w g bs bad) (hb : Below w.heap.size w w1) : OW T w0 w1 g bs bad := by
  obtain ⟨v, h, hg, hR⟩ := h
  exact ⟨v, (hb.block g (blk_lt h)).trans h, hg, Kd.R_below hR hb⟩
/-- Blocks but g that are no rows of bytes stay what they are. -/
def Keeps (w w' : World) (g : Nat) : Prop := ∀ k o, w.heap[k]? = some o → k ≠ g → (∀ cs m, o ≠ .cells cs 5 m) → w'.heap[k]? = some o
theorem Keeps.refl (w : World) (g : Nat) : Keeps w w g := fun _ _ h _ _ => h
theorem Keeps.trans {w w1 w2 : World} {g : Nat} (h : Keeps w w1 g) (h2 : Keeps w1 w2 g) : Keeps w w2 g := fun k o hk hg ht => h2 k o (h k o hk hg ht) hg ht
theorem Keeps.below {w w1 : World} {g : Nat} (h : Below w.heap.size w w1) : Keeps w w1 g := fun k o hk _ _ => (h.block k (blk_lt hk)).trans hk
theorem Keeps.grown {w w1 : World} {g base : Nat} {ok : Nat → Prop} {v : Value} {xs : List Int} (hR : Kd.R (Kd.int .u8) 5 w base ok v xs) (hg : w.grownBy w1 v.ownBlock) : Keeps w w1 g := fun k o hk _ ht =>
  (hg.block k (blk_lt hk) (fun e => by
    obtain ⟨cs, hc⟩ := Kd.R_typed hR k e.symm
    rw [hk] at hc
    exact ht cs _ (Option.some.inj hc))).trans hk
theorem Keeps.set {w : World} {g : Nat} (o : Nat) (v : Value) : Keeps w (w.setCell ⟨g, o, none⟩ v) g := fun k ob hk hg _ => (Below.heap_setCell w ⟨g, o, none⟩ v k hg).trans hk
/-- One number behind what is written. -/
def putn (n : Int) (s : List Int × Bool) : List Int × Bool := if fits n = true then (s.1 ++ enc n.toNat, s.2) else (s.1, true)
theorem len_snoc {α : Type} (l : List α) (x : α) : (l ++ [x]).length = l.length + 1 := by simp
def hold (p : Prop) : Prop := p
theorem hold_ {p : Prop} (h : hold p) : p := h
set_option maxHeartbeats 4000000 in
set_option maxRecDepth 20000 in
theorem W_num_calls (g : Nat) (bs : List Int) (bad : Bool) (n : Int) (w0 w : World) (hO : OW 27 w0 w g bs bad) (hB : Below w0.heap.size w0 w) (hlen : bs.length ≤ 1000000000) :
    Calls Try.prog 35 #[.pointer (some ⟨g, 0, none⟩), .int .i64 n] w fun e w' => e = .returned (.tuple #[]) ∧ OW 27 w0 w' g (putn n (bs, bad)).1 (putn n (bs, bad)).2 ∧ Below w0.heap.size w0 w' ∧ Keeps w w' g := by
  have HO := Aside0.mk hO
  have HB := Aside0.mk hB
  have HN := Aside0.mk hlen
  have hz := hO.free 1
  obtain ⟨v, hg, hg0, hR⟩ := hO
  have hc := blk_cell hg
  have hc1 := hc 1
  clear hc hR hB hlen
  by_cases c1 : fits n = true
  · have c2 := c1
    simp only [fits, Bool.and_eq_true, decide_eq_true_eq] at c2
    have d1 : decide (n < 0) = false := decide_eq_false (by omega)
    have d2 : decide (1099511627776 < n) = false := decide_eq_false (by omega)
    obtain ⟨m, rfl⟩ : ∃ m : Nat, n = (m : Int) := ⟨n.toNat, by omega⟩
    unfold putn
    rw [if_pos c1, Int.toNat_natCast]
    have HM := Aside0.mk c2
    clear c1 c2 hc1 hz hg
    go_enter Try.func35, Try.ntmps35
    go_wp2
    go_loopg [1] m (fun kq v1 w' => ∃ (q : Nat) (out : List Int), v1 = .int .i64 (q : Int) ∧ Aside0 (q ≤ kq) ∧ Aside0 (q ≤ 1099511627776) ∧ Aside0 (out ++ enc q = bs ++ enc m) ∧ Aside0 (OW 27 w0 w' g out bad) ∧ Aside0 (Below w0.heap.size w0 w') ∧ Aside0 (Keeps w w' g))
    case atStart => exact ⟨m, bs, rfl, ⟨Nat.le_refl _⟩, ⟨by have := HM.out; omega⟩, ⟨rfl⟩, HO, HB, ⟨Keeps.refl _ _⟩⟩
    case round =>
      have HO0 := HO
      clear HO HB
      obtain ⟨q, out, rfl, HK, HQ, HE, HO, HB, HKP⟩ := hrel
      have hz := HO.out.free 0
      obtain ⟨v1, hg, _, hR⟩ := HO.out
      have hc := blk_cell hg
      have hc0 := hc 0
      have HR := Aside0.mk hR
      have HG := Aside0.mk hg
      clear hc hR hg
      by_cases c1 : 127 < q
      · have d3 : decide (127 < q) = true := decide_eq_true c1
        have HOL : Aside0 (out.length ≤ 1000000010) := ⟨by
          have h1 := congrArg List.length HE.out
          have h2 := enc_len 5 m (by have := HM.out; rw [show (128 : Nat) ^ (5 + 1) = 4398046511104 by decide]; omega)
          have := HN.out
          simp only [List.length_append] at h1
          omega⟩
        go_wp2_with (first | ((with_reducible refine gate_dst (N := 24) rfl ?_); refine Kd.R_lit (Kd.int .u8) wr.heap.size 5 ?hg (N := 24) ?hd (xs := [(q : Int) % 128 + 128]) (inner := [.int .u8 ((q : Int) % 128 + 128)]) (ok := fun _ => True) (okp := fun _ => True) ?hr ?hp (fun _ hk => hk) trivial (Below.refl _ _) (Nat.le_refl _) (by simp) ?_; (case hd => rfl); (case hg => rfl); (case hr => first | (go_simp; done) | (go_simp; rfl)); (case hp => exact (Reps.one (show Kd.M (Kd.int .u8) _ _ _ ((q : Int) % 128 + 128) [.int .u8 ((q : Int) % 128 + 128)] from rfl) (Reps.none _ _))); intro v43 w7 ho hb hg_ hnew_; clear hg_ hnew_; obtain ⟨A43, c43, rfl, hcl43, hC43⟩ := Kd.R_reads ho; have HC43 := Aside0.mk hC43; have HO1 := Aside0.mk (Kd.R_below HR.out hb); have HG1 := Aside0.mk ((hb.block g (blk_lt HG.out)).trans HG.out); have HB1 := Aside0.mk (below_step HB.out hb); have HK1 := Aside0.mk (HKP.out.trans (Keeps.below hb)); clear ho hb hC43 hcl43) | ((with_reducible refine gate_builtin (b := .append) (xs := #[.tmp 19, .tmp 24]) rfl ?_); at_builtin; refine Kd.R_append_row (Value.int .u8) 0 (h1 := fun _ => rfl) (w0 := w0) w0.heap.size rfl (.tmp 19) (.tmp 24) 25 5 (.int .u8 0) 1 rfl Try.underlying25 infoB5 rfl (by decide) v1 out [(q : Int) % 128 + 128] A43 1 c43 (fun k => k ≠ g) rfl rfl (fun k hk => by have := blk_lt HG1.out; omega) HO1.out HC43.out HB1.out (below_size HB1.out) (by have := HOL.out; omega) ?_; intro v44 w8 ho hb hgr hat; obtain ⟨A44, c44, rfl⟩ := Kd.R_slice ho; rw [len_snoc] at ho ⊢; have HG2 := Aside0.mk ((hgr.block g (blk_lt HG1.out) (Kd.R_away HO1.out (fun k hk => hk))).trans HG1.out); have HO2 := Aside0.mk ho; have HB2 := Aside0.mk hb; have HK2 := Aside0.mk (HK1.out.trans (Keeps.grown HO1.out hgr)); have hz8 : w8.frozen? ⟨g, 0, none⟩ = false := free_of HG2.out 0; have hc8 := (blk_cell HG2.out) 0; clear ho hb hgr hat))
        go_roundg (gk - 1)
        case measure => have := HK.out; omega
        case rel =>
          have hq := HQ.out
          have hk := HK.out
          refine ⟨q / 128, out ++ [(q : Int) % 128 + 128], ?_, ⟨by omega⟩, ⟨by omega⟩, ⟨?_⟩, ⟨OW.put HG2.out hg0 HO2.out⟩, ⟨HB2.out.setCell (p := ⟨g, 0, none⟩) hg0 _⟩, ⟨HK2.out.trans (Keeps.set 0 _)⟩⟩
          · exact congrArg _ (by unfold wrap64; omega)
          · rw [← HE.out, enc_big (show ¬ q < 128 by omega), List.append_assoc]
            simp
      · have d3 : decide (127 < q) = false := decide_eq_false c1
        have hE := HE.out
        rw [enc_small (show q < 128 by omega)] at hE
        have HOL : Aside0 (out.length ≤ 1000000010) := ⟨by
          have h1 := congrArg List.length HE.out
          have h2 := enc_len 5 m (by have := HM.out; rw [show (128 : Nat) ^ (5 + 1) = 4398046511104 by decide]; omega)
          have := HN.out
          simp only [List.length_append] at h1
          omega⟩
        have hq : (q : Int) % 256 = (q : Int) := by omega
        go_wp2_with (first | ((with_reducible refine gate_dst (N := 37) rfl ?_); refine Kd.R_lit (Kd.int .u8) wr.heap.size 5 ?hg (N := 37) ?hd (xs := [(q : Int)]) (inner := [.int .u8 ((q : Int))]) (ok := fun _ => True) (okp := fun _ => True) ?hr ?hp (fun _ hk => hk) trivial (Below.refl _ _) (Nat.le_refl _) (by simp) ?_; (case hd => rfl); (case hg => rfl); (case hr => first | (go_simp; done) | (go_simp; rfl)); (case hp => exact (Reps.one (show Kd.M (Kd.int .u8) _ _ _ ((q : Int)) [.int .u8 ((q : Int))] from rfl) (Reps.none _ _))); intro v43 w7 ho hb hg_ hnew_; clear hg_ hnew_; obtain ⟨A43, c43, rfl, hcl43, hC43⟩ := Kd.R_reads ho; have HC43 := Aside0.mk hC43; have HO1 := Aside0.mk (Kd.R_below HR.out hb); have HG1 := Aside0.mk ((hb.block g (blk_lt HG.out)).trans HG.out); have HB1 := Aside0.mk (below_step HB.out hb); have HK1 := Aside0.mk (HKP.out.trans (Keeps.below hb)); clear ho hb hC43 hcl43) | ((with_reducible refine gate_builtin (b := .append) (xs := #[.tmp 34, .tmp 37]) rfl ?_); at_builtin; refine Kd.R_append_row (Value.int .u8) 0 (h1 := fun _ => rfl) (w0 := w0) w0.heap.size rfl (.tmp 34) (.tmp 37) 25 5 (.int .u8 0) 1 rfl Try.underlying25 infoB5 rfl (by decide) v1 out [(q : Int)] A43 1 c43 (fun k => k ≠ g) rfl rfl (fun k hk => by have := blk_lt HG1.out; omega) HO1.out HC43.out HB1.out (below_size HB1.out) (by have := HOL.out; omega) ?_; intro v44 w8 ho hb hgr hat; obtain ⟨A44, c44, rfl⟩ := Kd.R_slice ho; rw [len_snoc] at ho ⊢; have HG2 := Aside0.mk ((hgr.block g (blk_lt HG1.out) (Kd.R_away HO1.out (fun k hk => hk))).trans HG1.out); have HO2 := Aside0.mk ho; have HB2 := Aside0.mk hb; have HK2 := Aside0.mk (HK1.out.trans (Keeps.grown HO1.out hgr)); have hz8 : w8.frozen? ⟨g, 0, none⟩ = false := free_of HG2.out 0; have hc8 := (blk_cell HG2.out) 0; clear ho hb hgr hat))
        go_end0
        refine ⟨rfl, ?_, HB2.out.setCell (p := ⟨g, 0, none⟩) hg0 _, HK2.out.trans (Keeps.set 0 _)⟩
        have h := OW.put HG2.out hg0 HO2.out
        rw [hE] at h
        exact h
  · have c2 : n < 0 ∨ 1099511627776 < n := by
      simp only [fits, Bool.and_eq_true, decide_eq_true_eq] at c1
      omega
    have hS := Aside0.mk HO.out.spoil
    unfold putn
    rw [if_neg c1]
    have hbb := Aside0.mk (HB.out.setCell (p := ⟨g, 1, none⟩) hg0 (.bool true))
    rcases c2 with c2 | c2
    · have d1 : decide (n < 0) = true := decide_eq_true c2
      clear c2 c1
      go_enter Try.func35, Try.ntmps35
      go_wp2
      refine bodyPost_ret (results_none rfl _ _ _) rfl ?_
      exact ⟨rfl, hS.out, hbb.out, Keeps.set 1 _⟩
    · by_cases c3 : n < 0
      · have d1 : decide (n < 0) = true := decide_eq_true c3
        clear c2 c1 c3
        go_enter Try.func35, Try.ntmps35
        go_wp2
        refine bodyPost_ret (results_none rfl _ _ _) rfl ?_
        exact ⟨rfl, hS.out, hbb.out, Keeps.set 1 _⟩
      · have d1 : decide (n < 0) = false := decide_eq_false c3
        have d2 : decide (1099511627776 < n) = true := decide_eq_true c2
        clear c2 c1 c3
        go_enter Try.func35, Try.ntmps35
        go_wp2
        refine bodyPost_ret (results_none rfl _ _ _) rfl ?_
        exact ⟨rfl, hS.out, hbb.out, Keeps.set 1 _⟩
end Go.Proofs.Ythefbeekcjchcaa.P
