import Derived.Test.YthefbeekcjchcaaPutNums
namespace Go.Proofs.Ythefbeekcjchcaa.P
open Go Go.RowKit Go.Proofs.YthefbeekcjchcaaW.PrintWords Go.Proofs.YthefbeekcjchcaaW.PrintLast Go.Proofs.YthefbeekcjchcaaW.PrintMore
set_option linter.unusedVariables false
set_option linter.unusedSimpArgs false
set_option maxHeartbeats 4000000 in
set_option maxRecDepth 20000 in
theorem ints_calls (g : Nat) (bs : List Int) (bad : Bool) (A : Option Addr) (c : Nat) (l : List Int) (w0 w : World) (hO : OW 94 w0 w g bs bad) (hB : Below w0.heap.size w0 w) (hr : Kd.C (Kd.int .i64) w0 A l.length l) (hlen : bs.length + 6 + 6 * l.length ≤ 1000000000) :
    Calls Try.prog 36 #[.pointer (some ⟨g, 0, none⟩), .slice A l.length c] w fun e w' => e = .returned (.tuple #[]) ∧ OW 94 w0 w' g (puts l (bs, bad)).1 (puts l (bs, bad)).2 ∧ Below w0.heap.size w0 w' ∧ Keeps w w' g := by
  have hmf : ∀ (fn : Fn) (first cap : Array Value) (w : World), (Instr.makeFunc fn first cap).run Try.prog w = .ok (.func fn first cap) w := fun _ _ _ _ => rfl
  have hg : g < w.heap.size := by obtain ⟨v, h, _⟩ := hO; exact blk_lt h
  have hbx := below_alloc (Below.refl w.heap.size w) (Obj.cells #[.pointer (some ⟨g, 0, none⟩)] 92)
  have hX : BX (w.alloc (.cells #[.pointer (some ⟨g, 0, none⟩)] 92)) w.heap.size g := ⟨by show (w.heap.push _)[w.heap.size]? = _; simp, by omega⟩
  have K := Aside0.mk (list_int_calls g w.heap.size bs bad A c l w0 _ (hO.below hbx) hX (below_alloc hB _) hr hlen)
  have HK0 := Aside0.mk (Keeps.below (g := g) hbx)
  have hc0 := (blk_cell hX.1) 0
  clear hO hB hr hbx hX hg
  go_enter Try.func36, Try.ntmps36
  go_wp2_with (fail)
  refine K.out.mono ?_
  rintro e w1 ⟨rfl, ho, hb, hk⟩
  have HO := Aside0.mk ho
  have HB := Aside0.mk hb
  have HKP := Aside0.mk (HK0.out.trans hk)
  clear ho hb hk K
  go_wp2
  go_end0
  exact ⟨rfl, HO.out, HB.out, HKP.out⟩
theorem done_calls (g : Nat) (bs : List Int) (bad : Bool) (w0 w : World) (hO : OW 94 w0 w g bs bad) :
    Calls Try.prog 37 #[.pointer (some ⟨g, 0, none⟩)] w fun e w' => ∃ v, e = .returned (.tuple #[v, .int .i64 (if bad = true then 12 else 0)]) ∧ Kd.R (Kd.int .u8) 5 w' w0.heap.size (fun _ => True) v (if bad = true then [] else bs) ∧ w' = w := by
  obtain ⟨v, hg, hg0, hR⟩ := hO
  have hc0 := (blk_cell hg) 0
  have hc1 := (blk_cell hg) 1
  have HR := Aside0.mk hR
  clear hg hR
  cases bad
  · go_enter Try.func37, Try.ntmps37
    go_wp2
    go_ret2
    exact ⟨_, rfl, Kd.R_mono HR.out (fun _ _ => trivial), rfl⟩
  · go_enter Try.func37, Try.ntmps37
    go_wp2
    go_ret2
    exact ⟨_, rfl, Kd.R_nil _ _ _ _ _, rfl⟩
/-- What PutNumbers gives. -/
def coded (l : List Int) : List Int := if (puts l ([], false)).2 = true then [] else (puts l ([], false)).1
def codedE (l : List Int) : Int := if (puts l ([], false)).2 = true then 12 else 0
set_option maxHeartbeats 4000000 in
set_option maxRecDepth 20000 in
theorem PutNumbers_calls (A : Option Addr) (c : Nat) (l : List Int) (w : World) (hr : Kd.C (Kd.int .i64) w A l.length l) (hlen : 6 + 6 * l.length ≤ 1000000000) :
    Calls Try.prog 13 #[.slice A l.length c] w fun e w' => ∃ v, e = .returned (.tuple #[v, .int .i64 (codedE l)]) ∧ Kd.R (Kd.int .u8) 5 w' w.heap.size (fun _ => True) v (coded l) ∧ Below w.heap.size w w' := by
  have hO : OW 94 w (w.alloc (.cells #[.slice none 0 0, .bool false] 94)) w.heap.size [] false := ⟨_, by show (w.heap.push _)[w.heap.size]? = _; simp, Nat.le_refl _, Kd.R_nil _ _ _ _ _⟩
  have K := Aside0.mk (ints_calls w.heap.size [] false A c l w _ hO (below_alloc (Below.refl _ _) _) hr (by simpa using hlen))
  clear hO hr hlen
  obtain ⟨E, hE⟩ : ∃ E, codedE l = E := ⟨_, rfl⟩
  rw [hE]
  go_enter Try.func13, Try.ntmps13
  go_wp2_with (fail)
  refine K.out.mono ?_
  rintro e w1 ⟨rfl, ho, hb, hk⟩
  have HO := Aside0.mk ho
  have HB := Aside0.mk hb
  clear ho hb hk K
  have KD := Aside0.mk (done_calls _ _ _ w w1 HO.out)
  change Aside0 (Calls Try.prog 37 _ _ fun e w' => ∃ v, e = .returned (.tuple #[v, .int .i64 (codedE l)]) ∧ Kd.R (Kd.int .u8) 5 w' w.heap.size (fun _ => True) v (coded l) ∧ _) at KD
  rw [hE] at KD
  go_wp2_with (fail)
  refine KD.out.mono ?_
  rintro e w2 ⟨v, rfl, hR, rfl⟩
  have HR := Aside0.mk hR
  clear hR
  go_wp2
  go_ret2
  exact ⟨v, rfl, HR.out, HB.out⟩
end Go.Proofs.Ythefbeekcjchcaa.P
