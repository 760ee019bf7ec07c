/- A map of pointers keyed by ints, read as the kit's maps: for ranges, keys, and keys sorted. -/
import Derived.Test.YtoimpjmoikjibaaDkM
import Derived.Test.YtoimpjmoikjibaaLay
import Derived.Maps.RangeWalk
import Derived.Lib.SlKeysI
import Derived.WalkKit
import Derived.KernelRfl
namespace Go.Proofs.Ytoimpjmoikjibaa.Dk
open Go Go.RowKit Go.Maps Go.Sort Go.Shelf Go.WideShapes Go.Proofs.Ytoimpjmoikjibaa.IMap Go.Proofs.YtoimpjmoikjibaaW.PrintWords Go.Proofs.YtoimpjmoikjibaaW.PrintLast Go.Proofs.YtoimpjmoikjibaaW.PrintMore
open Go.WideElems (Fit rd rg rd_mk rg_of)
set_option linter.unusedVariables false
set_option linter.unusedSimpArgs false
/-- How a pointer to a block's begin reads: its block. -/
def Rp : Value → Option (DataW Unit × List MemPlace)
  | .pointer (some ⟨f, 0, none⟩) => some (.lit (.int .i64 (f : Int)), [])
  | _ => none
theorem Rp_inv {v : Value} {y : DataW Unit × List MemPlace} (h : Rp v = some y) : ∃ f : Nat, v = .pointer (some ⟨f, 0, none⟩) ∧ y = (.lit (.int .i64 (f : Int)), []) := by
  unfold Rp at h
  split at h
  · rename_i f
    exact ⟨f, rfl, (Option.some.inj h).symm⟩
  · cases h
def wfI (x : Int) : Bool := decide (-9223372036854775808 ≤ x ∧ x < 9223372036854775808)
theorem keyOf_i {P : Program} {k : TypeId} (hk : P.underlying k = some (.int .i64)) {x : Int} (h : wfI x = true) : keyOf P k (.int .i64 x) = some (.int .i64 x) := by
  have hw : (Lit.int .i64 x).wf = true := by
    simp only [wfI, decide_eq_true_eq] at h
    simp only [Lit.wf, decide_eq_true_eq, Bool.and_eq_true]
    rw [show IntKind.i64.min = -9223372036854775808 from rfl, show IntKind.i64.max = 9223372036854775807 from rfl]
    omega
  simp [keyOf, hk, mapKey, hw]
theorem IM.owns {w : World} {b : Nat} {l : List (Int × Value)} {P : Program} {k : TypeId} (h : IM .i64 w b l) (hk : P.underlying k = some (.int .i64)) (hl : l.length ≤ 1000000000) (hwf : ∀ p ∈ l, wfI p.1 = true) (hR : ∀ p ∈ l, ∃ f : Nat, p.2 = .pointer (some ⟨f, 0, none⟩)) :
    ∃ D : DataW Unit, w.ownsMap P k Rp b l.length D ∧ Maps.size D = l.length ∧ (intKeys D).Perm (keys l) ∧ (∀ x c, (∀ zd, D.atKey (.int .i64 x) zd = .lit (.int .i64 (c : Int))) → (x, Value.pointer (some ⟨c.toNat, 0, none⟩)) ∈ l ∧ 0 ≤ c) ∧ ∀ x, Maps.has D (.int .i64 x) = true ↔ x ∈ keys l := by
  obtain ⟨es, clock, hb, hst, he⟩ := h
  have hlen : es.toList.length = l.length := ents_len he
  have hent : ∀ x ∈ es.toList, ∃ p ∈ l, x.key = .int .i64 p.1 ∧ x.val = p.2 := fun x hx => by
    have hm : (x.key, x.val) ∈ l.map (fun p => (Value.int .i64 p.1, p.2)) := he ▸ List.mem_map.2 ⟨x, hx, rfl⟩
    obtain ⟨p, hp, e⟩ := List.mem_map.1 hm
    simp only [Prod.mk.injEq] at e
    exact ⟨p, hp, e.1.symm, e.2.symm⟩
  have hrd : ∀ x ∈ es.toList, ∀ p ∈ l, x.key = .int .i64 p.1 → x.val = p.2 → ∃ f : Nat, p.2 = .pointer (some ⟨f, 0, none⟩) ∧ rd P k Rp x = some (.int .i64 p.1, .lit (.int .i64 (f : Int))) := fun x hx p hp hkx hvx => by
    obtain ⟨f, hf⟩ := hR p hp
    refine ⟨f, hf, ?_⟩
    obtain ⟨xk, xv, xb⟩ := x
    dsimp only at hkx hvx
    subst hkx hvx
    rw [hf]
    exact rd_mk (keyOf_i hk (hwf p hp)) (yv := (.lit (.int .i64 (f : Int)), [])) rfl
  have hE : es.toList.map (rg P k Rp) = l.map (fun p => ((Lit.int .i64 p.1, ((Rp p.2).map (·.1)).getD .nil) : Lit × DataW Unit)) := by
    apply List.ext_getElem (by simp [hlen])
    intro i h1 h2
    simp only [List.length_map] at h1 h2
    have hx := congrArg (fun z => z[i]?) he
    simp only [List.getElem?_map, List.getElem?_eq_getElem h1, List.getElem?_eq_getElem h2, Option.map_some, Option.some.injEq, Prod.mk.injEq] at hx
    obtain ⟨f, hf, hr⟩ := hrd _ (List.getElem_mem h1) _ (List.getElem_mem h2) hx.1 hx.2
    simp only [List.getElem_map]
    rw [rg_of hr, hf]
    rfl
  have F : Fit P k Rp es clock := ⟨by have : es.size = l.length := by simpa using hlen
                                      simp only [maxLen]; omega, hst, fun x hx => by
    obtain ⟨p, hp, e1, e2⟩ := hent x hx
    obtain ⟨f, _, hr⟩ := hrd x hx p hp e1 e2
    exact ⟨_, hr⟩⟩
  have hperm := sorted_perm (es.toList.map (rg P k Rp))
  rw [hE] at hperm
  refine ⟨.map ((es.toList.map (rg P k Rp)).foldr DataW.insert []), ⟨es, clock, hb, F, by have : es.size = l.length := by simpa using hlen
                                                                                          omega, rfl⟩, ?_, ?_, ?_, ?_⟩
  · rw [size_eq, hE, hperm.length_eq, List.length_map]
  · rw [hE]
    show (List.map _ _).Perm _
    refine (hperm.map _).trans ?_
    rw [List.map_map]
    exact List.Perm.of_eq (List.map_congr_left fun p _ => rfl)
  · intro x c hat
    rw [hE] at hat
    have h1 := hat .nil
    have h2 := hat (.lit (.bool false))
    unfold DataW.atKey at h1 h2
    dsimp only at h1 h2
    cases hfd : List.find? (fun p => p.1.sameKey (.int .i64 x)) ((l.map (fun p => ((Lit.int .i64 p.1, ((Rp p.2).map (·.1)).getD .nil) : Lit × DataW Unit))).foldr DataW.insert []) with
    | none => rw [hfd] at h1; cases h1
    | some q =>
      rw [hfd] at h1
      have hq := hperm.mem_iff.1 (List.mem_of_find?_eq_some hfd)
      have hs := List.find?_some hfd
      obtain ⟨p, hp, e⟩ := List.mem_map.1 hq
      obtain ⟨f, hf⟩ := hR p hp
      rw [← e] at hs h1
      dsimp only at hs h1
      have hx : p.1 = x := by simpa [Lit.sameKey] using hs
      rw [hf] at h1
      have h3 : DataW.lit (H := Unit) (.int .i64 (f : Int)) = .lit (.int .i64 c) := h1
      simp only [DataW.lit.injEq, Lit.int.injEq, true_and] at h3
      refine ⟨?_, by omega⟩
      rw [← hx, show c.toNat = f by omega, ← hf]
      exact hp
  · intro x
    rw [hE, has_eq, hperm.any_eq, List.any_map, List.any_eq_true]
    constructor
    · rintro ⟨p, hp, hs⟩
      have hx : p.1 = x := by simpa [Lit.sameKey] using hs
      rw [← hx]
      exact List.mem_map.2 ⟨p, hp, rfl⟩
    · intro hx
      obtain ⟨p, hp, e⟩ := List.mem_map.1 hx
      exact ⟨p, hp, by simp [Lit.sameKey, e]⟩
/-- Keys, sorted. -/
def sortI (l : List Int) : List Int := l.mergeSort (fun x y => decide (x ≤ y))
theorem sortI_perm {a b : List Int} (h : a.Perm b) : sortI a = sortI b := mergeSort_of_perm_i h
theorem sortI_asc {l : List Int} (h : l.Pairwise (· < ·)) : sortI l = l := by
  unfold sortI
  exact List.mergeSort_of_pairwise (h.imp fun hl => by simpa using Int.le_of_lt hl)
theorem Keys_T (mb : Option Nat) (W : World) : Calls Try.prog 47 #[.map mb] W fun e w' => e = .returned (.func (.func 64) #[] #[.pointer (some ⟨W.heap.size, 0, none⟩)]) ∧ w' = W.alloc (.cells #[.map mb] 82) :=
  (callsIn_wide (n := 5)).1 (AnyZI.keys_in Try.keysA Fence.wide 5 trivial rfl mb W)
theorem sortsA (m : Nat) : AnyZI.SortsIn Try.prog Try.sortedA_ren Fence.wide m :=
  ⟨fun blk off cap ss W hH hblk hsz => callsIn_wide.2 (AnyM.slices_Sort_int Try.sortA blk off cap ss W hH hblk hsz),
   fun p cap W => callsIn_wide.2 (AnyM.slices_Sort_int_none Try.sortA p cap W)⟩
theorem R_of_ownsI {w : World} {base : Nat} {v : Value} {n : Nat} {l : List Int} (h : w.ownsRow base 3 1 v n (l.map encZ)) (hn : n = l.length) : Kd.R (Kd.int .i64) 3 w base (fun _ => True) v l :=
  Kd.R_of_own (h1 := fun _ => rfl) (by rw [hn] at h; simpa [encs] using h) (fun _ _ => trivial)
set_option maxHeartbeats 4000000 in
theorem Sorted_T (b : Nat) (l : List (Int × Value)) (w : World) (h : IM .i64 w b l) (hl : l.length ≤ 1000000000) (hwf : ∀ p ∈ l, wfI p.1 = true) (hR : ∀ p ∈ l, ∃ f : Nat, p.2 = .pointer (some ⟨f, 0, none⟩)) :
    Calls Try.prog 46 #[.func (.func 64) #[] #[.pointer (some ⟨w.heap.size, 0, none⟩)]] (w.alloc (.cells #[.map (some b)] 82)) fun e w' => ∃ v, e = .returned v ∧ Kd.R (Kd.int .i64) 3 w' w.heap.size (fun _ => True) v (sortI (keys l)) ∧ Below w.heap.size w w' := by
  obtain ⟨D, hown, hsz, hpm, _, _⟩ := IM.owns h Try.underlying3 hl hwf hR
  have hbl := hown.lt
  have hseq : SeqGives Fence.wide 2 Try.prog 64 #[.pointer (some ⟨w.heap.size, 0, none⟩)] encZ (fun ss => ss.Perm (intKeys D)) (Maps.size D) (w.alloc (.cells #[.map (some b)] 82)) :=
    AnyZI.keys_gives (ρ := Try.keysA_ren) { Try.keysA with } Fence.wide _ trivial rfl (by omega) w.heap.size b l.length D _ (by simp) (by simp) (by
      obtain ⟨es, clock, hb, Ft, hs, hD⟩ := hown
      exact ⟨es, clock, (Below.heap_alloc _ _ b hbl).trans hb, Ft, hs, hD⟩)
  have cS := AnyZI.sorted_in Try.sortedA Fence.wide 5 trivial trivial trivial trivial rfl (by omega) (sortsA _) (enters_of Try.func63 (by kernel_rfl) rfl) 64 #[.pointer (some ⟨w.heap.size, 0, none⟩)] trivial (enters_of Try.func64 (by kernel_rfl) rfl) _ _ (by rw [hsz]; simp only [maxLen]; omega) (by rw [hsz]; omega) _ hseq
  change CallsIn _ _ Try.prog 46 _ _ _ at cS
  refine ((callsIn_wide (n := 5)).1 cS).mono ?_
  rintro e w' ⟨v, ss, rfl, hS, hrow, hnil, hb⟩
  refine ⟨v, rfl, ?_, ?_⟩
  · have h1 : sortI (keys l) = ss.mergeSort (fun x y => decide (x ≤ y)) := sortI_perm (hpm.symm.trans hS.symm)
    rw [h1]
    refine Kd.R_lower (R_of_ownsI hrow (by rw [List.length_mergeSort])) (by rw [World.size_alloc]; omega)
  · exact (below_alloc (Below.refl _ _) _).trans (hb.mono (by rw [World.size_alloc]; omega))
end Go.Proofs.Ytoimpjmoikjibaa.Dk
