/- saga: Take and Replay, walked. -/
import Derived.Test.YtplhihakeodadaaDoorSgTakeK
namespace Go.Proofs.YtplhihakeodadaaDoor.Sg
open Go Go.RowKit Go.Proofs.YtplhihakeodadaaDoorW.PrintWords Go.Proofs.YtplhihakeodadaaDoorW.PrintLast Go.Proofs.YtplhihakeodadaaDoorW.PrintMore
set_option linter.unusedVariables false
set_option linter.unusedSimpArgs false
theorem Take_T (V : SV) (s : SS) (U : PV) (r : RR) (w : World) (hT : TabW w) (h : StC w V s) (hu : PlC w U r.pl) (hq : okPlan r.pl = true) (hb : Bd 1000000 s) :
    Calls Tryd.prog 17 #[.agg (stv V s), .agg (rrv U r)] w (Took w (take s r).1 (take s r).2) := by
  have hn : 0 ≤ s.num ∧ s.num ≤ 1000000 := ⟨hb.n0, by have := hb.n1; omega⟩
  unfold take
  split
  · rename_i hf
    exact takeF_T V s U r w hT h hu hb.p hq hb.o hb.d hn hf
  · rename_i hf
    have hf' : formed r = true := by simpa using hf
    split
    · rename_i hw
      exact takeW_T V s U r w hT h hu hb.p hq hb.o hb.d hn hf' hw
    · rename_i hw
      have hw' : when r.kind s.ph = true := by simpa using hw
      split
      · rename_i ha
        exact takeA_T V s U r w hT h hu hb.p hq hb.o hb.d hn _ hf' hw' rfl ha
      · rename_i ha
        exact takeOK_T V s U r w hT h hu hb.p hq hb.o hb.d hn hf' hw' (by simpa using ha)
end Go.Proofs.YtplhihakeodadaaDoor.Sg
