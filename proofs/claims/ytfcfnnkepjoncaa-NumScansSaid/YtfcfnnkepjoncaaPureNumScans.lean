/- Proved: for every text the program's num.Scan and the document's answer tell the same place and the same error (the statement's own bound: texts of at most 2^47 - 4096 bytes). -/
import Derived.Test.YtfcfnnkepjoncaaPureNumA
namespace Go.Proofs.Ytfcfnnkepjoncaa.Pure
open Go.RowKit Go.Proofs.Ytfcfnnkepjoncaa.PA Go.Proofs.YtfcfnnkepjoncaaW.PrintWords Go.Proofs.YtfcfnnkepjoncaaW.PrintLast

theorem NumScans : glossatorlaw07_NumScans.Pure := by
  intro s hs
  refine Ev.rounds (Ev.bind (prog_scan s (by omega)) (Ev.bind (ref_scan s (by omega)) ?_))
  simp only [if_true]
  exact Ev.bind awake_ev (Ev.now _)

end Go.Proofs.Ytfcfnnkepjoncaa.Pure
