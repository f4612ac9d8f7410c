/- The small functions of package decode at each number, printed by wip/am/gen3b.py. Conditions: none. -/
import Derived.Test.YtppikpjmlbaccaaDoorM2
import Derived.Test.YtppikpjmlbaccaaDoorK3a
namespace Go.Proofs.YtppikpjmlbaccaaDoor.Am
set_option linter.unusedVariables false
set_option linter.unusedSimpArgs false


theorem fields_at {m : Mem} {k : Int → Mem → Prop} : ∀ n : Nat, n < 78 → k (FLT.getD n 0) m → F46 n m k := by
  intro n hn hk
  iterate 78
    rcases n with _ | n
    · (repeat (first | refine kif_t (by decide) ?_ | refine kif_f (by decide) ?_ | refine ⟨Keeps.self _, ?_⟩)); exact hk
  omega

theorem special_at {m : Mem} {k : Int → Mem → Prop} : ∀ n : Nat, n < 64 → k (KT0.getD n 0) m → F47 n m k := by
  intro n hn hk
  iterate 64
    rcases n with _ | n
    · (repeat (first | refine kif_t (by decide) ?_ | refine kif_f (by decide) ?_ | refine ⟨Keeps.self _, ?_⟩)); exact hk
  omega

theorem regimm_at {m : Mem} {k : Int → Mem → Prop} : ∀ n : Nat, n < 32 → k (KT1.getD n 0) m → F48 n m k := by
  intro n hn hk
  iterate 32
    rcases n with _ | n
    · (repeat (first | refine kif_t (by decide) ?_ | refine kif_f (by decide) ?_ | refine ⟨Keeps.self _, ?_⟩)); exact hk
  omega

theorem table_at {m : Mem} {k : Int → Mem → Prop} : ∀ n : Nat, n < 64 → k (KT16f.getD n 0) m → F54 n m k := by
  intro n hn hk
  iterate 64
    rcases n with _ | n
    · (repeat (first | refine kif_t (by decide) ?_ | refine kif_f (by decide) ?_ | refine ⟨Keeps.self _, ?_⟩)); exact hk
  omega

theorem special2_at {m : Mem} {k : Int → Mem → Prop} : ∀ n : Nat, n < 64 → k (KT28.getD n 0) m → F50 n m k := by
  intro n hn hk
  iterate 64
    rcases n with _ | n
    · (repeat (first | refine kif_t (by decide) ?_ | refine kif_f (by decide) ?_ | refine ⟨Keeps.self _, ?_⟩)); exact hk
  omega

theorem major_at {m : Mem} {k : Int → Mem → Prop} : ∀ n : Nat, n < 64 → k (KTM.getD n 0) m → F51 n m k := by
  intro n hn hk
  iterate 64
    rcases n with _ | n
    · (repeat (first | refine kif_t (by decide) ?_ | refine kif_f (by decide) ?_ | refine ⟨Keeps.self _, ?_⟩)); exact hk
  omega

end Go.Proofs.YtppikpjmlbaccaaDoor.Am
