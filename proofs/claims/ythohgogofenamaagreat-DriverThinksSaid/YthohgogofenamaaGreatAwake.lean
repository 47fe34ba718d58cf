import Derived.Test.YthohgogofenamaaGreatSin
namespace Go.Proofs.YthohgogofenamaaGreat
open Go.Se
set_option maxRecDepth 100000
def cFxAdd : List SV → List (Option SB) → Out
  | [.ptr 0 0, .int .i64 a, .int .i64 b], [some (.cells 58 [.bool o])] => some (.int .i64 (sat64 (a + b)), [some (.cells mT [.bool (o || over64 (a + b))])], [0])
  | _, _ => none
def cFxSub : List SV → List (Option SB) → Out
  | [.ptr 0 0, .int .i64 a, .int .i64 b], [some (.cells 58 [.bool o])] => some (.int .i64 (sat64 (a - b)), [some (.cells mT [.bool (o || over64 (a - b))])], [0])
  | _, _ => none
def cFxMul : List SV → List (Option SB) → Out
  | [.ptr 0 0, .int .i64 a, .int .i64 b], [some (.cells 58 [.bool o])] => some (.int .i64 (sat64 (rne32 (a * b))), [some (.cells mT [.bool (o || over64 (rne32 (a * b)))])], [0])
  | _, _ => none
def cLen3 : List SV → List (Option SB) → Out
  | [.ptr 0 0, .int .i64 x, .int .i64 y, .int .i64 z], [some (.cells 58 [.bool o])] => some (.int .i64 (lenV (x * x + y * y + z * z)), [some (.cells mT [.bool (o || !lenGood (x * x + y * y + z * z))])], [0])
  | _, _ => none
/-- What is known of numbers. -/
noncomputable def withFx (B : Know Tryz.prog) : Know Tryz.prog := (((B.add 38 (one cFxAdd) (one_sat fun xs σ v σ' d h => by
    unfold cFxAdd at h; split at h <;> cases h; exact fxAdd_ok _ _ _)).add 17 (one cFxSub) (one_sat fun xs σ v σ' d h => by
    unfold cFxSub at h; split at h <;> cases h; exact fxSub_ok _ _ _)).add 40 (one cFxMul) (one_sat fun xs σ v σ' d h => by
    unfold cFxMul at h; split at h <;> cases h; exact fxMul_ok _ _ _)).add 36 (one cLen3) (one_sat fun xs σ v σ' d h => by
    unfold cLen3 at h; split at h <;> cases h; exact len3_ok _ _ _ _)
noncomputable def kA : Know Tryz.prog := withFx k16
theorem awake_run (K : KC) : runU 8 kA 8 7 [] [] K = K (.bool true) [] [] := by kernel_rfl
theorem awake_ok : CallOK Tryz.prog 7 [] [] (.bool true) [] [] :=
  runU_ok 8 kA 8 fun _ _ K hK => by rw [awake_run]; exact hK
def cAwake : List SV → List (Option SB) → Out
  | [], [] => some (.bool true, [], [])
  | _, _ => none
end Go.Proofs.YthohgogofenamaaGreat
