/- The words of a closed call for which ostlerref02.Key is known (printed by mkkeys.py). -/
import Derived.Test.YtcmehaoicilejaaGreatDoorEnv
import Derived.Test.YtcmehaoicilejaaGreatDoorEv6
namespace Go.Proofs.YtcmehaoicilejaaGreatDoor
open Go Go.Ev
set_option maxRecDepth 1000000
noncomputable def env00 : Env := mkEnv ftr ttr ptr noPrm noMemo
theorem env00_ok : EnvOK env00 Tryz.prog := mkEnv_ok ftr_all ftr_names ttr_all ptr_all (mixed_of Tryz.checked) noPrm_ok noMemo_ok
noncomputable def keyTab : List (List V × V) := [([.str [110, 97, 109, 101, 115, 112, 97, 99, 101]], .bool true), ([.str [78]], .bool false), ([.str [117, 115, 101]], .bool true), ([.str [65, 92, 66]], .bool false), ([.str [110, 101, 119]], .bool true), ([.str [66, 92, 67]], .bool false), ([.str [102]], .bool false), ([.str [68]], .bool false)]
theorem key_0 : okRes (.bool true) (call env00 20000 55 [.str [110, 97, 109, 101, 115, 112, 97, 99, 101]] ⟨0, .e⟩) = true := by kernel_rfl
theorem key_1 : okRes (.bool false) (call env00 20000 55 [.str [78]] ⟨0, .e⟩) = true := by kernel_rfl
theorem key_2 : okRes (.bool true) (call env00 20000 55 [.str [117, 115, 101]] ⟨0, .e⟩) = true := by kernel_rfl
theorem key_3 : okRes (.bool false) (call env00 20000 55 [.str [65, 92, 66]] ⟨0, .e⟩) = true := by kernel_rfl
theorem key_4 : okRes (.bool true) (call env00 20000 55 [.str [110, 101, 119]] ⟨0, .e⟩) = true := by kernel_rfl
theorem key_5 : okRes (.bool false) (call env00 20000 55 [.str [66, 92, 67]] ⟨0, .e⟩) = true := by kernel_rfl
theorem key_6 : okRes (.bool false) (call env00 20000 55 [.str [102]] ⟨0, .e⟩) = true := by kernel_rfl
theorem key_7 : okRes (.bool false) (call env00 20000 55 [.str [68]] ⟨0, .e⟩) = true := by kernel_rfl
theorem key_tab : tabOk env00 20000 55 keyTab = true := tabOk_cons key_0 (tabOk_cons key_1 (tabOk_cons key_2 (tabOk_cons key_3 (tabOk_cons key_4 (tabOk_cons key_5 (tabOk_cons key_6 (tabOk_cons key_7 (rfl))))))))
end Go.Proofs.YtcmehaoicilejaaGreatDoor
