import Derived.Test.YtjhbpcdaojajdaaDoorD8
import Derived.Test.YtjhbpcdaojajdaaDoorLibK2
import Derived.Test.YtjhbpcdaojajdaaDoorLibP
import Derived.Test.YtjhbpcdaojajdaaDoorLibN
import Derived.Test.YtjhbpcdaojajdaaDoorLibH
import Derived.Test.YtjhbpcdaojajdaaDoorLibA
import Derived.Test.YtjhbpcdaojajdaaDoorLibZ
import Derived.Test.YtjhbpcdaojajdaaDoorLibI
import Derived.Test.YtjhbpcdaojajdaaDoorLibJ
import Derived.Test.YtjhbpcdaojajdaaDoorLibK
import Derived.Test.YtjhbpcdaojajdaaDoorLibDg
import Derived.Test.YtjhbpcdaojajdaaDoorLibDh
import Derived.Test.YtjhbpcdaojajdaaDoorLibAs
import Derived.Test.YtjhbpcdaojajdaaDoorLibCu
import Derived.Test.YtjhbpcdaojajdaaDoorLibPn
import Derived.Test.YtjhbpcdaojajdaaDoorLibSt
set_option linter.unusedVariables false
set_option linter.unusedSimpArgs false
set_option maxRecDepth 100000
namespace Go.Proofs.YtjhbpcdaojajdaaDoor.D9
open Go.Lib Go.RowKit Go.Proofs.YtjhbpcdaojajdaaDoor.LibA Go.Proofs.YtjhbpcdaojajdaaDoor.LibC Go.Proofs.YtjhbpcdaojajdaaDoor.LibS Go.Proofs.YtjhbpcdaojajdaaDoor.LibR Go.Proofs.YtjhbpcdaojajdaaDoor.LibT Go.Proofs.YtjhbpcdaojajdaaDoor.LibU Go.Proofs.YtjhbpcdaojajdaaDoor.LibV Go.Proofs.YtjhbpcdaojajdaaDoor.LibW Go.Proofs.YtjhbpcdaojajdaaDoor.LibX Go.Proofs.YtjhbpcdaojajdaaDoor.LibY Go.Proofs.YtjhbpcdaojajdaaDoor.LibZ Go.Proofs.YtjhbpcdaojajdaaDoor.LibQ Go.Proofs.YtjhbpcdaojajdaaDoor.LibP Go.Proofs.YtjhbpcdaojajdaaDoor.LibN Go.Proofs.YtjhbpcdaojajdaaDoor.LibH Go.Proofs.YtjhbpcdaojajdaaDoor.LibI Go.Proofs.YtjhbpcdaojajdaaDoor.LibJ Go.Proofs.YtjhbpcdaojajdaaDoor.LibK Go.Proofs.YtjhbpcdaojajdaaDoor.LibK2 Go.Proofs.YtjhbpcdaojajdaaDoor.LibDf Go.Proofs.YtjhbpcdaojajdaaDoor.LibDg Go.Proofs.YtjhbpcdaojajdaaDoor.LibDh Go.Proofs.YtjhbpcdaojajdaaDoor.LibAs Go.Proofs.YtjhbpcdaojajdaaDoor.LibCu Go.Proofs.YtjhbpcdaojajdaaDoor.LibPn Go.Proofs.YtjhbpcdaojajdaaDoor.LibSt Go.Proofs.YtjhbpcdaojajdaaDoor.D1 Go.Proofs.YtjhbpcdaojajdaaDoor.D2 Go.Proofs.YtjhbpcdaojajdaaDoor.D3 Go.Proofs.YtjhbpcdaojajdaaDoor.D4 Go.Proofs.YtjhbpcdaojajdaaDoor.D5 Go.Proofs.YtjhbpcdaojajdaaDoor.D6 Go.Proofs.YtjhbpcdaojajdaaDoor.D7 Go.Proofs.YtjhbpcdaojajdaaDoor.D8


theorem names_walkL (xs : List UInt8) (w0 : World) : Calls Tryd.prog 3 #[.string ⟨xs.toArray⟩] w0 fun e w' => e = .returned (.bool true) ∧ Below w0.heap.size w0 w' := by
  have st := St.start w0 [];refine enter Tryd.func3 rfl Tryd.ntmps3 (by simp) ?_;intro a fr;refine wp_seq ?_;refine reg ?_;refine as_ fr rfl rfl ?_;intro a fr;refine nil_n ?_;refine wp_seq ?_;refine reg ?_;refine lst rfl (ow_call fr rfl rfl Tryd.call10 (begun_calls _) rfl rfl ?_);rintro e w ⟨rfl, hag⟩;refine ⟨_, rfl, ?_⟩;intro a fr;have st := st.keep hag;clear hag;refine mv fr rfl rfl ?_;intro a fr;refine lst_y (wanted_of fr rfl rfl rfl rfl) (ow_v fr (rn_move (fr.ev rfl)) rfl rfl ?_);intro a fr;refine lst_y (wanted_of fr rfl rfl rfl rfl) (ow_call fr rfl rfl Tryd.call11 (className_calls xs _) rfl rfl ?_);rintro e w ⟨rfl, hag⟩;refine ⟨_, rfl, ?_⟩;intro a fr;have st := st.keep hag;clear hag;refine lst_y (wanted_of fr rfl rfl rfl rfl) (ow_v fr (rn_move (fr.ev rfl)) rfl rfl ?_);intro a fr;refine lst_y (wanted_of fr rfl rfl rfl rfl) (ow_call fr rfl rfl Tryd.call12 (rclassName_calls xs _) rfl rfl ?_);rintro e w ⟨rfl, hag⟩;refine ⟨_, rfl, ?_⟩;intro a fr;have st := st.keep hag;clear hag;refine lst_y (wanted_of fr rfl rfl rfl rfl) (ow_v fr (rn_as (v' := .bool true) (rn_eql (fr.ev rfl) (fr.ev rfl)) (congrArg Value.bool (by simp))) rfl rfl ?_);intro a fr;refine lst rfl (ow_v fr (rn_pick_t (fr.ev rfl) (fr.ev rfl)) rfl rfl ?_);intro a fr;refine mv fr rfl rfl ?_;intro a fr;refine lst_y (wanted_of fr rfl rfl rfl rfl) (ow_v fr (rn_move (fr.ev rfl)) rfl rfl ?_);intro a fr;refine lst_y (wanted_of fr rfl rfl rfl rfl) (ow_call fr rfl rfl Tryd.call13 (memberName_calls xs _) rfl rfl ?_);rintro e w ⟨rfl, hag⟩;refine ⟨_, rfl, ?_⟩;intro a fr;have st := st.keep hag;clear hag;refine lst_y (wanted_of fr rfl rfl rfl rfl) (ow_v fr (rn_move (fr.ev rfl)) rfl rfl ?_);intro a fr;refine lst_y (wanted_of fr rfl rfl rfl rfl) (ow_call fr rfl rfl Tryd.call14 (rmemberName_calls xs _) rfl rfl ?_);rintro e w ⟨rfl, hag⟩;refine ⟨_, rfl, ?_⟩;intro a fr;have st := st.keep hag;clear hag;refine lst_y (wanted_of fr rfl rfl rfl rfl) (ow_v fr (rn_as (v' := .bool true) (rn_eql (fr.ev rfl) (fr.ev rfl)) (congrArg Value.bool (by simp))) rfl rfl ?_);intro a fr;refine lst rfl (ow_v fr (rn_pick_t (fr.ev rfl) (fr.ev rfl)) rfl rfl ?_);intro a fr;refine as_ fr rfl rfl ?_;intro a fr;refine nil_n ?_;refine wp_ret ?_;refine ret1 Tryd.results3 fr (rv_tmp fr rfl) ?_;exact ⟨rfl, st.agr.below⟩

theorem names_walk (s : ByteArray) (w0 : World) : Calls Tryd.prog 3 #[.string s] w0 fun e w' => e = .returned (.bool true) ∧ Below w0.heap.size w0 w' := names_walkL s.data.toList w0

end Go.Proofs.YtjhbpcdaojajdaaDoor.D9
