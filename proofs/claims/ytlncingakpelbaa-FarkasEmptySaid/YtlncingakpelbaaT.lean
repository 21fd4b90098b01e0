/- Part of a proof that a law of the program holds for every input: printed by a program of this work. No conditions. -/
import Derived.Test.YtlncingakpelbaaFwS
namespace Go.Proofs.Ytlncingakpelbaa
open Go
set_option linter.unusedVariables false
set_option maxHeartbeats 4000000

abbrev t_anon_struct_x_int64_y_int_signed_bool_code_abi_BoundsErrorCode : Ty := (.pair (.int .i64) (.pair (.int .i64) (.pair .bool (.int .u8))))
abbrev anon_struct_x_int64_y_int_signed_bool_code_abi_BoundsErrorCode := Int × Int × Bool × Int
abbrev d_anon_struct_x_int64_y_int_signed_bool_code_abi_BoundsErrorCode : anon_struct_x_int64_y_int_signed_bool_code_abi_BoundsErrorCode := ((0 : Int), (0 : Int), false, (0 : Int))
abbrev t_runtime_boundsError : Ty := (.pair (.int .i64) (.pair (.int .i64) (.pair .bool (.int .u8))))
abbrev runtime_boundsError := Int × Int × Bool × Int
abbrev d_runtime_boundsError : runtime_boundsError := ((0 : Int), (0 : Int), false, (0 : Int))
abbrev t_anon_struct_msg_string_addr_uintptr : Ty := (.pair .str (.int .u64))
abbrev anon_struct_msg_string_addr_uintptr := ByteArray × Int
abbrev d_anon_struct_msg_string_addr_uintptr : anon_struct_msg_string_addr_uintptr := (ByteArray.empty, (0 : Int))
abbrev t_runtime_errorAddressString : Ty := (.pair .str (.int .u64))
abbrev runtime_errorAddressString := ByteArray × Int
abbrev d_runtime_errorAddressString : runtime_errorAddressString := (ByteArray.empty, (0 : Int))
abbrev t_api_Lin : Ty := (.pair (.sl (.int .i64)) (.int .i64))
abbrev api_Lin := (List Int) × Int
abbrev d_api_Lin : api_Lin := ([], (0 : Int))
abbrev t_api_Cond : Ty := (.pair (.int .i64) (.pair (.int .i64) t_api_Lin))
abbrev api_Cond := Int × Int × api_Lin
abbrev d_api_Cond : api_Cond := ((0 : Int), (0 : Int), d_api_Lin)
abbrev t_anon_struct_C_Sint_K_int : Ty := (.pair (.sl (.int .i64)) (.int .i64))
abbrev anon_struct_C_Sint_K_int := (List Int) × Int
abbrev d_anon_struct_C_Sint_K_int : anon_struct_C_Sint_K_int := ([], (0 : Int))
abbrev t_anon_struct_Kind_int_M_int_L_api_Lin : Ty := (.pair (.int .i64) (.pair (.int .i64) t_api_Lin))
abbrev anon_struct_Kind_int_M_int_L_api_Lin := Int × Int × api_Lin
abbrev d_anon_struct_Kind_int_M_int_L_api_Lin : anon_struct_Kind_int_M_int_L_api_Lin := ((0 : Int), (0 : Int), d_api_Lin)
abbrev t_anon_struct_Dim_int_Pieces_SSapi_Cond : Ty := (.pair (.int .i64) (.sl (.sl t_api_Cond)))
abbrev anon_struct_Dim_int_Pieces_SSapi_Cond := Int × (List (List api_Cond))
abbrev d_anon_struct_Dim_int_Pieces_SSapi_Cond : anon_struct_Dim_int_Pieces_SSapi_Cond := ((0 : Int), [])
abbrev t_api_Set : Ty := (.pair (.int .i64) (.sl (.sl t_api_Cond)))
abbrev api_Set := Int × (List (List api_Cond))
abbrev d_api_Set : api_Set := ((0 : Int), [])
abbrev t_farkas_row : Ty := (.pair .bool (.sl (.int .i64)))
abbrev farkas_row := Bool × (List Int)
abbrev d_farkas_row : farkas_row := (false, [])
abbrev t_farkas_table : Ty := (.pair (.int .i64) (.sl t_farkas_row))
abbrev farkas_table := Int × (List farkas_row)
abbrev d_farkas_table : farkas_table := ((0 : Int), [])
abbrev t_anon_struct_n_int_rows_Sfarkas_row : Ty := (.pair (.int .i64) (.sl t_farkas_row))
abbrev anon_struct_n_int_rows_Sfarkas_row := Int × (List farkas_row)
abbrev d_anon_struct_n_int_rows_Sfarkas_row : anon_struct_n_int_rows_Sfarkas_row := ((0 : Int), [])
abbrev t_ref09_Row : Ty := (.pair t_api_Lin (.pair .bool (.sl (.int .i64))))
abbrev ref09_Row := api_Lin × Bool × (List Int)
abbrev d_ref09_Row : ref09_Row := (d_api_Lin, false, [])
abbrev t_anon_struct_x_Sint_den_int : Ty := (.pair (.sl (.int .i64)) (.int .i64))
abbrev anon_struct_x_Sint_den_int := (List Int) × Int
abbrev d_anon_struct_x_Sint_den_int : anon_struct_x_Sint_den_int := ([], (0 : Int))
abbrev t_farkas_point : Ty := (.pair (.sl (.int .i64)) (.int .i64))
abbrev farkas_point := (List Int) × Int
abbrev d_farkas_point : farkas_point := ([], (0 : Int))
abbrev t_anon_struct_n_int_d_int : Ty := (.pair (.int .i64) (.int .i64))
abbrev anon_struct_n_int_d_int := Int × Int
abbrev d_anon_struct_n_int_d_int : anon_struct_n_int_d_int := ((0 : Int), (0 : Int))
abbrev t_farkas_fraction : Ty := (.pair (.int .i64) (.int .i64))
abbrev farkas_fraction := Int × Int
abbrev d_farkas_fraction : farkas_fraction := ((0 : Int), (0 : Int))
abbrev t_ref09_Int : Ty := (.pair .bool (.sl (.int .i64)))
abbrev ref09_Int := Bool × (List Int)
abbrev d_ref09_Int : ref09_Int := (false, [])
abbrev t_ref09_Ratio : Ty := (.pair t_ref09_Int t_ref09_Int)
abbrev ref09_Ratio := ref09_Int × ref09_Int
abbrev d_ref09_Ratio : ref09_Ratio := (d_ref09_Int, d_ref09_Int)
abbrev t_anon_struct_Minus_bool_D_Sint : Ty := (.pair .bool (.sl (.int .i64)))
abbrev anon_struct_Minus_bool_D_Sint := Bool × (List Int)
abbrev d_anon_struct_Minus_bool_D_Sint : anon_struct_Minus_bool_D_Sint := (false, [])
abbrev t_anon_struct_N_ref09_Int_D_ref09_Int : Ty := (.pair t_ref09_Int t_ref09_Int)
abbrev anon_struct_N_ref09_Int_D_ref09_Int := ref09_Int × ref09_Int
abbrev d_anon_struct_N_ref09_Int_D_ref09_Int : anon_struct_N_ref09_Int_D_ref09_Int := (d_ref09_Int, d_ref09_Int)
abbrev t_anon_struct_eq_bool_v_farkas_vector_int : Ty := (.pair .bool (.sl (.int .i64)))
abbrev anon_struct_eq_bool_v_farkas_vector_int := Bool × (List Int)
abbrev d_anon_struct_eq_bool_v_farkas_vector_int : anon_struct_eq_bool_v_farkas_vector_int := (false, [])
abbrev t_anon_struct_L_api_Lin_Eq_bool_W_Sint : Ty := (.pair t_api_Lin (.pair .bool (.sl (.int .i64))))
abbrev anon_struct_L_api_Lin_Eq_bool_W_Sint := api_Lin × Bool × (List Int)
abbrev d_anon_struct_L_api_Lin_Eq_bool_W_Sint : anon_struct_L_api_Lin_Eq_bool_W_Sint := (d_api_Lin, false, [])

end Go.Proofs.Ytlncingakpelbaa
