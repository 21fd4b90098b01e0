/- Part of a proof that the law FarkasProves of the program holds for every input: what the functions answer, in plain Lean. No conditions. -/
import Derived.Test.YtlncingakpelbaaF01
namespace Go.Proofs.Ytlncingakpelbaa
open Go
set_option linter.unusedVariables false
set_option maxHeartbeats 4000000

abbrev t_anon_struct_x_int64_y_int_signed_bool_code_abi_BoundsErrorCode : Ty := (.pair (.int .i64) (.pair (.int .i64) (.pair .bool (.int .u8))))
abbrev anon_struct_x_int64_y_int_signed_bool_code_abi_BoundsErrorCode := Int × Int × Bool × Int
abbrev d_anon_struct_x_int64_y_int_signed_bool_code_abi_BoundsErrorCode : anon_struct_x_int64_y_int_signed_bool_code_abi_BoundsErrorCode := ((0 : Int),(0 : Int),false,(0 : Int))
abbrev c_anon_struct_x_int64_y_int_signed_bool_code_abi_BoundsErrorCode (x : anon_struct_x_int64_y_int_signed_bool_code_abi_BoundsErrorCode) : List V := [vi x.1,vi x.2.1,vb x.2.2.1,.d (.int .u8) x.2.2.2]
abbrev t_runtime_boundsError : Ty := (.pair (.int .i64) (.pair (.int .i64) (.pair .bool (.int .u8))))
abbrev runtime_boundsError := Int × Int × Bool × Int
abbrev d_runtime_boundsError : runtime_boundsError := ((0 : Int),(0 : Int),false,(0 : Int))
abbrev t_anon_struct_msg_string_addr_uintptr : Ty := (.pair .str (.int .u64))
abbrev anon_struct_msg_string_addr_uintptr := ByteArray × Int
abbrev d_anon_struct_msg_string_addr_uintptr : anon_struct_msg_string_addr_uintptr := (ByteArray.empty,(0 : Int))
abbrev c_anon_struct_msg_string_addr_uintptr (x : anon_struct_msg_string_addr_uintptr) : List V := [.d .str x.1,.d (.int .u64) x.2]
abbrev t_runtime_errorAddressString : Ty := (.pair .str (.int .u64))
abbrev runtime_errorAddressString := ByteArray × Int
abbrev d_runtime_errorAddressString : runtime_errorAddressString := (ByteArray.empty,(0 : Int))
abbrev t_api_Lin : Ty := (.pair (.sl (.int .i64)) (.int .i64))
abbrev api_Lin := (List Int) × Int
abbrev d_api_Lin : api_Lin := ([],(0 : Int))
abbrev c_api_Lin (x : api_Lin) : List V := [.d (.sl (.int .i64)) x.1,vi x.2]
abbrev t_api_Cond : Ty := (.pair (.int .i64) (.pair (.int .i64) t_api_Lin))
abbrev api_Cond := Int × Int × api_Lin
abbrev d_api_Cond : api_Cond := ((0 : Int),(0 : Int),d_api_Lin)
abbrev c_api_Cond (x : api_Cond) : List V := [vi x.1,vi x.2.1,.d (.sl (.int .i64)) x.2.2.1,vi x.2.2.2]
abbrev t_anon_struct_C_Sint_K_int : Ty := (.pair (.sl (.int .i64)) (.int .i64))
abbrev anon_struct_C_Sint_K_int := (List Int) × Int
abbrev d_anon_struct_C_Sint_K_int : anon_struct_C_Sint_K_int := ([],(0 : Int))
abbrev t_anon_struct_Kind_int_M_int_L_api_Lin : Ty := (.pair (.int .i64) (.pair (.int .i64) t_api_Lin))
abbrev anon_struct_Kind_int_M_int_L_api_Lin := Int × Int × api_Lin
abbrev d_anon_struct_Kind_int_M_int_L_api_Lin : anon_struct_Kind_int_M_int_L_api_Lin := ((0 : Int),(0 : Int),d_api_Lin)
abbrev t_anon_struct_Dim_int_Pieces_SSapi_Cond : Ty := (.pair (.int .i64) (.sl (.sl t_api_Cond)))
abbrev anon_struct_Dim_int_Pieces_SSapi_Cond := Int × (List (List api_Cond))
abbrev d_anon_struct_Dim_int_Pieces_SSapi_Cond : anon_struct_Dim_int_Pieces_SSapi_Cond := ((0 : Int),[])
abbrev c_anon_struct_Dim_int_Pieces_SSapi_Cond (x : anon_struct_Dim_int_Pieces_SSapi_Cond) : List V := [vi x.1,.d (.sl (.sl t_api_Cond)) x.2]
abbrev t_api_Set : Ty := (.pair (.int .i64) (.sl (.sl t_api_Cond)))
abbrev api_Set := Int × (List (List api_Cond))
abbrev d_api_Set : api_Set := ((0 : Int),[])
abbrev t_farkas_row : Ty := (.pair .bool (.sl (.int .i64)))
abbrev farkas_row := Bool × (List Int)
abbrev d_farkas_row : farkas_row := (false,[])
abbrev c_farkas_row (x : farkas_row) : List V := [vb x.1,.d (.sl (.int .i64)) x.2]
abbrev t_farkas_table : Ty := (.pair (.int .i64) (.sl t_farkas_row))
abbrev farkas_table := Int × (List farkas_row)
abbrev d_farkas_table : farkas_table := ((0 : Int),[])
abbrev c_farkas_table (x : farkas_table) : List V := [vi x.1,.d (.sl t_farkas_row) x.2]
abbrev t_anon_struct_n_int_rows_Sfarkas_row : Ty := (.pair (.int .i64) (.sl t_farkas_row))
abbrev anon_struct_n_int_rows_Sfarkas_row := Int × (List farkas_row)
abbrev d_anon_struct_n_int_rows_Sfarkas_row : anon_struct_n_int_rows_Sfarkas_row := ((0 : Int),[])
abbrev t_ref09_Row : Ty := (.pair t_api_Lin (.pair .bool (.sl (.int .i64))))
abbrev ref09_Row := api_Lin × Bool × (List Int)
abbrev d_ref09_Row : ref09_Row := (d_api_Lin,false,[])
abbrev c_ref09_Row (x : ref09_Row) : List V := [.d (.sl (.int .i64)) x.1.1,vi x.1.2,vb x.2.1,.d (.sl (.int .i64)) x.2.2]
abbrev t_anon_struct_x_Sint_den_int : Ty := (.pair (.sl (.int .i64)) (.int .i64))
abbrev anon_struct_x_Sint_den_int := (List Int) × Int
abbrev d_anon_struct_x_Sint_den_int : anon_struct_x_Sint_den_int := ([],(0 : Int))
abbrev t_farkas_point : Ty := (.pair (.sl (.int .i64)) (.int .i64))
abbrev farkas_point := (List Int) × Int
abbrev d_farkas_point : farkas_point := ([],(0 : Int))
abbrev t_anon_struct_n_int_d_int : Ty := (.pair (.int .i64) (.int .i64))
abbrev anon_struct_n_int_d_int := Int × Int
abbrev d_anon_struct_n_int_d_int : anon_struct_n_int_d_int := ((0 : Int),(0 : Int))
abbrev c_anon_struct_n_int_d_int (x : anon_struct_n_int_d_int) : List V := [vi x.1,vi x.2]
abbrev t_farkas_fraction : Ty := (.pair (.int .i64) (.int .i64))
abbrev farkas_fraction := Int × Int
abbrev d_farkas_fraction : farkas_fraction := ((0 : Int),(0 : Int))
abbrev t_ref09_Int : Ty := (.pair .bool (.sl (.int .i64)))
abbrev ref09_Int := Bool × (List Int)
abbrev d_ref09_Int : ref09_Int := (false,[])
abbrev t_ref09_Ratio : Ty := (.pair t_ref09_Int t_ref09_Int)
abbrev ref09_Ratio := ref09_Int × ref09_Int
abbrev d_ref09_Ratio : ref09_Ratio := (d_ref09_Int,d_ref09_Int)
abbrev c_ref09_Ratio (x : ref09_Ratio) : List V := [vb x.1.1,.d (.sl (.int .i64)) x.1.2,vb x.2.1,.d (.sl (.int .i64)) x.2.2]
abbrev t_anon_struct_Minus_bool_D_Sint : Ty := (.pair .bool (.sl (.int .i64)))
abbrev anon_struct_Minus_bool_D_Sint := Bool × (List Int)
abbrev d_anon_struct_Minus_bool_D_Sint : anon_struct_Minus_bool_D_Sint := (false,[])
abbrev t_anon_struct_N_ref09_Int_D_ref09_Int : Ty := (.pair t_ref09_Int t_ref09_Int)
abbrev anon_struct_N_ref09_Int_D_ref09_Int := ref09_Int × ref09_Int
abbrev d_anon_struct_N_ref09_Int_D_ref09_Int : anon_struct_N_ref09_Int_D_ref09_Int := (d_ref09_Int,d_ref09_Int)
abbrev t_anon_struct_eq_bool_v_farkas_vector_int : Ty := (.pair .bool (.sl (.int .i64)))
abbrev anon_struct_eq_bool_v_farkas_vector_int := Bool × (List Int)
abbrev d_anon_struct_eq_bool_v_farkas_vector_int : anon_struct_eq_bool_v_farkas_vector_int := (false,[])
abbrev t_anon_struct_L_api_Lin_Eq_bool_W_Sint : Ty := (.pair t_api_Lin (.pair .bool (.sl (.int .i64))))
abbrev anon_struct_L_api_Lin_Eq_bool_W_Sint := api_Lin × Bool × (List Int)
abbrev d_anon_struct_L_api_Lin_Eq_bool_W_Sint : anon_struct_L_api_Lin_Eq_bool_W_Sint := (d_api_Lin,false,[])

/-! ## Reckoning -/
def evJ {σ α : Type} (x : σ) (k : σ → Option α) : Option α := k x
theorem evJ_eq {σ α : Type} {x : σ} {k : σ → Option α} {r : α} (h : evJ x k = some r) (y : σ) (hy : y = x) : k y = some r := by rw [hy];exact h
theorem of_if {p : Prop} [Decidable p] {α : Type} {a : Option α} {r : α} (h : (if p then a else none) = some r) : p ∧ a = some r := by
  by_cases hp : p
  · rw [if_pos hp] at h;exact ⟨hp,h⟩
  · rw [if_neg hp] at h;cases h
theorem of_pos {p : Prop} [Decidable p] {α : Type} {a b : Option α} {r : α} (hp : p) (h : (if p then a else b) = some r) : a = some r := by rw [if_pos hp] at h;exact h
theorem of_neg {p : Prop} [Decidable p] {α : Type} {a b : Option α} {r : α} (hp : ¬ p) (h : (if p then a else b) = some r) : b = some r := by rw [if_neg hp] at h;exact h
theorem ev_get {α : Type} {f : Option α} {y d : α} (h : f = some y) : f.isSome = true ∧ y = f.getD d := by rw [h];exact ⟨rfl,rfl⟩
def evRec {σ : Type} (z : σ) (s : σ → σ) (n : Nat) : σ := Nat.rec z (fun _ ih => s ih) n
theorem ev_rec0 {α : Type} {z : Option α} {s : (Option α) → Option α} {n : Nat} {r : α} (h : evRec z s n = some r) : ∃ L : Nat → Option α,(L 0 = z) ∧ (∀ n,L (n + 1) = s (L n)) ∧ L n = some r := ⟨evRec z s,rfl,fun n => rfl,h⟩
theorem evJ_inv0 {α β : Type} {x : Option α} {k : (Option α) → Option β} {r : β} (h : evJ x k = some r) : ∃ y : Option α,(y = x) ∧ k y = some r := ⟨x,rfl,h⟩
theorem ev_rec1 {A0 α : Type} {z : A0 → Option α} {s : (A0 → Option α) → A0 → Option α} {n : Nat} {a0 : A0} {r : α} (h : evRec z s n a0 = some r) : ∃ L : Nat → A0 → Option α,(∀ a0,L 0 a0 = z a0) ∧ (∀ n a0,L (n + 1) a0 = s (L n) a0) ∧ L n a0 = some r := ⟨evRec z s,fun a0 => rfl,fun n a0 => rfl,h⟩
theorem evJ_inv1 {A0 α β : Type} {x : A0 → Option α} {k : (A0 → Option α) → Option β} {r : β} (h : evJ x k = some r) : ∃ y : A0 → Option α,(∀ a0,y a0 = x a0) ∧ k y = some r := ⟨x,fun a0 => rfl,h⟩
theorem ev_rec2 {A0 A1 α : Type} {z : A0 → A1 → Option α} {s : (A0 → A1 → Option α) → A0 → A1 → Option α} {n : Nat} {a0 : A0} {a1 : A1} {r : α} (h : evRec z s n a0 a1 = some r) : ∃ L : Nat → A0 → A1 → Option α,(∀ a0 a1,L 0 a0 a1 = z a0 a1) ∧ (∀ n a0 a1,L (n + 1) a0 a1 = s (L n) a0 a1) ∧ L n a0 a1 = some r := ⟨evRec z s,fun a0 a1 => rfl,fun n a0 a1 => rfl,h⟩
theorem evJ_inv2 {A0 A1 α β : Type} {x : A0 → A1 → Option α} {k : (A0 → A1 → Option α) → Option β} {r : β} (h : evJ x k = some r) : ∃ y : A0 → A1 → Option α,(∀ a0 a1,y a0 a1 = x a0 a1) ∧ k y = some r := ⟨x,fun a0 a1 => rfl,h⟩
theorem ev_rec3 {A0 A1 A2 α : Type} {z : A0 → A1 → A2 → Option α} {s : (A0 → A1 → A2 → Option α) → A0 → A1 → A2 → Option α} {n : Nat} {a0 : A0} {a1 : A1} {a2 : A2} {r : α} (h : evRec z s n a0 a1 a2 = some r) : ∃ L : Nat → A0 → A1 → A2 → Option α,(∀ a0 a1 a2,L 0 a0 a1 a2 = z a0 a1 a2) ∧ (∀ n a0 a1 a2,L (n + 1) a0 a1 a2 = s (L n) a0 a1 a2) ∧ L n a0 a1 a2 = some r := ⟨evRec z s,fun a0 a1 a2 => rfl,fun n a0 a1 a2 => rfl,h⟩
theorem evJ_inv3 {A0 A1 A2 α β : Type} {x : A0 → A1 → A2 → Option α} {k : (A0 → A1 → A2 → Option α) → Option β} {r : β} (h : evJ x k = some r) : ∃ y : A0 → A1 → A2 → Option α,(∀ a0 a1 a2,y a0 a1 a2 = x a0 a1 a2) ∧ k y = some r := ⟨x,fun a0 a1 a2 => rfl,h⟩
theorem ev_rec4 {A0 A1 A2 A3 α : Type} {z : A0 → A1 → A2 → A3 → Option α} {s : (A0 → A1 → A2 → A3 → Option α) → A0 → A1 → A2 → A3 → Option α} {n : Nat} {a0 : A0} {a1 : A1} {a2 : A2} {a3 : A3} {r : α} (h : evRec z s n a0 a1 a2 a3 = some r) : ∃ L : Nat → A0 → A1 → A2 → A3 → Option α,(∀ a0 a1 a2 a3,L 0 a0 a1 a2 a3 = z a0 a1 a2 a3) ∧ (∀ n a0 a1 a2 a3,L (n + 1) a0 a1 a2 a3 = s (L n) a0 a1 a2 a3) ∧ L n a0 a1 a2 a3 = some r := ⟨evRec z s,fun a0 a1 a2 a3 => rfl,fun n a0 a1 a2 a3 => rfl,h⟩
theorem evJ_inv4 {A0 A1 A2 A3 α β : Type} {x : A0 → A1 → A2 → A3 → Option α} {k : (A0 → A1 → A2 → A3 → Option α) → Option β} {r : β} (h : evJ x k = some r) : ∃ y : A0 → A1 → A2 → A3 → Option α,(∀ a0 a1 a2 a3,y a0 a1 a2 a3 = x a0 a1 a2 a3) ∧ k y = some r := ⟨x,fun a0 a1 a2 a3 => rfl,h⟩
theorem ev_rec5 {A0 A1 A2 A3 A4 α : Type} {z : A0 → A1 → A2 → A3 → A4 → Option α} {s : (A0 → A1 → A2 → A3 → A4 → Option α) → A0 → A1 → A2 → A3 → A4 → Option α} {n : Nat} {a0 : A0} {a1 : A1} {a2 : A2} {a3 : A3} {a4 : A4} {r : α} (h : evRec z s n a0 a1 a2 a3 a4 = some r) : ∃ L : Nat → A0 → A1 → A2 → A3 → A4 → Option α,(∀ a0 a1 a2 a3 a4,L 0 a0 a1 a2 a3 a4 = z a0 a1 a2 a3 a4) ∧ (∀ n a0 a1 a2 a3 a4,L (n + 1) a0 a1 a2 a3 a4 = s (L n) a0 a1 a2 a3 a4) ∧ L n a0 a1 a2 a3 a4 = some r := ⟨evRec z s,fun a0 a1 a2 a3 a4 => rfl,fun n a0 a1 a2 a3 a4 => rfl,h⟩
theorem evJ_inv5 {A0 A1 A2 A3 A4 α β : Type} {x : A0 → A1 → A2 → A3 → A4 → Option α} {k : (A0 → A1 → A2 → A3 → A4 → Option α) → Option β} {r : β} (h : evJ x k = some r) : ∃ y : A0 → A1 → A2 → A3 → A4 → Option α,(∀ a0 a1 a2 a3 a4,y a0 a1 a2 a3 a4 = x a0 a1 a2 a3 a4) ∧ k y = some r := ⟨x,fun a0 a1 a2 a3 a4 => rfl,h⟩
theorem ev_rec6 {A0 A1 A2 A3 A4 A5 α : Type} {z : A0 → A1 → A2 → A3 → A4 → A5 → Option α} {s : (A0 → A1 → A2 → A3 → A4 → A5 → Option α) → A0 → A1 → A2 → A3 → A4 → A5 → Option α} {n : Nat} {a0 : A0} {a1 : A1} {a2 : A2} {a3 : A3} {a4 : A4} {a5 : A5} {r : α} (h : evRec z s n a0 a1 a2 a3 a4 a5 = some r) : ∃ L : Nat → A0 → A1 → A2 → A3 → A4 → A5 → Option α,(∀ a0 a1 a2 a3 a4 a5,L 0 a0 a1 a2 a3 a4 a5 = z a0 a1 a2 a3 a4 a5) ∧ (∀ n a0 a1 a2 a3 a4 a5,L (n + 1) a0 a1 a2 a3 a4 a5 = s (L n) a0 a1 a2 a3 a4 a5) ∧ L n a0 a1 a2 a3 a4 a5 = some r := ⟨evRec z s,fun a0 a1 a2 a3 a4 a5 => rfl,fun n a0 a1 a2 a3 a4 a5 => rfl,h⟩
theorem evJ_inv6 {A0 A1 A2 A3 A4 A5 α β : Type} {x : A0 → A1 → A2 → A3 → A4 → A5 → Option α} {k : (A0 → A1 → A2 → A3 → A4 → A5 → Option α) → Option β} {r : β} (h : evJ x k = some r) : ∃ y : A0 → A1 → A2 → A3 → A4 → A5 → Option α,(∀ a0 a1 a2 a3 a4 a5,y a0 a1 a2 a3 a4 a5 = x a0 a1 a2 a3 a4 a5) ∧ k y = some r := ⟨x,fun a0 a1 a2 a3 a4 a5 => rfl,h⟩
theorem ev_rec7 {A0 A1 A2 A3 A4 A5 A6 α : Type} {z : A0 → A1 → A2 → A3 → A4 → A5 → A6 → Option α} {s : (A0 → A1 → A2 → A3 → A4 → A5 → A6 → Option α) → A0 → A1 → A2 → A3 → A4 → A5 → A6 → Option α} {n : Nat} {a0 : A0} {a1 : A1} {a2 : A2} {a3 : A3} {a4 : A4} {a5 : A5} {a6 : A6} {r : α} (h : evRec z s n a0 a1 a2 a3 a4 a5 a6 = some r) : ∃ L : Nat → A0 → A1 → A2 → A3 → A4 → A5 → A6 → Option α,(∀ a0 a1 a2 a3 a4 a5 a6,L 0 a0 a1 a2 a3 a4 a5 a6 = z a0 a1 a2 a3 a4 a5 a6) ∧ (∀ n a0 a1 a2 a3 a4 a5 a6,L (n + 1) a0 a1 a2 a3 a4 a5 a6 = s (L n) a0 a1 a2 a3 a4 a5 a6) ∧ L n a0 a1 a2 a3 a4 a5 a6 = some r := ⟨evRec z s,fun a0 a1 a2 a3 a4 a5 a6 => rfl,fun n a0 a1 a2 a3 a4 a5 a6 => rfl,h⟩
theorem evJ_inv7 {A0 A1 A2 A3 A4 A5 A6 α β : Type} {x : A0 → A1 → A2 → A3 → A4 → A5 → A6 → Option α} {k : (A0 → A1 → A2 → A3 → A4 → A5 → A6 → Option α) → Option β} {r : β} (h : evJ x k = some r) : ∃ y : A0 → A1 → A2 → A3 → A4 → A5 → A6 → Option α,(∀ a0 a1 a2 a3 a4 a5 a6,y a0 a1 a2 a3 a4 a5 a6 = x a0 a1 a2 a3 a4 a5 a6) ∧ k y = some r := ⟨x,fun a0 a1 a2 a3 a4 a5 a6 => rfl,h⟩
theorem ev_rec8 {A0 A1 A2 A3 A4 A5 A6 A7 α : Type} {z : A0 → A1 → A2 → A3 → A4 → A5 → A6 → A7 → Option α} {s : (A0 → A1 → A2 → A3 → A4 → A5 → A6 → A7 → Option α) → A0 → A1 → A2 → A3 → A4 → A5 → A6 → A7 → Option α} {n : Nat} {a0 : A0} {a1 : A1} {a2 : A2} {a3 : A3} {a4 : A4} {a5 : A5} {a6 : A6} {a7 : A7} {r : α} (h : evRec z s n a0 a1 a2 a3 a4 a5 a6 a7 = some r) : ∃ L : Nat → A0 → A1 → A2 → A3 → A4 → A5 → A6 → A7 → Option α,(∀ a0 a1 a2 a3 a4 a5 a6 a7,L 0 a0 a1 a2 a3 a4 a5 a6 a7 = z a0 a1 a2 a3 a4 a5 a6 a7) ∧ (∀ n a0 a1 a2 a3 a4 a5 a6 a7,L (n + 1) a0 a1 a2 a3 a4 a5 a6 a7 = s (L n) a0 a1 a2 a3 a4 a5 a6 a7) ∧ L n a0 a1 a2 a3 a4 a5 a6 a7 = some r := ⟨evRec z s,fun a0 a1 a2 a3 a4 a5 a6 a7 => rfl,fun n a0 a1 a2 a3 a4 a5 a6 a7 => rfl,h⟩
theorem evJ_inv8 {A0 A1 A2 A3 A4 A5 A6 A7 α β : Type} {x : A0 → A1 → A2 → A3 → A4 → A5 → A6 → A7 → Option α} {k : (A0 → A1 → A2 → A3 → A4 → A5 → A6 → A7 → Option α) → Option β} {r : β} (h : evJ x k = some r) : ∃ y : A0 → A1 → A2 → A3 → A4 → A5 → A6 → A7 → Option α,(∀ a0 a1 a2 a3 a4 a5 a6 a7,y a0 a1 a2 a3 a4 a5 a6 a7 = x a0 a1 a2 a3 a4 a5 a6 a7) ∧ k y = some r := ⟨x,fun a0 a1 a2 a3 a4 a5 a6 a7 => rfl,h⟩
theorem ev_rec9 {A0 A1 A2 A3 A4 A5 A6 A7 A8 α : Type} {z : A0 → A1 → A2 → A3 → A4 → A5 → A6 → A7 → A8 → Option α} {s : (A0 → A1 → A2 → A3 → A4 → A5 → A6 → A7 → A8 → Option α) → A0 → A1 → A2 → A3 → A4 → A5 → A6 → A7 → A8 → Option α} {n : Nat} {a0 : A0} {a1 : A1} {a2 : A2} {a3 : A3} {a4 : A4} {a5 : A5} {a6 : A6} {a7 : A7} {a8 : A8} {r : α} (h : evRec z s n a0 a1 a2 a3 a4 a5 a6 a7 a8 = some r) : ∃ L : Nat → A0 → A1 → A2 → A3 → A4 → A5 → A6 → A7 → A8 → Option α,(∀ a0 a1 a2 a3 a4 a5 a6 a7 a8,L 0 a0 a1 a2 a3 a4 a5 a6 a7 a8 = z a0 a1 a2 a3 a4 a5 a6 a7 a8) ∧ (∀ n a0 a1 a2 a3 a4 a5 a6 a7 a8,L (n + 1) a0 a1 a2 a3 a4 a5 a6 a7 a8 = s (L n) a0 a1 a2 a3 a4 a5 a6 a7 a8) ∧ L n a0 a1 a2 a3 a4 a5 a6 a7 a8 = some r := ⟨evRec z s,fun a0 a1 a2 a3 a4 a5 a6 a7 a8 => rfl,fun n a0 a1 a2 a3 a4 a5 a6 a7 a8 => rfl,h⟩
theorem evJ_inv9 {A0 A1 A2 A3 A4 A5 A6 A7 A8 α β : Type} {x : A0 → A1 → A2 → A3 → A4 → A5 → A6 → A7 → A8 → Option α} {k : (A0 → A1 → A2 → A3 → A4 → A5 → A6 → A7 → A8 → Option α) → Option β} {r : β} (h : evJ x k = some r) : ∃ y : A0 → A1 → A2 → A3 → A4 → A5 → A6 → A7 → A8 → Option α,(∀ a0 a1 a2 a3 a4 a5 a6 a7 a8,y a0 a1 a2 a3 a4 a5 a6 a7 a8 = x a0 a1 a2 a3 a4 a5 a6 a7 a8) ∧ k y = some r := ⟨x,fun a0 a1 a2 a3 a4 a5 a6 a7 a8 => rfl,h⟩
theorem ev_rec10 {A0 A1 A2 A3 A4 A5 A6 A7 A8 A9 α : Type} {z : A0 → A1 → A2 → A3 → A4 → A5 → A6 → A7 → A8 → A9 → Option α} {s : (A0 → A1 → A2 → A3 → A4 → A5 → A6 → A7 → A8 → A9 → Option α) → A0 → A1 → A2 → A3 → A4 → A5 → A6 → A7 → A8 → A9 → Option α} {n : Nat} {a0 : A0} {a1 : A1} {a2 : A2} {a3 : A3} {a4 : A4} {a5 : A5} {a6 : A6} {a7 : A7} {a8 : A8} {a9 : A9} {r : α} (h : evRec z s n a0 a1 a2 a3 a4 a5 a6 a7 a8 a9 = some r) : ∃ L : Nat → A0 → A1 → A2 → A3 → A4 → A5 → A6 → A7 → A8 → A9 → Option α,(∀ a0 a1 a2 a3 a4 a5 a6 a7 a8 a9,L 0 a0 a1 a2 a3 a4 a5 a6 a7 a8 a9 = z a0 a1 a2 a3 a4 a5 a6 a7 a8 a9) ∧ (∀ n a0 a1 a2 a3 a4 a5 a6 a7 a8 a9,L (n + 1) a0 a1 a2 a3 a4 a5 a6 a7 a8 a9 = s (L n) a0 a1 a2 a3 a4 a5 a6 a7 a8 a9) ∧ L n a0 a1 a2 a3 a4 a5 a6 a7 a8 a9 = some r := ⟨evRec z s,fun a0 a1 a2 a3 a4 a5 a6 a7 a8 a9 => rfl,fun n a0 a1 a2 a3 a4 a5 a6 a7 a8 a9 => rfl,h⟩
theorem evJ_inv10 {A0 A1 A2 A3 A4 A5 A6 A7 A8 A9 α β : Type} {x : A0 → A1 → A2 → A3 → A4 → A5 → A6 → A7 → A8 → A9 → Option α} {k : (A0 → A1 → A2 → A3 → A4 → A5 → A6 → A7 → A8 → A9 → Option α) → Option β} {r : β} (h : evJ x k = some r) : ∃ y : A0 → A1 → A2 → A3 → A4 → A5 → A6 → A7 → A8 → A9 → Option α,(∀ a0 a1 a2 a3 a4 a5 a6 a7 a8 a9,y a0 a1 a2 a3 a4 a5 a6 a7 a8 a9 = x a0 a1 a2 a3 a4 a5 a6 a7 a8 a9) ∧ k y = some r := ⟨x,fun a0 a1 a2 a3 a4 a5 a6 a7 a8 a9 => rfl,h⟩
theorem ev_rec11 {A0 A1 A2 A3 A4 A5 A6 A7 A8 A9 A10 α : Type} {z : A0 → A1 → A2 → A3 → A4 → A5 → A6 → A7 → A8 → A9 → A10 → Option α} {s : (A0 → A1 → A2 → A3 → A4 → A5 → A6 → A7 → A8 → A9 → A10 → Option α) → A0 → A1 → A2 → A3 → A4 → A5 → A6 → A7 → A8 → A9 → A10 → Option α} {n : Nat} {a0 : A0} {a1 : A1} {a2 : A2} {a3 : A3} {a4 : A4} {a5 : A5} {a6 : A6} {a7 : A7} {a8 : A8} {a9 : A9} {a10 : A10} {r : α} (h : evRec z s n a0 a1 a2 a3 a4 a5 a6 a7 a8 a9 a10 = some r) : ∃ L : Nat → A0 → A1 → A2 → A3 → A4 → A5 → A6 → A7 → A8 → A9 → A10 → Option α,(∀ a0 a1 a2 a3 a4 a5 a6 a7 a8 a9 a10,L 0 a0 a1 a2 a3 a4 a5 a6 a7 a8 a9 a10 = z a0 a1 a2 a3 a4 a5 a6 a7 a8 a9 a10) ∧ (∀ n a0 a1 a2 a3 a4 a5 a6 a7 a8 a9 a10,L (n + 1) a0 a1 a2 a3 a4 a5 a6 a7 a8 a9 a10 = s (L n) a0 a1 a2 a3 a4 a5 a6 a7 a8 a9 a10) ∧ L n a0 a1 a2 a3 a4 a5 a6 a7 a8 a9 a10 = some r := ⟨evRec z s,fun a0 a1 a2 a3 a4 a5 a6 a7 a8 a9 a10 => rfl,fun n a0 a1 a2 a3 a4 a5 a6 a7 a8 a9 a10 => rfl,h⟩
theorem evJ_inv11 {A0 A1 A2 A3 A4 A5 A6 A7 A8 A9 A10 α β : Type} {x : A0 → A1 → A2 → A3 → A4 → A5 → A6 → A7 → A8 → A9 → A10 → Option α} {k : (A0 → A1 → A2 → A3 → A4 → A5 → A6 → A7 → A8 → A9 → A10 → Option α) → Option β} {r : β} (h : evJ x k = some r) : ∃ y : A0 → A1 → A2 → A3 → A4 → A5 → A6 → A7 → A8 → A9 → A10 → Option α,(∀ a0 a1 a2 a3 a4 a5 a6 a7 a8 a9 a10,y a0 a1 a2 a3 a4 a5 a6 a7 a8 a9 a10 = x a0 a1 a2 a3 a4 a5 a6 a7 a8 a9 a10) ∧ k y = some r := ⟨x,fun a0 a1 a2 a3 a4 a5 a6 a7 a8 a9 a10 => rfl,h⟩
theorem ev_rec12 {A0 A1 A2 A3 A4 A5 A6 A7 A8 A9 A10 A11 α : Type} {z : A0 → A1 → A2 → A3 → A4 → A5 → A6 → A7 → A8 → A9 → A10 → A11 → Option α} {s : (A0 → A1 → A2 → A3 → A4 → A5 → A6 → A7 → A8 → A9 → A10 → A11 → Option α) → A0 → A1 → A2 → A3 → A4 → A5 → A6 → A7 → A8 → A9 → A10 → A11 → Option α} {n : Nat} {a0 : A0} {a1 : A1} {a2 : A2} {a3 : A3} {a4 : A4} {a5 : A5} {a6 : A6} {a7 : A7} {a8 : A8} {a9 : A9} {a10 : A10} {a11 : A11} {r : α} (h : evRec z s n a0 a1 a2 a3 a4 a5 a6 a7 a8 a9 a10 a11 = some r) : ∃ L : Nat → A0 → A1 → A2 → A3 → A4 → A5 → A6 → A7 → A8 → A9 → A10 → A11 → Option α,(∀ a0 a1 a2 a3 a4 a5 a6 a7 a8 a9 a10 a11,L 0 a0 a1 a2 a3 a4 a5 a6 a7 a8 a9 a10 a11 = z a0 a1 a2 a3 a4 a5 a6 a7 a8 a9 a10 a11) ∧ (∀ n a0 a1 a2 a3 a4 a5 a6 a7 a8 a9 a10 a11,L (n + 1) a0 a1 a2 a3 a4 a5 a6 a7 a8 a9 a10 a11 = s (L n) a0 a1 a2 a3 a4 a5 a6 a7 a8 a9 a10 a11) ∧ L n a0 a1 a2 a3 a4 a5 a6 a7 a8 a9 a10 a11 = some r := ⟨evRec z s,fun a0 a1 a2 a3 a4 a5 a6 a7 a8 a9 a10 a11 => rfl,fun n a0 a1 a2 a3 a4 a5 a6 a7 a8 a9 a10 a11 => rfl,h⟩
theorem evJ_inv12 {A0 A1 A2 A3 A4 A5 A6 A7 A8 A9 A10 A11 α β : Type} {x : A0 → A1 → A2 → A3 → A4 → A5 → A6 → A7 → A8 → A9 → A10 → A11 → Option α} {k : (A0 → A1 → A2 → A3 → A4 → A5 → A6 → A7 → A8 → A9 → A10 → A11 → Option α) → Option β} {r : β} (h : evJ x k = some r) : ∃ y : A0 → A1 → A2 → A3 → A4 → A5 → A6 → A7 → A8 → A9 → A10 → A11 → Option α,(∀ a0 a1 a2 a3 a4 a5 a6 a7 a8 a9 a10 a11,y a0 a1 a2 a3 a4 a5 a6 a7 a8 a9 a10 a11 = x a0 a1 a2 a3 a4 a5 a6 a7 a8 a9 a10 a11) ∧ k y = some r := ⟨x,fun a0 a1 a2 a3 a4 a5 a6 a7 a8 a9 a10 a11 => rfl,h⟩

/-! ## Digits,least first -/
/-- The value of digits. -/
def vl : List Int → Int
  | [] => 0
  | a :: l => a + 65536 * vl l
/-- All are digits. -/
def dig (l : List Int) : Prop := ∀ a ∈ l,0 ≤ a ∧ a < 65536
/-- The digits of a number: no zero at the end. -/
def dg (n : Nat) : List Int := if h : n = 0 then [] else ((n % 65536 : Nat) : Int) :: dg (n / 65536)
termination_by n
decreasing_by omega
theorem dg_zero : dg 0 = [] := by rw [dg];rfl
theorem dg_pos {n : Nat} (h : n ≠ 0) : dg n = ((n % 65536 : Nat) : Int) :: dg (n / 65536) := by rw [dg,dif_neg h]
/-- The digits of a number that is not negative. -/
def dz (x : Int) : List Int := dg x.toNat

theorem vl_nonneg : ∀ {l : List Int},dig l → 0 ≤ vl l
  | [],_ => Int.le_refl 0
  | a :: l,h => by
    have h1 := h a List.mem_cons_self
    have h2 := vl_nonneg (l := l) fun b hb => h b (List.mem_cons_of_mem _ hb)
    simp only [vl];omega
theorem vl_dg (n : Nat) : vl (dg n) = n := by
  induction n using Nat.strongRecOn with
  | ind n ih =>
    by_cases h : n = 0
    · subst h;rw [dg_zero];rfl
    · rw [dg_pos h,vl,ih (n / 65536) (by omega)];omega
theorem dig_dg (n : Nat) : dig (dg n) := by
  induction n using Nat.strongRecOn with
  | ind n ih =>
    by_cases h : n = 0
    · subst h;rw [dg_zero];intro a ha;cases ha
    · rw [dg_pos h]
      intro a ha
      rcases List.mem_cons.1 ha with e | e
      · subst e;omega
      · exact ih (n / 65536) (by omega) a e
theorem vl_dz {x : Int} (h : 0 ≤ x) : vl (dz x) = x := by rw [dz,vl_dg];omega
theorem dig_dz (x : Int) : dig (dz x) := dig_dg _
theorem dz_nil {x : Int} (h : 0 ≤ x) : dz x = [] ↔ x = 0 := by
  refine ⟨fun e => ?_,fun e => by subst e;exact dg_zero⟩
  have := vl_dz h;rw [e] at this;exact this.symm
theorem dz_neg {x : Int} (h : x ≤ 0) : dz x = [] := by
  have : x.toNat = 0 := by omega
  rw [dz,this,dg_zero]
theorem dz_pos {x : Int} (h : 0 < x) : dz x = x % 65536 :: dz (x / 65536) := by
  rw [dz,dg_pos (by omega),dz]
  congr 1
  · omega
  · congr 1;omega

theorem vl_append : ∀ (l m : List Int),vl (l ++ m) = vl l + 65536 ^ l.length * vl m
  | [],m => by simp [vl]
  | a :: l,m => by
    simp only [List.cons_append,vl,vl_append l m,List.length_cons,Int.pow_succ]
    generalize vl m = v
    generalize (65536 : Int) ^ l.length = p
    rw [Int.mul_add,Int.mul_comm p 65536,Int.mul_assoc]
    omega
theorem dig_append {l m : List Int} (h1 : dig l) (h2 : dig m) : dig (l ++ m) := fun a ha => by
  rcases List.mem_append.1 ha with e | e
  · exact h1 a e
  · exact h2 a e
theorem dig_sub {l m : List Int} (h : dig m) (hs : ∀ a ∈ l,a ∈ m) : dig l := fun a ha => h a (hs a ha)
theorem dig_nil : dig [] := fun a ha => by cases ha
theorem dig_one {a : Int} (h : 0 ≤ a) (h' : a < 65536) : dig [a] := fun b hb => by
  rw [List.mem_singleton] at hb;subst hb;exact ⟨h,h'⟩
theorem vl_lt : ∀ {l : List Int},dig l → vl l < 65536 ^ l.length
  | [],_ => by simp [vl]
  | a :: l,h => by
    have h1 := h a List.mem_cons_self
    have h2 := vl_lt (l := l) fun b hb => h b (List.mem_cons_of_mem _ hb)
    simp only [vl,List.length_cons,Int.pow_succ]
    omega

/-- The digits of a value are those that one has,but for zeros at the end. -/
theorem dg_of : ∀ {l : List Int},dig l → (l = [] ∨ l.getLast? ≠ some 0) → dz (vl l) = l
  | [],_,_ => dz_neg (Int.le_refl 0)
  | a :: l,h,hl => by
    have h1 := h a List.mem_cons_self
    have hd : dig l := fun b hb => h b (List.mem_cons_of_mem _ hb)
    have h2 := vl_nonneg hd
    have hl' : l = [] ∨ l.getLast? ≠ some 0 := by
      rcases hl with e | e
      · cases e
      · cases l with
        | nil => exact Or.inl rfl
        | cons b l => right;rw [List.getLast?_cons_cons] at e;exact e
    have ih := dg_of hd hl'
    have hpos : 0 < vl (a :: l) := by
      simp only [vl]
      by_cases e : vl l = 0
      · have hn : l = [] := by rw [e] at ih;rw [← ih];exact dz_neg (Int.le_refl 0)
        subst hn
        rcases hl with e' | e'
        · cases e'
        · simp at e';omega
      · omega
    rw [dz_pos hpos]
    simp only [vl]
    have e1 : (a + 65536 * vl l) % 65536 = a := by omega
    have e2 : (a + 65536 * vl l) / 65536 = vl l := by omega
    rw [e1,e2,ih]
theorem dz_last {x : Int} : dz x = [] ∨ (dz x).getLast? ≠ some 0 := by
  by_cases hx : x ≤ 0
  · exact Or.inl (dz_neg hx)
  · right
    have hx' : 0 < x := by omega
    generalize hn : x.toNat = n
    induction n using Nat.strongRecOn generalizing x with
    | ind n ih =>
      rw [dz_pos hx']
      by_cases e : x / 65536 = 0
      · rw [e,dz_neg (Int.le_refl 0)]
        simp;omega
      · have hp : 0 < x / 65536 := by omega
        have := ih (x / 65536).toNat (by omega) (by omega) hp rfl
        rw [dz_pos hp] at this ⊢
        rw [List.getLast?_cons_cons];exact this
/-- Lists without a zero at the end. -/
def can (l : List Int) : Prop := dig l ∧ dz (vl l) = l
theorem can_dz (x : Int) : can (dz x) := ⟨dig_dz x,dg_of (dig_dz x) dz_last⟩
theorem can_nil : can [] := ⟨dig_nil,dz_neg (Int.le_refl 0)⟩
theorem can.nil_iff {l : List Int} (h : can l) : l = [] ↔ vl l = 0 := by
  refine ⟨fun e => by rw [e];rfl,fun e => ?_⟩
  rw [← h.2,e];exact dz_neg (Int.le_refl 0)

/-- Zeros at the end taken away. -/
def trimI (l : List Int) : List Int := dz (vl l)
theorem vl_snoc0 (l : List Int) : vl (l ++ [0]) = vl l := by rw [vl_append];simp [vl]

/-- More digits: a greater number. -/
theorem dz_len {x : Int} {k : Nat} (h : 0 ≤ x) (hk : x < 65536 ^ k) : (dz x).length ≤ k := by
  induction k generalizing x with
  | zero => have : x = 0 := by simp at hk; omega
            subst this;rw [dz_neg (Int.le_refl 0)];exact Nat.le_refl 0
  | succ k ih =>
    by_cases e : x = 0
    · subst e;rw [dz_neg (Int.le_refl 0)];exact Nat.zero_le _
    · rw [dz_pos (by omega),List.length_cons]
      have := ih (x := x / 65536) (by omega) (by rw [Int.pow_succ] at hk;omega)
      omega
theorem can.len_lt {a b : List Int} (ha : can a) (hb : can b) (h : a.length < b.length) : vl a < vl b := by
  have h1 := vl_lt ha.1
  have h2 := vl_nonneg hb.1
  by_cases e : vl b < 65536 ^ a.length
  · have := dz_len h2 e
    rw [hb.2] at this;omega
  · omega

/-! ## What the functions answer (by hand) -/
def slices_Clone_Sint_int.fn (a1 : List Int) : List Int := a1
abbrev slices_Clone_Sint_int.pre (a1 : List Int) : Prop := a1.length * 8 ≤ 140737488355328

/-- The number of the first element that holds,or -1. -/
def idxI {α : Type} (p : α → Bool) : List α → Int → Int
  | [],_ => -1
  | x :: l,i => if p x then i else idxI p l (i + 1)

def num_Fits.fn (a : Int) : Bool := decide (a ≥ -1048576) && decide (a ≤ 1048576)
def lin_Valid.fn (l : api_Lin) : Bool := l.1.all num_Fits.fn && (decide ((l.1.length : Int) ≤ 12) && num_Fits.fn l.2)
def cond_Valid.fn (c : api_Cond) : Bool :=
  if c.1 = 0 ∨ c.1 = 1 then (c.2.1 == 0) && lin_Valid.fn c.2.2
  else if c.1 = 2 then (decide (c.2.1 ≥ 1) && decide (c.2.1 ≤ 512)) && lin_Valid.fn c.2.2 else false
def farkas_asked_1.fn (c : api_Cond) : Bool := !(cond_Valid.fn c)
def farkas_asked_2.fn (c : api_Cond) (n : Int) : Bool := (c.2.2.1.length : Int) != n
def slices_IndexFunc_Sapi_Cond_api_Cond__farkas_asked_1.fn (l : List api_Cond) : Int := idxI farkas_asked_1.fn l 0
def slices_IndexFunc_Sapi_Cond_api_Cond__farkas_asked_2.fn (l : List api_Cond) (n : Int) : Int := idxI (fun c => farkas_asked_2.fn c n) l 0
def slices_ContainsFunc_Sapi_Cond_api_Cond__farkas_asked_1.fn (l : List api_Cond) : Bool := l.any farkas_asked_1.fn
def slices_ContainsFunc_Sapi_Cond_api_Cond__farkas_asked_2.fn (l : List api_Cond) (n : Int) : Bool := l.any fun c => farkas_asked_2.fn c n
def farkas_asked.fn (p : List api_Cond) (n : Int) : Int :=
  if n < 0 ∨ n > 12 then 6 else if (p.length : Int) > 96 then 3 else if p.any farkas_asked_1.fn then 1 else if p.any (fun c => farkas_asked_2.fn c n) then 2 else 0

/-- The sum of products. -/
def dotI : List Int → List Int → Int
  | a :: l,b :: m => a * b + dotI l m
  | _,_ => 0
def sgn (x : Int) : Int := if x < 0 then -1 else if 0 < x then 1 else 0

def farkas_Check_1.fn (c : api_Cond) (v : Int) : Int := gI c.2.2.1 v
abbrev farkas_Check_1.pre (c : api_Cond) (v : Int) : Prop := 0 ≤ v ∧ v < (c.2.2.1.length : Int)
def farkas_Check_2.fn (c : api_Cond) : Int := c.2.2.2
/-- Conditions that the sums take: few,their numbers small;the weights are numbers of 64 bits. -/
abbrev i64 (x : Int) : Prop := -9223372036854775808 ≤ x ∧ x ≤ 9223372036854775807
abbrev farkas_total__farkas_Check_1.pre (p : List api_Cond) (w : List Int) (v : Int) : Prop :=
  p.length ≤ 96 ∧ w.length = p.length ∧ (∀ x ∈ w,i64 x) ∧ ∀ c ∈ p,(0 ≤ v ∧ v < (c.2.2.1.length : Int)) ∧ num_Fits.fn (gI c.2.2.1 v) = true
def farkas_total__farkas_Check_1.fn (p : List api_Cond) (w : List Int) (v : Int) : Int := sgn (dotI (p.map fun c => gI c.2.2.1 v) w)
abbrev farkas_total__farkas_Check_2.pre (p : List api_Cond) (w : List Int) : Prop :=
  p.length ≤ 96 ∧ w.length = p.length ∧ (∀ x ∈ w,i64 x) ∧ ∀ c ∈ p,num_Fits.fn c.2.2.2 = true
def farkas_total__farkas_Check_2.fn (p : List api_Cond) (w : List Int) : Int := sgn (dotI (p.map fun c => c.2.2.2) w)

/-- Which weights are refused. -/
def badW (c : api_Cond) (w : Int) : Bool := ((c.1 == 0) && decide (w < 0)) || ((c.1 == 2) && (w != 0))
def badWs : List api_Cond → List Int → Bool
  | c :: p,w :: ws => badW c w || badWs p ws
  | _,_ => false
def farkas_Check.fn (p : List api_Cond) (n : Int) (w : List Int) : Bool × Int :=
  if farkas_asked.fn p n ≠ 0 then (false,farkas_asked.fn p n) else if (w.length : Int) ≠ p.length then (false,2) else if badWs p w then (false,0)
  else if (List.range n.toNat).any (fun v => dotI (p.map fun c => gI c.2.2.1 (v : Int)) w != 0) then (false,0) else (decide (dotI (p.map fun c => c.2.2.2) w < 0),0)
abbrev farkas_Check.pre (p : List api_Cond) (n : Int) (w : List Int) : Prop := ∀ x ∈ w,i64 x

def ref01_Coord.fn (a : Int) : Bool := decide (a ≥ -4294967296) && decide (a ≤ 4294967296)
def ref02_Point.fn (x : List Int) : Bool := x.all ref01_Coord.fn
abbrev ref02_Value.pre (l : api_Lin) (x : List Int) : Prop := lin_Valid.fn l = true ∧ x.length = l.1.length ∧ ref02_Point.fn x = true
def ref02_Value.fn (l : api_Lin) (x : List Int) : Int := l.2 + dotI l.1 x
abbrev ref03_Is.pre (c : api_Cond) (x : List Int) : Prop := cond_Valid.fn c = true ∧ x.length = c.2.2.1.length ∧ ref02_Point.fn x = true
def ref03_Is.fn (c : api_Cond) (x : List Int) : Bool :=
  if c.1 = 0 then decide (ref02_Value.fn c.2.2 x ≥ 0) else if c.1 = 1 then ref02_Value.fn c.2.2 x == 0 else Int.tmod (ref02_Value.fn c.2.2 x) c.2.1 == 0
abbrev ref04_In.pre (p : List api_Cond) (x : List Int) : Prop := ∀ c ∈ p,ref03_Is.pre c x
def ref04_In.fn (p : List api_Cond) (x : List Int) : Bool := p.all fun c => ref03_Is.fn c x

/-! ## Rows (package farkas) -/
/-- All numbers of a list are at most B in size. -/
abbrev inB (B : Int) (l : List Int) : Prop := ∀ x ∈ l,-B ≤ x ∧ x ≤ B
def farkas_vector_int_by.fn (v : List Int) (g : Int) : List Int := v.map fun x => Int.tdiv x g
abbrev farkas_vector_int_by.pre (v : List Int) (g : Int) : Prop := 1 ≤ g ∧ v.length ≤ 1048576 ∧ inB 4611686018427387904 v
def num_common.fn (a b : Int) : Int := (Nat.gcd a.natAbs b.natAbs : Nat)
abbrev num_common.pre (a b : Int) : Prop := 0 ≤ a ∧ 0 ≤ b
def num_size.fn (a : Int) : Int := (a.natAbs : Nat)
abbrev num_size.pre (a : Int) : Prop := i64 a
def num_Gcd_1.fn (a b : Int) : Int := (Nat.gcd a.natAbs b.natAbs : Nat)
abbrev num_Gcd_1.pre (a b : Int) : Prop := 0 ≤ a ∧ i64 b
def num_fold_uint64__num_Gcd_1.fn (l : List Int) (a : Int) : Int := l.foldl num_Gcd_1.fn a
abbrev num_fold_uint64__num_Gcd_1.pre (l : List Int) (a : Int) : Prop := 0 ≤ a ∧ ∀ x ∈ l,i64 x
def gcdL (l : List Int) : Int := l.foldl num_Gcd_1.fn 0
def num_Gcd.fn (l : List Int) : Int × Int := if gcdL l > 9223372036854775807 then (0,3) else (gcdL l,0)
abbrev num_Gcd.pre (l : List Int) : Prop := ∀ x ∈ l,i64 x
def farkas_row_reduced.fn (r : farkas_row) : farkas_row := if gcdL r.2 > 1 then (r.1,farkas_vector_int_by.fn r.2 (gcdL r.2)) else r
abbrev farkas_row_reduced.pre (r : farkas_row) : Prop := r.2.length ≤ 1048576 ∧ inB 4611686018427387904 r.2
def slices_Equal_farkas_vector_int_int.fn (a b : List Int) : Bool := a == b
def farkas_table_kept_1.fn (o : farkas_row) (eq : Bool) (v : List Int) (n : Int) (rows : List farkas_row) : Bool :=
  (o.1 == eq) && (o.2.take (Int.toNat (n + 1)) == v.take (Int.toNat (n + 1)))
abbrev farkas_table_kept_1.pre (o : farkas_row) (eq : Bool) (v : List Int) (n : Int) (rows : List farkas_row) : Prop :=
  0 ≤ n ∧ n ≤ 1048576 ∧ n + 1 ≤ (o.2.length : Int) ∧ n + 1 ≤ (v.length : Int)
abbrev slices_IndexFunc_Sfarkas_row_farkas_row__farkas_table_kept_1.pre (l : List farkas_row) (eq : Bool) (v : List Int) (n : Int) (rows : List farkas_row) : Prop := ∀ o ∈ l,farkas_table_kept_1.pre o eq v n rows
def slices_IndexFunc_Sfarkas_row_farkas_row__farkas_table_kept_1.fn (l : List farkas_row) (eq : Bool) (v : List Int) (n : Int) (rows : List farkas_row) : Int := idxI (fun o => farkas_table_kept_1.fn o eq v n rows) l 0
abbrev slices_ContainsFunc_Sfarkas_row_farkas_row__farkas_table_kept_1.pre (l : List farkas_row) (eq : Bool) (v : List Int) (n : Int) (rows : List farkas_row) : Prop := ∀ o ∈ l,farkas_table_kept_1.pre o eq v n rows
def slices_ContainsFunc_Sfarkas_row_farkas_row__farkas_table_kept_1.fn (l : List farkas_row) (eq : Bool) (v : List Int) (n : Int) (rows : List farkas_row) : Bool := l.any fun o => farkas_table_kept_1.fn o eq v n rows
def farkas_table_kept_2.fn (x : Int) : Bool := decide (x < -1073741824) || decide (x > 1073741824)
def slices_IndexFunc_farkas_vector_int_int__farkas_table_kept_2.fn (l : List Int) : Int := idxI farkas_table_kept_2.fn l 0
def slices_ContainsFunc_farkas_vector_int_int__farkas_table_kept_2.fn (l : List Int) : Bool := l.any farkas_table_kept_2.fn
/-- A row more,if it is not there. -/
def addRow (n : Int) (out : List farkas_row) (r : farkas_row) : List farkas_row :=
  if slices_ContainsFunc_Sfarkas_row_farkas_row__farkas_table_kept_1.fn out r.1 r.2 n [] then out else out ++ [r]
def dedupR (n : Int) (l : List farkas_row) : List farkas_row := l.foldl (fun out r => addRow n out (farkas_row_reduced.fn r)) []
def farkas_table_kept.fn (t : farkas_table) (l : List farkas_row) : farkas_table × Int :=
  if ((dedupR t.1 l).length : Int) > 400 then ((0,[]),3)
  else if (dedupR t.1 l).any (fun r => r.2.any farkas_table_kept_2.fn) then ((0,[]),3) else ((t.1,dedupR t.1 l),0)
/-- Rows of L numbers of at most B. -/
abbrev rowsB (B : Int) (L : Nat) (l : List farkas_row) : Prop := ∀ r ∈ l,r.2.length = L ∧ inB B r.2
abbrev farkas_table_kept.pre (t : farkas_table) (l : List farkas_row) : Prop :=
  0 ≤ t.1 ∧ l.length ≤ 1048576 ∧ ∃ L : Nat,t.1 + 1 ≤ (L : Int) ∧ L ≤ 1048576 ∧ rowsB 4611686018427387904 L l
def absI (x : Int) : Int := if -x > x then -x else x
/-- The index of the first Eq row with the least coefficient. -/
def solveI : List (Bool × Int) → Int → Int → Int → Int
  | [],_,best,_ => best
  | r :: l,i,best,a =>
    if (r.1 && (r.2 != 0)) && (decide (best < 0) || decide (absI r.2 < a)) then solveI l (i + 1) i (absI r.2) else solveI l (i + 1) best a
def farkas_table_solver.fn (t : farkas_table) (v : Int) : Int := solveI (t.2.map fun r => (r.1,gI r.2 v)) 0 (-1) 0
abbrev farkas_table_solver.pre (t : farkas_table) (v : Int) : Prop := 0 ≤ v ∧ ∃ L : Nat,v < (L : Int) ∧ rowsB 1073741824 L t.2
def farkas_vector_int_sum.fn (x : List Int) (a b : Int) (y : List Int) : List Int := List.zipWith (fun p q => a * p + b * q) x y
abbrev farkas_vector_int_sum.pre (x : List Int) (a b : Int) (y : List Int) : Prop :=
  x.length = y.length ∧ x.length ≤ 1048576 ∧ inB 1073741824 x ∧ inB 1073741824 y ∧ (-1073741824 ≤ a ∧ a ≤ 1073741824) ∧ (-1073741824 ≤ b ∧ b ≤ 1073741824)
/-- Lists out of the elements of a list and their places,one after the other. -/
def gather {α β : Type} (f : Nat → α → List β) : List α → Nat → List β
  | [],_ => []
  | x :: l,i => f i x ++ gather f l (i + 1)
def wEq (v k : Int) (e : farkas_row) (i : Nat) (r : farkas_row) : List farkas_row :=
  if (i : Int) = k then [] else if gI r.2 v = 0 then [r]
  else [(r.1,farkas_vector_int_sum.fn r.2 (if gI e.2 v < 0 then -(gI e.2 v) else gI e.2 v) (-(if gI e.2 v < 0 then (-1 : Int) else 1) * gI r.2 v) e.2)]
def wPair (v : Int) (l u : farkas_row) : List farkas_row :=
  if gI l.2 v > 0 ∧ gI u.2 v < 0 then [(false,farkas_vector_int_sum.fn l.2 (-(gI u.2 v)) (gI l.2 v) u.2)] else []
def wIneq (v : Int) (l : List farkas_row) : List farkas_row := (l.filter fun r => gI r.2 v == 0) ++ l.flatMap fun x => l.flatMap fun y => wPair v x y
def farkas_table_without.fn (t : farkas_table) (v : Int) : farkas_table × Int :=
  if farkas_table_solver.fn t v ≥ 0 then farkas_table_kept.fn t (gather (wEq v (farkas_table_solver.fn t v) (t.2.getD (farkas_table_solver.fn t v).toNat d_farkas_row)) t.2 0)
  else farkas_table_kept.fn t (wIneq v t.2)
/-- A table whose rows have L numbers. -/
abbrev tabB (L : Nat) (t : farkas_table) : Prop := (0 ≤ t.1 ∧ t.1 + 1 ≤ (L : Int) ∧ L ≤ 1048576) ∧ t.2.length ≤ 400 ∧ rowsB 1073741824 L t.2
abbrev farkas_table_without.pre (t : farkas_table) (v : Int) : Prop := 0 ≤ v ∧ v < t.1 ∧ ∃ L : Nat,tabB L t
/-- The row of a condition. -/
def firstRow (n m : Nat) (i : Nat) (c : api_Cond) : List farkas_row :=
  if c.1 = 2 then [] else [(c.1 == 1,c.2.2.1 ++ c.2.2.2 :: (List.replicate m 0).set i 1)]
def farkas_first.fn (p : List api_Cond) (n : Int) : farkas_table := (n,gather (firstRow n.toNat p.length) p 0)
abbrev farkas_first.pre (p : List api_Cond) (n : Int) : Prop := farkas_asked.fn p n = 0
def elimAll (t : farkas_table) : Nat → List farkas_table × Int
  | 0 => ([t],0)
  | v + 1 => if (farkas_table_without.fn t v).2 ≠ 0 then ([],(farkas_table_without.fn t v).2)
    else if (elimAll (farkas_table_without.fn t v).1 v).2 ≠ 0 then ([],(elimAll (farkas_table_without.fn t v).1 v).2)
    else ((elimAll (farkas_table_without.fn t v).1 v).1 ++ [t],0)
def farkas_eliminated.fn (p : List api_Cond) (n : Int) : List farkas_table × Int := elimAll (farkas_first.fn p n) n.toNat
abbrev farkas_eliminated.pre (p : List api_Cond) (n : Int) : Prop := farkas_asked.fn p n = 0
def refuteL (n : Int) : List farkas_row → List Int × Bool
  | [] => ([],false)
  | r :: l => if gI r.2 n ≥ 0 ∧ (r.1 = false ∨ gI r.2 n = 0) then refuteL n l
    else (if gI r.2 n > 0 then (r.2.drop (Int.toNat (n + 1))).map (fun x => -x) else r.2.drop (Int.toNat (n + 1)),true)
def farkas_table_refuted.fn (t : farkas_table) : List Int × Bool := refuteL t.1 t.2
abbrev farkas_table_refuted.pre (t : farkas_table) : Prop := ∃ L : Nat,tabB L t
def farkas_Prove.fn (p : List api_Cond) (n : Int) : List Int × Int :=
  if farkas_asked.fn p n ≠ 0 then ([],farkas_asked.fn p n)
  else if (farkas_eliminated.fn p n).2 ≠ 0 then ([],(farkas_eliminated.fn p n).2)
  else if (farkas_table_refuted.fn ((farkas_eliminated.fn p n).1.getD 0 d_farkas_table)).2 then ((farkas_table_refuted.fn ((farkas_eliminated.fn p n).1.getD 0 d_farkas_table)).1,0) else ([],5)

/-! ## Rational points (package farkas) -/
def farkas_size.fn (a : Int) : Int := (a.natAbs : Nat)
abbrev farkas_size.pre (a : Int) : Prop := i64 a
def math_bits_Mul64.fn (a b : Int) : Int × Int := (a * b / 18446744073709551616,a * b % 18446744073709551616)
abbrev math_bits_Mul64.pre (a b : Int) : Prop := (0 ≤ a ∧ a < 18446744073709551616) ∧ 0 ≤ b ∧ b < 18446744073709551616
def farkas_fraction_less.fn (a b : farkas_fraction) : Bool := decide (a.1 * b.2 < b.1 * a.2)
abbrev farkas_fraction_less.pre (a b : farkas_fraction) : Prop := (i64 a.1 ∧ i64 b.1) ∧ (0 < a.2 ∧ a.2 ≤ 9223372036854775807) ∧ 0 < b.2 ∧ b.2 ≤ 9223372036854775807
def farkas_point_bound.fn (p : farkas_point) (r : farkas_row) (n : Int) : farkas_fraction :=
  if gI r.2 p.1.length < 0 then (gI r.2 n * p.2 + dotI r.2 p.1,-(gI r.2 p.1.length)) else (-(gI r.2 n * p.2 + dotI r.2 p.1),gI r.2 p.1.length)
/-- A point as it may stand between two variables. -/
abbrev ptB (p : farkas_point) : Prop := p.1.length ≤ 12 ∧ inB 268435456 p.1 ∧ 1 ≤ p.2 ∧ p.2 ≤ 268435456
abbrev farkas_point_bound.pre (p : farkas_point) (r : farkas_row) (n : Int) : Prop := ptB p ∧ (0 ≤ n ∧ n < (r.2.length : Int)) ∧ p.1.length < r.2.length ∧ inB 1073741824 r.2
def valueL (p : farkas_point) (n : Int) : List farkas_row → Option farkas_fraction → Option farkas_fraction → farkas_fraction
  | [],some f,_ => f
  | [],none,some f => f
  | [],none,none => (0,1)
  | r :: l,low,high =>
    if gI r.2 p.1.length = 0 then valueL p n l low high
    else if r.1 then farkas_point_bound.fn p r n
    else if gI r.2 p.1.length > 0 then
      valueL p n l (match low with | none => some (farkas_point_bound.fn p r n) | some f => if farkas_fraction_less.fn f (farkas_point_bound.fn p r n) then some (farkas_point_bound.fn p r n) else some f) high
    else valueL p n l low (match high with | none => some (farkas_point_bound.fn p r n) | some f => if farkas_fraction_less.fn (farkas_point_bound.fn p r n) f then some (farkas_point_bound.fn p r n) else some f)
def farkas_point_value.fn (p : farkas_point) (t : farkas_table) : farkas_fraction := valueL p t.1 t.2 none none
abbrev farkas_point_value.pre (p : farkas_point) (t : farkas_table) : Prop := ptB p ∧ ∃ L : Nat,tabB L t ∧ (p.1.length : Int) < t.1
/-- A fraction times 1 over a number,in lowest terms. -/
def lowN (f : farkas_fraction) (e : Int) : Int := Int.tdiv (Int.tdiv f.1 (gcdL [f.1,f.2])) (gcdL [Int.tdiv f.1 (gcdL [f.1,f.2]),e])
def lowD (f : farkas_fraction) (e : Int) : Int := Int.tdiv e (gcdL [Int.tdiv f.1 (gcdL [f.1,f.2]),e]) * Int.tdiv f.2 (gcdL [f.1,f.2])
def lcmI (a b : Int) : Int := Int.tdiv b (gcdL [a,b]) * a
def bigI (x : Int) : Bool := decide (x > 268435456) || decide (x < -268435456)
def farkas_point_with.fn (p : farkas_point) (f : farkas_fraction) : farkas_point × Int :=
  if (decide (Int.tdiv f.2 (gcdL [f.1,f.2]) > 268435456) || decide (lowD f p.2 > 268435456)) then (([],0),3)
  else if lcmI (lowD f p.2) p.2 > 268435456 then (([],0),3)
  else if bigI (lowN f p.2) then (([],0),3)
  else if (p.1.map (fun x => x * Int.tdiv (lcmI (lowD f p.2) p.2) p.2) ++ [lowN f p.2 * Int.tdiv (lcmI (lowD f p.2) p.2) (lowD f p.2)]).any bigI then (([],0),3)
  else ((p.1.map (fun x => x * Int.tdiv (lcmI (lowD f p.2) p.2) p.2) ++ [lowN f p.2 * Int.tdiv (lcmI (lowD f p.2) p.2) (lowD f p.2)],lcmI (lowD f p.2) p.2),0)
abbrev farkas_point_with.pre (p : farkas_point) (f : farkas_fraction) : Prop := ptB p ∧ (-4611686018427387904 ≤ f.1 ∧ f.1 ≤ 4611686018427387904) ∧ 1 ≤ f.2 ∧ f.2 ≤ 1073741824
def innerL (ts : List farkas_table) : Nat → Nat → farkas_point → List Int × Int × Int
  | 0,_,a => (a.1,a.2,0)
  | m + 1,v,a =>
    if (farkas_point_with.fn a (farkas_point_value.fn a (ts.getD (v + 1) d_farkas_table))).2 ≠ 0 then ([],0,(farkas_point_with.fn a (farkas_point_value.fn a (ts.getD (v + 1) d_farkas_table))).2)
    else innerL ts m (v + 1) (farkas_point_with.fn a (farkas_point_value.fn a (ts.getD (v + 1) d_farkas_table))).1
def farkas_Inner.fn (p : List api_Cond) (n : Int) : List Int × Int × Int :=
  if farkas_asked.fn p n ≠ 0 then ([],0,farkas_asked.fn p n)
  else if (farkas_eliminated.fn p n).2 ≠ 0 then ([],0,(farkas_eliminated.fn p n).2)
  else if (farkas_table_refuted.fn ((farkas_eliminated.fn p n).1.getD 0 d_farkas_table)).2 then ([],0,5)
  else innerL (farkas_eliminated.fn p n).1 n.toNat 0 ([],1)

/-! ## Whole numbers of any size (the document's answer) -/
def ref01_Fits.fn (a : Int) : Bool := num_Fits.fn a
def ref02_Valid.fn (l : api_Lin) : Bool := lin_Valid.fn l
def ref03_Valid.fn (c : api_Cond) : Bool := cond_Valid.fn c
def ref09_asked.fn (p : List api_Cond) (n : Int) : Int := farkas_asked.fn p n
def ref09_trim.fn (d : List Int) : List Int := dz (vl d)
abbrev ref09_trim.pre (d : List Int) : Prop := dig d ∧ d.length ≤ 4611686018427387904
def ref09_Of.fn (n : Int) : ref09_Int := (decide (n < 0),dg n.natAbs)
abbrev ref09_Of.pre (n : Int) : Prop := i64 n
def ref09_Int_Sign.fn (x : ref09_Int) : Int := if x.2 = [] then 0 else if x.1 = true then -1 else 1
def ref09_order.fn (a b : List Int) : Int := sgn (vl a - vl b)
abbrev ref09_order.pre (a b : List Int) : Prop := can a ∧ can b
def ref09_plus.fn (a b : List Int) : List Int := dz (vl a + vl b)
abbrev ref09_plus.pre (a b : List Int) : Prop := (dig a ∧ dig b) ∧ a.length ≤ 1099511627776 ∧ b.length ≤ 1099511627776
def ref09_minus.fn (a b : List Int) : List Int := dz (vl a - vl b)
abbrev ref09_minus.pre (a b : List Int) : Prop := (dig a ∧ dig b) ∧ a.length ≤ 1099511627776 ∧ b.length ≤ a.length ∧ vl b ≤ vl a
abbrev ref09_Int_Add.pre (x y : ref09_Int) : Prop := (can x.2 ∧ can y.2) ∧ x.2.length ≤ 1099511627776 ∧ y.2.length ≤ 1099511627776
def ref09_Int_Add.fn (x y : ref09_Int) : ref09_Int :=
  if x.1 = y.1 then (x.1,dz (vl x.2 + vl y.2)) else if vl x.2 ≥ vl y.2 then (x.1,dz (vl x.2 - vl y.2)) else (y.1,dz (vl y.2 - vl x.2))
abbrev ref09_Int_Mul.pre (x y : ref09_Int) : Prop := dig x.2 ∧ dig y.2 ∧ x.2.length ≤ 1073741824 ∧ y.2.length ≤ 1073741824
def ref09_Int_Mul.fn (x y : ref09_Int) : ref09_Int := (x.1 != y.1,dz (vl x.2 * vl y.2))
/-- What is added up in a place: the coefficients of a variable,or the constants. -/
def plc (n v : Nat) (c : api_Cond) : Int := if v < n then gI c.2.2.1 (v : Int) else c.2.2.2
/-- The number that a sign and digits mean. -/
def iv (x : ref09_Int) : Int := if x.1 = true then -(vl x.2) else vl x.2
def ref09_Int_Abs.fn (x : ref09_Int) : ref09_Int := (false,x.2)
def ref09_Int_Neg.fn (x : ref09_Int) : ref09_Int := (!x.1,x.2)
/-- Digits of a number,not too many. -/
abbrev canL (x : ref09_Int) : Prop := can x.2 ∧ x.2.length ≤ 1048576
abbrev ref09_Int_Cmp.pre (x y : ref09_Int) : Prop := (can x.2 ∧ can y.2) ∧ x.2.length ≤ 1099511627776 ∧ y.2.length ≤ 1099511627776
def ref09_Int_Cmp.fn (x y : ref09_Int) : Int := sgn (iv x - iv y)
abbrev ref09_Int_Quo.pre (x y : ref09_Int) : Prop := canL x ∧ canL y ∧ y.1 = false ∧ 0 < vl y.2
def ref09_Int_Quo.fn (x y : ref09_Int) : ref09_Int × ref09_Int := ((false,dz (vl x.2 / vl y.2)),(false,dz (vl x.2 % vl y.2)))
abbrev ref09_Gcd.pre (x y : ref09_Int) : Prop := canL x ∧ canL y
def ref09_Gcd.fn (x y : ref09_Int) : ref09_Int := (false,dg (Nat.gcd (vl x.2).toNat (vl y.2).toNat))
abbrev ref09_Int_Over.pre (x y : ref09_Int) : Prop := canL x ∧ canL y ∧ y.1 = false ∧ 0 < vl y.2
def ref09_Int_Over.fn (x y : ref09_Int) : ref09_Int := (x.1,dz (vl x.2 / vl y.2))
abbrev ref09_Int_Small.pre (x : ref09_Int) : Prop := canL x
def ref09_Int_Small.fn (x : ref09_Int) : Int × Bool := if vl x.2 > 268435456 then (0,false) else (iv x,true)
/-! ## Ratios -/
abbrev ref09_RatioOf.pre (a b : ref09_Int) : Prop := canL a ∧ canL b ∧ vl b.2 ≠ 0
def ratioS (a b : ref09_Int) : ref09_Ratio := (ref09_Int_Over.fn a (ref09_Gcd.fn a b),ref09_Int_Over.fn b (ref09_Gcd.fn a b))
def ref09_RatioOf.fn (a b : ref09_Int) : ref09_Ratio := if b.1 = true then ratioS (ref09_Int_Neg.fn a) (ref09_Int_Neg.fn b) else ratioS a b
abbrev goodR (x : ref09_Ratio) : Prop := (can x.1.2 ∧ can x.2.2) ∧ (x.1.2.length ≤ 262144 ∧ x.2.2.length ≤ 262144) ∧ x.2.1 = false ∧ 0 < vl x.2.2
abbrev ref09_Ratio_Mul.pre (x y : ref09_Ratio) : Prop := goodR x ∧ goodR y
def ref09_Ratio_Mul.fn (x y : ref09_Ratio) : ref09_Ratio := ref09_RatioOf.fn (ref09_Int_Mul.fn x.1 y.1) (ref09_Int_Mul.fn x.2 y.2)
abbrev ref09_Ratio_Add.pre (x y : ref09_Ratio) : Prop := goodR x ∧ goodR y
def ref09_Ratio_Add.fn (x y : ref09_Ratio) : ref09_Ratio := ref09_RatioOf.fn (ref09_Int_Add.fn (ref09_Int_Mul.fn x.1 y.2) (ref09_Int_Mul.fn y.1 x.2)) (ref09_Int_Mul.fn x.2 y.2)
abbrev ref09_Ratio_Cmp.pre (x y : ref09_Ratio) : Prop := goodR x ∧ goodR y
def ref09_Ratio_Cmp.fn (x y : ref09_Ratio) : Int := ref09_Int_Cmp.fn (ref09_Int_Mul.fn x.1 y.2) (ref09_Int_Mul.fn y.1 x.2)
abbrev ref09_Check.pre (p : List api_Cond) (n : Int) (w : List Int) : Prop := ∀ x ∈ w,i64 x
def ref09_Check.fn (p : List api_Cond) (n : Int) (w : List Int) : Bool × Int := farkas_Check.fn p n w
/-! ## Rows of the document's answer -/
/-- A row as the code keeps it,and back. -/
def toF (r : ref09_Row) : farkas_row := (r.2.1,r.1.1 ++ r.1.2 :: r.2.2)
def ofF (n : Nat) (r : farkas_row) : ref09_Row := ((r.2.take n,r.2.getD n 0),r.1,r.2.drop (n + 1))
def ref09_Row_numbers.fn (r : ref09_Row) : List Int := r.1.1 ++ r.1.2 :: r.2.2
abbrev ref09_Row_numbers.pre (r : ref09_Row) : Prop := (toF r).2.length ≤ 1048576
def ref01_size.fn (a : Int) : Int := (a.natAbs : Nat)
abbrev ref01_size.pre (a : Int) : Prop := i64 a
def ref01_Gcd.fn (l : List Int) : Int × Int := num_Gcd.fn l
abbrev ref01_Gcd.pre (l : List Int) : Prop := ∀ x ∈ l,i64 x
def ref09_mix.fn (a : Int) (r : ref09_Row) (b : Int) (s : ref09_Row) : ref09_Row := ofF r.1.1.length (farkas_row_reduced.fn (r.2.1,farkas_vector_int_sum.fn (toF r).2 a b (toF s).2))
abbrev ref09_mix.pre (a : Int) (r : ref09_Row) (b : Int) (s : ref09_Row) : Prop := farkas_vector_int_sum.pre (toF r).2 a b (toF s).2
def ref09_same.fn (a b : ref09_Row) : Bool := ((a.2.1 == b.2.1) && (a.1.2 == b.1.2)) && (a.1.1 == b.1.1)
abbrev ref09_same.pre (a b : ref09_Row) : Prop := a.1.1.length = b.1.1.length
/-- A row of N coefficients and L numbers of at most 2^30,which have nothing in common. -/
abbrev rowR (N L : Nat) (r : ref09_Row) : Prop := (r.1.1.length = N ∧ (toF r).2.length = L) ∧ inB 1073741824 (toF r).2 ∧ farkas_row_reduced.fn (toF r) = toF r
abbrev ref09_Eliminate.pre (rows : List ref09_Row) (v : Int) : Prop := 0 ≤ v ∧ ∃ N L : Nat,(v < (N : Int) ∧ N + 1 ≤ L ∧ L ≤ 1048576) ∧ rows.length ≤ 400 ∧ ∀ r ∈ rows,rowR N L r
/-- How many coefficients rows have. -/
def nOf (rows : List ref09_Row) : Nat := match rows with | [] => 0 | r :: _ => r.1.1.length
def ref09_Eliminate.fn (rows : List ref09_Row) (v : Int) : List ref09_Row × Int :=
  ((farkas_table_without.fn (nOf rows,rows.map toF) v).1.2.map (ofF (nOf rows)),(farkas_table_without.fn (nOf rows,rows.map toF) v).2)
def refuteR : List ref09_Row → List Int × Bool
  | [] => ([],false)
  | r :: l => if r.1.2 < 0 then (r.2.2,true) else if (r.2.1 && decide (r.1.2 > 0)) then (r.2.2.map (fun x => -x),true) else refuteR l
def ref09_refuted.fn (rows : List ref09_Row) : List Int × Bool := refuteR rows
abbrev ref09_refuted.pre (rows : List ref09_Row) : Prop := ∀ r ∈ rows,r.2.2.length ≤ 1048576 ∧ inB 1073741824 r.2.2
def ref09_stack.fn (p : List api_Cond) (n : Int) : List (List ref09_Row) × List ref09_Row × Int :=
  if (farkas_eliminated.fn p n).2 ≠ 0 then ([],[],(farkas_eliminated.fn p n).2)
  else (((farkas_eliminated.fn p n).1.drop 1).map (fun t => t.2.map (ofF n.toNat)),((farkas_eliminated.fn p n).1.getD 0 d_farkas_table).2.map (ofF n.toNat),0)
abbrev ref09_stack.pre (p : List api_Cond) (n : Int) : Prop := farkas_asked.fn p n = 0
def ref09_Prove.fn (p : List api_Cond) (n : Int) : List Int × Int := farkas_Prove.fn p n

/-! ## Sets -/
def set_over.fn (p : List api_Cond) (n : Int) : Bool := p.all fun c => cond_Valid.fn c && ((c.2.2.1.length : Int) == n)
def set_Valid.fn (s : api_Set) : Bool :=
  !((decide (s.1 < 0) || decide (s.1 > 12)) || decide ((s.2.length : Int) > 400)) && s.2.all fun p => !(decide ((p.length : Int) > 96)) && set_over.fn p s.1
def ref04_Valid.fn (s : api_Set) : Bool := set_Valid.fn s
def emptyL (n : Int) : List (List api_Cond) → List (List Int) × Int
  | [] => ([],0)
  | p :: l => if (farkas_Prove.fn p n).2 ≠ 0 then ([],(farkas_Prove.fn p n).2) else if (emptyL n l).2 ≠ 0 then ([],(emptyL n l).2) else ((farkas_Prove.fn p n).1 :: (emptyL n l).1,0)
def farkas_Empty.fn (s : api_Set) : List (List Int) × Int := if set_Valid.fn s then emptyL s.1 s.2 else ([],1)
def ref09_Empty.fn (s : api_Set) : List (List Int) × Int := farkas_Empty.fn s
/-- How many pieces sets have. -/
def piecesOf (l : List api_Set) : Nat := (l.map fun s => s.2.length).sum
def law04_Few.fn (a b : Int) (l : List api_Set) : Bool := (l.all fun s => s.2.all fun p => decide ((p.length : Int) ≤ b)) && decide ((piecesOf l : Int) ≤ a)
abbrev law04_Few.pre (a b : Int) (l : List api_Set) : Prop := piecesOf l ≤ 9223372036854775807
def cmpL : List Int → List Int → Int
  | a :: l,b :: m => if a < b then -1 else if a > b then 1 else cmpL l m
  | _,_ => 0
def ref02_Order.fn (a b : List Int) : Int := cmpL a b
abbrev ref02_Order.pre (a b : List Int) : Prop := a.length ≤ b.length
def law09_list.fn (a b : List Int) : Bool := ((a.length : Int) == (b.length : Int)) && (cmpL a b == 0)
abbrev law09_FarkasEmpty.pre (s : api_Set) : Prop := s.2.length ≤ 9223372036854775807
def law09_FarkasEmpty.fn (s : api_Set) : Bool := true
/-- The value of a row at a point,times its denominator. -/
def rowS (a : farkas_point) (n : Int) (r : farkas_row) : Int := gI r.2 n * a.2 + dotI r.2 a.1
/-! ## The point of the document's answer -/
def sumR (C : List Int) : List ref09_Ratio → Nat → ref09_Ratio → ref09_Ratio
  | [],_,s => s
  | y :: l,i,s => sumR C l (i + 1) (ref09_Ratio_Add.fn s (ref09_Ratio_Mul.fn y (ref09_Of.fn (C.getD i 0),ref09_Of.fn 1)))
def atR (v : Int) (x : List ref09_Ratio) (r : ref09_Row) : ref09_Ratio :=
  ref09_Ratio_Mul.fn (sumR r.1.1 x 0 (ref09_Of.fn r.1.2,ref09_Of.fn 1)) (ref09_RatioOf.fn (ref09_Of.fn (-1)) (ref09_Of.fn (gI r.1.1 v)))
def valueR (v : Int) (x : List ref09_Ratio) : List ref09_Row → Option ref09_Ratio → Option ref09_Ratio → ref09_Ratio
  | [],some f,_ => f
  | [],none,some f => f
  | [],none,none => (ref09_Of.fn 0,ref09_Of.fn 1)
  | r :: l,low,high =>
    if gI r.1.1 v = 0 then valueR v x l low high
    else if r.2.1 then atR v x r
    else if gI r.1.1 v > 0 then valueR v x l (match low with | none => some (atR v x r) | some f => if ref09_Ratio_Cmp.fn (atR v x r) f > 0 then some (atR v x r) else some f) high
    else valueR v x l low (match high with | none => some (atR v x r) | some f => if ref09_Ratio_Cmp.fn (atR v x r) f < 0 then some (atR v x r) else some f)
def ref09_value__own.fn (rows : List ref09_Row) (v : Int) (x : List ref09_Ratio) : ref09_Ratio := valueR v x rows none none
/-- A ratio in lowest terms,of small numbers,that is a number over another one. -/
def isR (y : ref09_Ratio) (p q : Int) : Prop := ((can y.1.2 ∧ can y.2.2) ∧ y.2.1 = false ∧ 0 < vl y.2.2) ∧ Nat.gcd (vl y.1.2).toNat (vl y.2.2).toNat = 1 ∧ iv y.1 * q = p * vl y.2.2
/-- The values so far,as ratios and over one denominator. -/
def relX (a : farkas_point) (x : List ref09_Ratio) : Prop := x.length = a.1.length ∧ ∀ i,i < x.length → isR (x.getD i d_ref09_Ratio) (a.1.getD i 0) a.2
def ref09_value__own.pre (rows : List ref09_Row) (v : Int) (x : List ref09_Ratio) : Prop :=
  ∃ (a : farkas_point) (N L : Nat),ptB a ∧ relX a x ∧ v = (a.1.length : Int) ∧ (v < (N : Int) ∧ N + 1 ≤ L ∧ L ≤ 1048576) ∧ ∀ r ∈ rows,rowR N L r
def ref09_Inner.fn (p : List api_Cond) (n : Int) : List Int × Int × Int := farkas_Inner.fn p n
def law09_light.fn (p : List api_Cond) (m : Int) : Bool := decide ((p.length : Int) ≤ m) || (decide ((p.length : Int) > 96) && decide ((p.length : Int) ≤ 100))
def law09_FarkasProves.fn (p : List api_Cond) (n : Int) : Bool := true
def law09_FarkasReduced.fn (p : List api_Cond) (n : Int) : Bool := true
def law09_FarkasOne.fn (p : List api_Cond) (n : Int) : Bool := true
abbrev law09_FarkasChecks.pre (p : List api_Cond) (n : Int) (w : List Int) : Prop := ∀ y ∈ w,i64 y
def law09_FarkasChecks.fn (p : List api_Cond) (n : Int) (w : List Int) : Bool := true

abbrev law09_FarkasRefuted.pre (p : List api_Cond) (n : Int) (w x : List Int) : Prop := ∀ y ∈ w,i64 y
def law09_FarkasRefuted.fn (p : List api_Cond) (n : Int) (w x : List Int) : Bool := true

def law09_ge.ev (a1 : Int) (a2 : (List Int)) : Option (api_Cond) :=
  some (0,0,(a2,a1))
def law09_ge.fn (a1 : Int) (a2 : (List Int)) : api_Cond := (law09_ge.ev a1 a2).getD d_api_Cond
abbrev law09_ge.pre (a1 : Int) (a2 : (List Int)) : Prop := (law09_ge.ev a1 a2).isSome = true

def law09_awake.ev : Option (Bool) :=
  (law09_ge.ev (-3) [1]).bind fun y1 =>
  (law09_ge.ev (2 : Int) [(-1)]).bind fun y2 =>
  evJ ((farkas_Prove.fn [y1,y2] (1 : Int)) : (List Int) × Int) fun (x1 : (List Int) × Int) =>
  evJ (x1.1 : (List Int)) fun (x2 : (List Int)) =>
  evJ (x1.2 : Int) fun (x3 : Int) =>
  evJ ((farkas_Prove.fn [(1,0,([2],(-1)))] (1 : Int)) : (List Int) × Int) fun (x4 : (List Int) × Int) =>
  evJ (x4.2 : Int) fun (x5 : Int) =>
  evJ ((farkas_Inner.fn [(1,0,([2],(-1)))] (1 : Int)) : (List Int) × Int × Int) fun (x6 : (List Int) × Int × Int) =>
  evJ (x6.1 : (List Int)) fun (x7 : (List Int)) =>
  evJ (x6.2.1 : Int) fun (x8 : Int) =>
  evJ (x6.2.2 : Int) fun (x9 : Int) =>
  (law09_ge.ev (0 : Int) [1,(-1)]).bind fun y3 =>
  (law09_ge.ev (-1) [(-1),1]).bind fun y4 =>
  evJ ((farkas_Prove.fn [y3,y4] (2 : Int)) : (List Int) × Int) fun (x10 : (List Int) × Int) =>
  evJ (x10.1 : (List Int)) fun (x11 : (List Int)) =>
  evJ (x10.2 : Int) fun (x12 : Int) =>
  some ((((((((x3 == (0 : Int)) && (law09_list.fn x2 [1,1])) && (x5 == (5 : Int))) && (x9 == (0 : Int))) && (law09_list.fn x7 [1])) && (x8 == (2 : Int))) && (x12 == (0 : Int))) && (law09_list.fn x11 [1,1]))
def law09_awake.fn : Bool := (law09_awake.ev).getD false
abbrev law09_awake.pre : Prop := (law09_awake.ev).isSome = true

def num_Fits.wp (a1 : Int) (Q : Bool → Prop) : Prop :=
  Q ((decide (a1 ≥ (-1048576))) && (decide (a1 ≤ (1048576 : Int))))

def lin_Valid.wp (a1 : api_Lin) (Q : Bool → Prop) : Prop :=
  ∀ (_ : a1.1.length ≤ 9223372036854775807),
  ∃ I4 : Nat → Int → Prop,
  (∃ n,I4 n (0 : Int)) ∧
  ∀ (n4 : Nat) (x2 : Int),I4 n4 x2 →
    ((x2 < (a1.1.length : Int)) →
      ((0 : Int) ≤ x2 ∧ x2 < (a1.1.length : Int)) ∧
      (((num_Fits.fn (gI a1.1 x2)) = false) →
        Q false
      ) ∧ (((num_Fits.fn (gI a1.1 x2)) = true) →
        (i64 (x2 + (1 : Int))) ∧
        ∃ m,m < n4 ∧ I4 m (x2 + (1 : Int))
      )
    ) ∧ ((¬ (x2 < (a1.1.length : Int))) →
      Q ((decide ((a1.1.length : Int) ≤ (12 : Int))) && (num_Fits.fn a1.2))
    )

def cond_Valid.wp (a1 : api_Cond) (Q : Bool → Prop) : Prop :=
  ∃ R2 : Bool → Prop,
  (
    ((a1.1 = (0 : Int)) →
      R2 (a1.1 == (0 : Int))
    ) ∧ ((a1.1 ≠ (0 : Int)) →
      R2 (a1.1 == (1 : Int))
    )
  ) ∧
  ∀ (x1 : Bool),R2 x1 →
    ((x1 = true) →
      Q ((a1.2.1 == (0 : Int)) && (lin_Valid.fn a1.2.2))
    ) ∧ ((x1 = false) →
      ((a1.1 = (2 : Int)) →
        Q (((decide (a1.2.1 ≥ (1 : Int))) && (decide (a1.2.1 ≤ (512 : Int)))) && (lin_Valid.fn a1.2.2))
      ) ∧ ((a1.1 ≠ (2 : Int)) →
        Q false
      )
    )

def farkas_asked_1.wp (a1 : api_Cond) (Q : Bool → Prop) : Prop :=
  Q (!(cond_Valid.fn a1))

def slices_IndexFunc_Sapi_Cond_api_Cond__farkas_asked_1.wp (a1 : (List api_Cond)) (Q : Int → Prop) : Prop :=
  ∀ (_ : a1.length ≤ 9223372036854775807),
  ∃ I4 : Nat → Int → Prop,
  (∃ n,I4 n (0 : Int)) ∧
  ∀ (n4 : Nat) (x2 : Int),I4 n4 x2 →
    ((x2 < (a1.length : Int)) →
      ((0 : Int) ≤ x2 ∧ x2 < (a1.length : Int)) ∧
      (((farkas_asked_1.fn (a1.getD (Int.toNat x2) d_api_Cond)) = true) →
        Q x2
      ) ∧ (((farkas_asked_1.fn (a1.getD (Int.toNat x2) d_api_Cond)) = false) →
        (i64 (x2 + (1 : Int))) ∧
        ∃ m,m < n4 ∧ I4 m (x2 + (1 : Int))
      )
    ) ∧ ((¬ (x2 < (a1.length : Int))) →
      Q (-1)
    )

def slices_ContainsFunc_Sapi_Cond_api_Cond__farkas_asked_1.wp (a1 : (List api_Cond)) (Q : Bool → Prop) : Prop :=
  ∀ (x1 : Int),x1 = (slices_IndexFunc_Sapi_Cond_api_Cond__farkas_asked_1.fn a1) →
  Q (decide (x1 ≥ (0 : Int)))

def farkas_asked_2.wp (a1 : api_Cond) (a2 : Int) (Q : Bool → Prop) : Prop :=
  Q ((a1.2.2.1.length : Int) != a2)

def slices_IndexFunc_Sapi_Cond_api_Cond__farkas_asked_2.wp (a1 : (List api_Cond)) (a2 : Int) (Q : Int → Prop) : Prop :=
  ∀ (_ : a1.length ≤ 9223372036854775807),
  ∃ I4 : Nat → Int → Prop,
  (∃ n,I4 n (0 : Int)) ∧
  ∀ (n4 : Nat) (x2 : Int),I4 n4 x2 →
    ((x2 < (a1.length : Int)) →
      ((0 : Int) ≤ x2 ∧ x2 < (a1.length : Int)) ∧
      (((farkas_asked_2.fn (a1.getD (Int.toNat x2) d_api_Cond) a2) = true) →
        Q x2
      ) ∧ (((farkas_asked_2.fn (a1.getD (Int.toNat x2) d_api_Cond) a2) = false) →
        (i64 (x2 + (1 : Int))) ∧
        ∃ m,m < n4 ∧ I4 m (x2 + (1 : Int))
      )
    ) ∧ ((¬ (x2 < (a1.length : Int))) →
      Q (-1)
    )

def slices_ContainsFunc_Sapi_Cond_api_Cond__farkas_asked_2.wp (a1 : (List api_Cond)) (a2 : Int) (Q : Bool → Prop) : Prop :=
  ∀ (x1 : Int),x1 = (slices_IndexFunc_Sapi_Cond_api_Cond__farkas_asked_2.fn a1 a2) →
  Q (decide (x1 ≥ (0 : Int)))

def farkas_asked.wp (a1 : (List api_Cond)) (a2 : Int) (Q : Int → Prop) : Prop :=
  ((((decide (a2 < (0 : Int))) || (decide (a2 > (12 : Int)))) = true) →
    Q (6 : Int)
  ) ∧ ((((decide (a2 < (0 : Int))) || (decide (a2 > (12 : Int)))) = false) →
    ∀ (_ : a1.length ≤ 9223372036854775807),
    (((a1.length : Int) > (96 : Int)) →
      Q (3 : Int)
    ) ∧ ((¬ ((a1.length : Int) > (96 : Int))) →
      (((slices_ContainsFunc_Sapi_Cond_api_Cond__farkas_asked_1.fn a1) = true) →
        Q (1 : Int)
      ) ∧ (((slices_ContainsFunc_Sapi_Cond_api_Cond__farkas_asked_1.fn a1) = false) →
        (((slices_ContainsFunc_Sapi_Cond_api_Cond__farkas_asked_2.fn a1 a2) = true) →
          Q (2 : Int)
        ) ∧ (((slices_ContainsFunc_Sapi_Cond_api_Cond__farkas_asked_2.fn a1 a2) = false) →
          Q (0 : Int)
        )
      )
    )
  )

def farkas_first.wp (a1 : (List api_Cond)) (a2 : Int) (Q : farkas_table → Prop) : Prop :=
  ∀ (_ : a1.length ≤ 9223372036854775807),
  ∃ I7 : Nat → Int → (List farkas_row) → Prop,
  (∃ n,I7 n (0 : Int) ([] : List farkas_row)) ∧
  ∀ (n7 : Nat) (x3 : Int) (x4 : (List farkas_row)),I7 n7 x3 x4 →
    ((x3 < (a1.length : Int)) →
      ((0 : Int) ≤ x3 ∧ x3 < (a1.length : Int)) ∧
      ∀ (x8 : api_Cond),x8 = (a1.getD (Int.toNat x3) d_api_Cond) →
      ((x8.1 = (2 : Int)) →
        (i64 (x3 + (1 : Int))) ∧
        ∃ m,m < n7 ∧ I7 m (x3 + (1 : Int)) x4
      ) ∧ ((x8.1 ≠ (2 : Int)) →
        (i64 (a2 + (1 : Int))) ∧
        (i64 ((a2 + (1 : Int)) + (a1.length : Int))) ∧
        ((0 : Int) ≤ ((a2 + (1 : Int)) + (a1.length : Int)) ∧ ((a2 + (1 : Int)) + (a1.length : Int)) ≤ ((a2 + (1 : Int)) + (a1.length : Int)) ∧ ((a2 + (1 : Int)) + (a1.length : Int)) * 8 ≤ 140737488355328 ∧ ((a2 + (1 : Int)) + (a1.length : Int)) ≤ 9223372036854775807) ∧
        ∀ (x9 : (List Int)),x9 = (List.replicate (Int.toNat ((a2 + (1 : Int)) + (a1.length : Int))) (0 : Int)) →
        ∀ (_ : a1.length ≤ 9223372036854775807),
        ∀ (x10 : (List Int)),x10 = (x8.2.2.1.take (min x8.2.2.1.length x9.length) ++ x9.drop (min x8.2.2.1.length x9.length)) →
        (i64 (a2 + (1 : Int))) ∧
        (i64 ((a2 + (1 : Int)) + x3)) ∧
        ((0 : Int) ≤ a2 ∧ a2 < (x10.length : Int)) ∧
        (Int.toNat a2 < x10.length) ∧
        ((0 : Int) ≤ ((a2 + (1 : Int)) + x3) ∧ ((a2 + (1 : Int)) + x3) < ((x10.set (Int.toNat a2) x8.2.2.2).length : Int)) ∧
        (Int.toNat ((a2 + (1 : Int)) + x3) < (x10.set (Int.toNat a2) x8.2.2.2).length) ∧
        ∀ (x11 : (List Int)),x11 = ((x10.set (Int.toNat a2) x8.2.2.2).set (Int.toNat ((a2 + (1 : Int)) + x3)) (1 : Int)) →
        ((x4.length + [(x8.1 == (1 : Int),x11)].length) * 32 ≤ 140737488355328 ∧ x4.length + [(x8.1 == (1 : Int),x11)].length ≤ 9223372036854775807) ∧
        ∀ (x12 : (List farkas_row)),x12 = (x4 ++ [(x8.1 == (1 : Int),x11)]) →
        (i64 (x3 + (1 : Int))) ∧
        ∃ m,m < n7 ∧ I7 m (x3 + (1 : Int)) x12
      )
    ) ∧ ((¬ (x3 < (a1.length : Int))) →
      Q (a2,x4)
    )

def farkas_vector_int_by.wp (a1 : (List Int)) (a2 : Int) (Q : (List Int) → Prop) : Prop :=
  ((0 : Int) ≤ (a1.length : Int) ∧ (a1.length : Int) ≤ (a1.length : Int) ∧ (a1.length : Int) * 8 ≤ 140737488355328 ∧ (a1.length : Int) ≤ 9223372036854775807) ∧
  ∀ (x1 : (List Int)),x1 = (List.replicate (Int.toNat (a1.length : Int)) (0 : Int)) →
  ∀ (_ : a1.length ≤ 9223372036854775807),
  ∀ (x2 : (List Int)),x2 = (a1.take (min a1.length x1.length) ++ x1.drop (min a1.length x1.length)) →
  ∃ I9 : Nat → Int → (List Int) → Prop,
  (∃ n,I9 n (0 : Int) x2) ∧
  ∀ (n9 : Nat) (x5 : Int) (x6 : (List Int)),I9 n9 x5 x6 →
    ((x5 < (x2.length : Int)) →
      ((0 : Int) ≤ x5 ∧ x5 < (x6.length : Int)) ∧
      (Int.toNat x5 < x6.length) ∧
      (a2 ≠ 0 ∧ i64 (Int.tdiv (x6.getD (Int.toNat x5) (0 : Int)) a2)) ∧
      ((0 : Int) ≤ x5 ∧ x5 < (x6.length : Int)) ∧
      (Int.toNat x5 < x6.length) ∧
      ∀ (x10 : (List Int)),x10 = (x6.set (Int.toNat x5) (Int.tdiv (x6.getD (Int.toNat x5) (0 : Int)) a2)) →
      (i64 (x5 + (1 : Int))) ∧
      ∃ m,m < n9 ∧ I9 m (x5 + (1 : Int)) x10
    ) ∧ ((¬ (x5 < (x2.length : Int))) →
      Q x6
    )

def num_common.wp (a1 : Int) (a2 : Int) (Q : Int → Prop) : Prop :=
  ∃ I7 : Nat → Int → Int → Prop,
  (∃ n,I7 n a1 a2) ∧
  ∀ (n7 : Nat) (x3 : Int) (x4 : Int),I7 n7 x3 x4 →
    ((x4 > (0 : Int)) →
      (x4 ≠ 0) ∧
      ∃ m,m < n7 ∧ I7 m x4 (Int.tmod x3 x4)
    ) ∧ ((¬ (x4 > (0 : Int))) →
      Q x3
    )

def num_size.wp (a1 : Int) (Q : Int → Prop) : Prop :=
  ((a1 < (0 : Int)) →
    ∀ (x1 : Int),x1 = (IntKind.wrap .u64 (-(IntKind.wrap .u64 a1))) →
    Q x1
  ) ∧ ((¬ (a1 < (0 : Int))) →
    Q (IntKind.wrap .u64 a1)
  )

def num_Gcd_1.wp (a1 : Int) (a2 : Int) (Q : Int → Prop) : Prop :=
  (num_size.pre a2) ∧
  (num_common.pre a1 (num_size.fn a2)) ∧
  ∀ (x1 : Int),x1 = (num_size.fn a2) →
  ∀ (x2 : Int),x2 = (num_common.fn a1 x1) →
  Q x2

def num_fold_uint64__num_Gcd_1.wp (a1 : (List Int)) (a2 : Int) (Q : Int → Prop) : Prop :=
  ∀ (_ : a1.length ≤ 9223372036854775807),
  ∃ I7 : Nat → Int → Int → Prop,
  (∃ n,I7 n a2 (0 : Int)) ∧
  ∀ (n7 : Nat) (x3 : Int) (x4 : Int),I7 n7 x3 x4 →
    ((x4 < (a1.length : Int)) →
      ((0 : Int) ≤ x4 ∧ x4 < (a1.length : Int)) ∧
      (num_Gcd_1.pre x3 (gI a1 x4)) ∧
      ∀ (x8 : Int),x8 = (num_Gcd_1.fn x3 (gI a1 x4)) →
      (i64 (x4 + (1 : Int))) ∧
      ∃ m,m < n7 ∧ I7 m x8 (x4 + (1 : Int))
    ) ∧ ((¬ (x4 < (a1.length : Int))) →
      Q x3
    )

def num_Gcd.wp (a1 : (List Int)) (Q : Int × Int → Prop) : Prop :=
  (num_fold_uint64__num_Gcd_1.pre a1 (0 : Int)) ∧
  ∀ (x1 : Int),x1 = (num_fold_uint64__num_Gcd_1.fn a1 (0 : Int)) →
  ((x1 > (9223372036854775807 : Int)) →
    Q (0,3)
  ) ∧ ((¬ (x1 > (9223372036854775807 : Int))) →
    (i64 (x1)) ∧
    Q (x1,0)
  )

def farkas_row_reduced.wp (a1 : farkas_row) (Q : farkas_row → Prop) : Prop :=
  (num_Gcd.pre a1.2) ∧
  ∀ (x1 : Int × Int),x1 = (num_Gcd.fn a1.2) →
  ((x1.1 > (1 : Int)) →
    (farkas_vector_int_by.pre a1.2 x1.1) ∧
    ∀ (x2 : (List Int)),x2 = (farkas_vector_int_by.fn a1.2 x1.1) →
    Q (a1.1,x2)
  ) ∧ ((¬ (x1.1 > (1 : Int))) →
    Q a1
  )

def slices_Equal_farkas_vector_int_int.wp (a1 : (List Int)) (a2 : (List Int)) (Q : Bool → Prop) : Prop :=
  ∀ (_ : a1.length ≤ 9223372036854775807),
  ∀ (_ : a2.length ≤ 9223372036854775807),
  (((a1.length : Int) ≠ (a2.length : Int)) →
    Q false
  ) ∧ (((a1.length : Int) = (a2.length : Int)) →
    ∀ (_ : a1.length ≤ 9223372036854775807),
    ∃ I4 : Nat → Int → Prop,
    (∃ n,I4 n (0 : Int)) ∧
    ∀ (n4 : Nat) (x2 : Int),I4 n4 x2 →
      ((x2 < (a1.length : Int)) →
        ((0 : Int) ≤ x2 ∧ x2 < (a1.length : Int)) ∧
        ((0 : Int) ≤ x2 ∧ x2 < (a2.length : Int)) ∧
        (((gI a1 x2) ≠ (gI a2 x2)) →
          Q false
        ) ∧ (((gI a1 x2) = (gI a2 x2)) →
          (i64 (x2 + (1 : Int))) ∧
          ∃ m,m < n4 ∧ I4 m (x2 + (1 : Int))
        )
      ) ∧ ((¬ (x2 < (a1.length : Int))) →
        Q true
      )
  )

def farkas_table_kept_1.wp (a1 : farkas_row) (a2 : Bool) (a3 : (List Int)) (a4 : Int) (a5 : (List farkas_row)) (Q : Bool → Prop) : Prop :=
  ((a1.1 == a2) = true → i64 (a4 + (1 : Int))) ∧
  ((a1.1 == a2) = true → (0 : Int) ≤ (a4 + (1 : Int)) ∧ (a4 + (1 : Int)) ≤ (a1.2.length : Int)) ∧
  ((a1.1 == a2) = true → i64 (a4 + (1 : Int))) ∧
  ((a1.1 == a2) = true → (0 : Int) ≤ (a4 + (1 : Int)) ∧ (a4 + (1 : Int)) ≤ (a3.length : Int)) ∧
  Q ((a1.1 == a2) && (slices_Equal_farkas_vector_int_int.fn (a1.2.take (Int.toNat (a4 + (1 : Int)))) (a3.take (Int.toNat (a4 + (1 : Int))))))

def slices_IndexFunc_Sfarkas_row_farkas_row__farkas_table_kept_1.wp (a1 : (List farkas_row)) (a2 : Bool) (a3 : (List Int)) (a4 : Int) (a5 : (List farkas_row)) (Q : Int → Prop) : Prop :=
  ∀ (_ : a1.length ≤ 9223372036854775807),
  ∃ I4 : Nat → Int → Prop,
  (∃ n,I4 n (0 : Int)) ∧
  ∀ (n4 : Nat) (x2 : Int),I4 n4 x2 →
    ((x2 < (a1.length : Int)) →
      ((0 : Int) ≤ x2 ∧ x2 < (a1.length : Int)) ∧
      (farkas_table_kept_1.pre (a1.getD (Int.toNat x2) d_farkas_row) a2 a3 a4 a5) ∧
      (((farkas_table_kept_1.fn (a1.getD (Int.toNat x2) d_farkas_row) a2 a3 a4 a5) = true) →
        Q x2
      ) ∧ (((farkas_table_kept_1.fn (a1.getD (Int.toNat x2) d_farkas_row) a2 a3 a4 a5) = false) →
        (i64 (x2 + (1 : Int))) ∧
        ∃ m,m < n4 ∧ I4 m (x2 + (1 : Int))
      )
    ) ∧ ((¬ (x2 < (a1.length : Int))) →
      Q (-1)
    )

def slices_ContainsFunc_Sfarkas_row_farkas_row__farkas_table_kept_1.wp (a1 : (List farkas_row)) (a2 : Bool) (a3 : (List Int)) (a4 : Int) (a5 : (List farkas_row)) (Q : Bool → Prop) : Prop :=
  (slices_IndexFunc_Sfarkas_row_farkas_row__farkas_table_kept_1.pre a1 a2 a3 a4 a5) ∧
  ∀ (x1 : Int),x1 = (slices_IndexFunc_Sfarkas_row_farkas_row__farkas_table_kept_1.fn a1 a2 a3 a4 a5) →
  Q (decide (x1 ≥ (0 : Int)))

def farkas_table_kept_2.wp (a1 : Int) (Q : Bool → Prop) : Prop :=
  Q ((decide (a1 < (-1073741824))) || (decide (a1 > (1073741824 : Int))))

def slices_IndexFunc_farkas_vector_int_int__farkas_table_kept_2.wp (a1 : (List Int)) (Q : Int → Prop) : Prop :=
  ∀ (_ : a1.length ≤ 9223372036854775807),
  ∃ I4 : Nat → Int → Prop,
  (∃ n,I4 n (0 : Int)) ∧
  ∀ (n4 : Nat) (x2 : Int),I4 n4 x2 →
    ((x2 < (a1.length : Int)) →
      ((0 : Int) ≤ x2 ∧ x2 < (a1.length : Int)) ∧
      (((farkas_table_kept_2.fn (gI a1 x2)) = true) →
        Q x2
      ) ∧ (((farkas_table_kept_2.fn (gI a1 x2)) = false) →
        (i64 (x2 + (1 : Int))) ∧
        ∃ m,m < n4 ∧ I4 m (x2 + (1 : Int))
      )
    ) ∧ ((¬ (x2 < (a1.length : Int))) →
      Q (-1)
    )

def slices_ContainsFunc_farkas_vector_int_int__farkas_table_kept_2.wp (a1 : (List Int)) (Q : Bool → Prop) : Prop :=
  ∀ (x1 : Int),x1 = (slices_IndexFunc_farkas_vector_int_int__farkas_table_kept_2.fn a1) →
  Q (decide (x1 ≥ (0 : Int)))

def farkas_table_kept.wp (a1 : farkas_table) (a2 : (List farkas_row)) (Q : farkas_table × Int → Prop) : Prop :=
  ∀ (_ : a2.length ≤ 9223372036854775807),
  ∃ I7 : Nat → Int → (List farkas_row) → Prop,
  (∃ n,I7 n (0 : Int) ([] : List farkas_row)) ∧
  ∀ (n7 : Nat) (x3 : Int) (x4 : (List farkas_row)),I7 n7 x3 x4 →
    ((x3 < (a2.length : Int)) →
      ((0 : Int) ≤ x3 ∧ x3 < (a2.length : Int)) ∧
      ∀ (x8 : farkas_row),x8 = (a2.getD (Int.toNat x3) d_farkas_row) →
      (farkas_row_reduced.pre x8) ∧
      ∀ (x9 : farkas_row),x9 = (farkas_row_reduced.fn x8) →
      (slices_ContainsFunc_Sfarkas_row_farkas_row__farkas_table_kept_1.pre x4 x9.1 x9.2 a1.1 a1.2) ∧
      (((slices_ContainsFunc_Sfarkas_row_farkas_row__farkas_table_kept_1.fn x4 x9.1 x9.2 a1.1 a1.2) = false) →
        ((x4.length + [x9].length) * 32 ≤ 140737488355328 ∧ x4.length + [x9].length ≤ 9223372036854775807) ∧
        (i64 (x3 + (1 : Int))) ∧
        ∃ m,m < n7 ∧ I7 m (x3 + (1 : Int)) (x4 ++ [x9])
      ) ∧ (((slices_ContainsFunc_Sfarkas_row_farkas_row__farkas_table_kept_1.fn x4 x9.1 x9.2 a1.1 a1.2) = true) →
        (i64 (x3 + (1 : Int))) ∧
        ∃ m,m < n7 ∧ I7 m (x3 + (1 : Int)) x4
      )
    ) ∧ ((¬ (x3 < (a2.length : Int))) →
      (((x4.length : Int) > (400 : Int)) →
        Q ((0,([] : List farkas_row)),3)
      ) ∧ ((¬ ((x4.length : Int) > (400 : Int))) →
        ∃ I13 : Nat → Int → Prop,
        (∃ n,I13 n (0 : Int)) ∧
        ∀ (n13 : Nat) (x11 : Int),I13 n13 x11 →
          ((x11 < (x4.length : Int)) →
            ((0 : Int) ≤ x11 ∧ x11 < (x4.length : Int)) ∧
            (Int.toNat x11 < x4.length) ∧
            ∀ (x14 : farkas_row),x14 = (x4.getD (Int.toNat x11) d_farkas_row) →
            (((slices_ContainsFunc_farkas_vector_int_int__farkas_table_kept_2.fn x14.2) = true) →
              Q ((0,([] : List farkas_row)),3)
            ) ∧ (((slices_ContainsFunc_farkas_vector_int_int__farkas_table_kept_2.fn x14.2) = false) →
              (i64 (x11 + (1 : Int))) ∧
              ∃ m,m < n13 ∧ I13 m (x11 + (1 : Int))
            )
          ) ∧ ((¬ (x11 < (x4.length : Int))) →
            Q ((a1.1,x4),0)
          )
      )
    )

def farkas_table_solver.wp (a1 : farkas_table) (a2 : Int) (Q : Int → Prop) : Prop :=
  ∀ (_ : a1.2.length ≤ 9223372036854775807),
  ∃ I5 : Nat → Int → Int → Prop,
  (∃ n,I5 n (-1) (0 : Int)) ∧
  ∀ (n5 : Nat) (x1 : Int) (x2 : Int),I5 n5 x1 x2 →
    ((x2 < (a1.2.length : Int)) →
      ((0 : Int) ≤ x2 ∧ x2 < (a1.2.length : Int)) ∧
      ∀ (x6 : farkas_row),x6 = (a1.2.getD (Int.toNat x2) d_farkas_row) →
      (x6.1 = true → (0 : Int) ≤ a2 ∧ a2 < (x6.2.length : Int)) ∧
      (((x6.1 && ((gI x6.2 a2) != (0 : Int))) && (!(decide (x1 < (0 : Int))))) = true → (0 : Int) ≤ a2 ∧ a2 < (x6.2.length : Int)) ∧
      (((x6.1 && ((gI x6.2 a2) != (0 : Int))) && (!(decide (x1 < (0 : Int))))) = true → (0 : Int) ≤ a2 ∧ a2 < (x6.2.length : Int)) ∧
      (((x6.1 && ((gI x6.2 a2) != (0 : Int))) && (!(decide (x1 < (0 : Int))))) = true → i64 (-(gI x6.2 a2))) ∧
      (((x6.1 && ((gI x6.2 a2) != (0 : Int))) && (!(decide (x1 < (0 : Int))))) = true → (0 : Int) ≤ x1 ∧ x1 < (a1.2.length : Int)) ∧
      (((x6.1 && ((gI x6.2 a2) != (0 : Int))) && (!(decide (x1 < (0 : Int))))) = true → (0 : Int) ≤ a2 ∧ a2 < (((a1.2.getD (Int.toNat x1) d_farkas_row).2).length : Int)) ∧
      (((x6.1 && ((gI x6.2 a2) != (0 : Int))) && (!(decide (x1 < (0 : Int))))) = true → (0 : Int) ≤ x1 ∧ x1 < (a1.2.length : Int)) ∧
      (((x6.1 && ((gI x6.2 a2) != (0 : Int))) && (!(decide (x1 < (0 : Int))))) = true → (0 : Int) ≤ a2 ∧ a2 < (((a1.2.getD (Int.toNat x1) d_farkas_row).2).length : Int)) ∧
      (((x6.1 && ((gI x6.2 a2) != (0 : Int))) && (!(decide (x1 < (0 : Int))))) = true → i64 (-(gI ((a1.2.getD (Int.toNat x1) d_farkas_row).2) a2))) ∧
      ∀ (x7 : Int),x7 = (if (-(gI ((a1.2.getD (Int.toNat x1) d_farkas_row).2) a2)) > (gI ((a1.2.getD (Int.toNat x1) d_farkas_row).2) a2) then (-(gI ((a1.2.getD (Int.toNat x1) d_farkas_row).2) a2)) else (gI ((a1.2.getD (Int.toNat x1) d_farkas_row).2) a2)) →
      ((((x6.1 && ((gI x6.2 a2) != (0 : Int))) && ((decide (x1 < (0 : Int))) || (decide ((if (-(gI x6.2 a2)) > (gI x6.2 a2) then (-(gI x6.2 a2)) else (gI x6.2 a2)) < x7)))) = true) →
        (i64 (x2 + (1 : Int))) ∧
        ∃ m,m < n5 ∧ I5 m x2 (x2 + (1 : Int))
      ) ∧ ((((x6.1 && ((gI x6.2 a2) != (0 : Int))) && ((decide (x1 < (0 : Int))) || (decide ((if (-(gI x6.2 a2)) > (gI x6.2 a2) then (-(gI x6.2 a2)) else (gI x6.2 a2)) < x7)))) = false) →
        (i64 (x2 + (1 : Int))) ∧
        ∃ m,m < n5 ∧ I5 m x1 (x2 + (1 : Int))
      )
    ) ∧ ((¬ (x2 < (a1.2.length : Int))) →
      Q x1
    )

def farkas_vector_int_sum.wp (a1 : (List Int)) (a2 : Int) (a3 : Int) (a4 : (List Int)) (Q : (List Int) → Prop) : Prop :=
  ((0 : Int) ≤ (a1.length : Int) ∧ (a1.length : Int) ≤ (a1.length : Int) ∧ (a1.length : Int) * 8 ≤ 140737488355328 ∧ (a1.length : Int) ≤ 9223372036854775807) ∧
  ∀ (x1 : (List Int)),x1 = (List.replicate (Int.toNat (a1.length : Int)) (0 : Int)) →
  ∀ (_ : a1.length ≤ 9223372036854775807),
  ∀ (_ : a1.length ≤ 9223372036854775807),
  ∃ I8 : Nat → Int → (List Int) → Prop,
  (∃ n,I8 n (0 : Int) x1) ∧
  ∀ (n8 : Nat) (x4 : Int) (x5 : (List Int)),I8 n8 x4 x5 →
    ((x4 < (a1.length : Int)) →
      ((0 : Int) ≤ x4 ∧ x4 < (a1.length : Int)) ∧
      (i64 (a2 * (gI a1 x4))) ∧
      ((0 : Int) ≤ x4 ∧ x4 < (a4.length : Int)) ∧
      (i64 (a3 * (gI a4 x4))) ∧
      (i64 ((a2 * (gI a1 x4)) + (a3 * (gI a4 x4)))) ∧
      ((0 : Int) ≤ x4 ∧ x4 < (x5.length : Int)) ∧
      (Int.toNat x4 < x5.length) ∧
      ∀ (x9 : (List Int)),x9 = (x5.set (Int.toNat x4) ((a2 * (gI a1 x4)) + (a3 * (gI a4 x4)))) →
      (i64 (x4 + (1 : Int))) ∧
      ∃ m,m < n8 ∧ I8 m (x4 + (1 : Int)) x9
    ) ∧ ((¬ (x4 < (a1.length : Int))) →
      Q x5
    )

def farkas_table_without.wp (a1 : farkas_table) (a2 : Int) (Q : farkas_table × Int → Prop) : Prop :=
  (farkas_table_solver.pre a1 a2) ∧
  ∀ (x1 : Int),x1 = (farkas_table_solver.fn a1 a2) →
  ((x1 ≥ (0 : Int)) →
    ((0 : Int) ≤ x1 ∧ x1 < (a1.2.length : Int)) ∧
    ∀ (x2 : farkas_row),x2 = (a1.2.getD (Int.toNat x1) d_farkas_row) →
    ((0 : Int) ≤ a2 ∧ a2 < (x2.2.length : Int)) ∧
    ∃ R5 : Int → Int → Prop,
    (
      (((gI x2.2 a2) < (0 : Int)) →
        (i64 (-(gI x2.2 a2))) ∧
        R5 (-1) (-(gI x2.2 a2))
      ) ∧ ((¬ ((gI x2.2 a2) < (0 : Int))) →
        R5 (1 : Int) (gI x2.2 a2)
      )
    ) ∧
    ∀ (x3 : Int) (x4 : Int),R5 x3 x4 →
      ∀ (_ : a1.2.length ≤ 9223372036854775807),
      ∃ I12 : Nat → Int → (List farkas_row) → Prop,
      (∃ n,I12 n (0 : Int) ([] : List farkas_row)) ∧
      ∀ (n12 : Nat) (x8 : Int) (x9 : (List farkas_row)),I12 n12 x8 x9 →
        ((x8 < (a1.2.length : Int)) →
          ((0 : Int) ≤ x8 ∧ x8 < (a1.2.length : Int)) ∧
          ∀ (x13 : farkas_row),x13 = (a1.2.getD (Int.toNat x8) d_farkas_row) →
          ((x8 = x1) →
            (i64 (x8 + (1 : Int))) ∧
            ∃ m,m < n12 ∧ I12 m (x8 + (1 : Int)) x9
          ) ∧ ((x8 ≠ x1) →
            ((0 : Int) ≤ a2 ∧ a2 < (x13.2.length : Int)) ∧
            (((gI x13.2 a2) = (0 : Int)) →
              ((x9.length + [x13].length) * 32 ≤ 140737488355328 ∧ x9.length + [x13].length ≤ 9223372036854775807) ∧
              (i64 (x8 + (1 : Int))) ∧
              ∃ m,m < n12 ∧ I12 m (x8 + (1 : Int)) (x9 ++ [x13])
            ) ∧ (((gI x13.2 a2) ≠ (0 : Int)) →
              (i64 (-x3)) ∧
              ((0 : Int) ≤ a2 ∧ a2 < (x13.2.length : Int)) ∧
              (i64 ((-x3) * (gI x13.2 a2))) ∧
              (farkas_vector_int_sum.pre x13.2 x4 ((-x3) * (gI x13.2 a2)) x2.2) ∧
              ((x9.length + [(x13.1,farkas_vector_int_sum.fn x13.2 x4 ((-x3) * (gI x13.2 a2)) x2.2)].length) * 32 ≤ 140737488355328 ∧ x9.length + [(x13.1,farkas_vector_int_sum.fn x13.2 x4 ((-x3) * (gI x13.2 a2)) x2.2)].length ≤ 9223372036854775807) ∧
              ∀ (x14 : (List farkas_row)),x14 = (x9 ++ [(x13.1,farkas_vector_int_sum.fn x13.2 x4 ((-x3) * (gI x13.2 a2)) x2.2)]) →
              (i64 (x8 + (1 : Int))) ∧
              ∃ m,m < n12 ∧ I12 m (x8 + (1 : Int)) x14
            )
          )
        ) ∧ ((¬ (x8 < (a1.2.length : Int))) →
          (farkas_table_kept.pre a1 x9) ∧
          ∀ (x15 : farkas_table × Int),x15 = (farkas_table_kept.fn a1 x9) →
          ∀ (x16 : Int),x16 = x15.1.1 →
          ∀ (x17 : (List farkas_row)),x17 = x15.1.2 →
          Q ((x16,x17),x15.2)
        )
  ) ∧ ((¬ (x1 ≥ (0 : Int))) →
    ∀ (_ : a1.2.length ≤ 9223372036854775807),
    ∃ I24 : Nat → Int → (List farkas_row) → Prop,
    (∃ n,I24 n (0 : Int) ([] : List farkas_row)) ∧
    ∀ (n24 : Nat) (x20 : Int) (x21 : (List farkas_row)),I24 n24 x20 x21 →
      ((x20 < (a1.2.length : Int)) →
        ((0 : Int) ≤ x20 ∧ x20 < (a1.2.length : Int)) ∧
        ∀ (x25 : farkas_row),x25 = (a1.2.getD (Int.toNat x20) d_farkas_row) →
        ((0 : Int) ≤ a2 ∧ a2 < (x25.2.length : Int)) ∧
        (((gI x25.2 a2) = (0 : Int)) →
          ((x21.length + [x25].length) * 32 ≤ 140737488355328 ∧ x21.length + [x25].length ≤ 9223372036854775807) ∧
          (i64 (x20 + (1 : Int))) ∧
          ∃ m,m < n24 ∧ I24 m (x20 + (1 : Int)) (x21 ++ [x25])
        ) ∧ (((gI x25.2 a2) ≠ (0 : Int)) →
          (i64 (x20 + (1 : Int))) ∧
          ∃ m,m < n24 ∧ I24 m (x20 + (1 : Int)) x21
        )
      ) ∧ ((¬ (x20 < (a1.2.length : Int))) →
        ∀ (_ : a1.2.length ≤ 9223372036854775807),
        ∃ I32 : Nat → Int → (List farkas_row) → Prop,
        (∃ n,I32 n (0 : Int) x21) ∧
        ∀ (n32 : Nat) (x28 : Int) (x29 : (List farkas_row)),I32 n32 x28 x29 →
          ((x28 < (a1.2.length : Int)) →
            ((0 : Int) ≤ x28 ∧ x28 < (a1.2.length : Int)) ∧
            ∀ (x33 : farkas_row),x33 = (a1.2.getD (Int.toNat x28) d_farkas_row) →
            ∀ (_ : a1.2.length ≤ 9223372036854775807),
            ∃ I40 : Nat → Int → (List farkas_row) → Prop,
            (∃ n,I40 n (0 : Int) x29) ∧
            ∀ (n40 : Nat) (x36 : Int) (x37 : (List farkas_row)),I40 n40 x36 x37 →
              ((x36 < (a1.2.length : Int)) →
                ((0 : Int) ≤ x36 ∧ x36 < (a1.2.length : Int)) ∧
                ∀ (x41 : farkas_row),x41 = (a1.2.getD (Int.toNat x36) d_farkas_row) →
                ((0 : Int) ≤ a2 ∧ a2 < (x33.2.length : Int)) ∧
                ((decide ((gI x33.2 a2) > (0 : Int))) = true → (0 : Int) ≤ a2 ∧ a2 < (x41.2.length : Int)) ∧
                ((((decide ((gI x33.2 a2) > (0 : Int))) && (decide ((gI x41.2 a2) < (0 : Int)))) = true) →
                  ((0 : Int) ≤ a2 ∧ a2 < (x41.2.length : Int)) ∧
                  (i64 (-(gI x41.2 a2))) ∧
                  ((0 : Int) ≤ a2 ∧ a2 < (x33.2.length : Int)) ∧
                  (farkas_vector_int_sum.pre x33.2 (-(gI x41.2 a2)) (gI x33.2 a2) x41.2) ∧
                  ((x37.length + [(false,farkas_vector_int_sum.fn x33.2 (-(gI x41.2 a2)) (gI x33.2 a2) x41.2)].length) * 32 ≤ 140737488355328 ∧ x37.length + [(false,farkas_vector_int_sum.fn x33.2 (-(gI x41.2 a2)) (gI x33.2 a2) x41.2)].length ≤ 9223372036854775807) ∧
                  ∀ (x42 : (List farkas_row)),x42 = (x37 ++ [(false,farkas_vector_int_sum.fn x33.2 (-(gI x41.2 a2)) (gI x33.2 a2) x41.2)]) →
                  (i64 (x36 + (1 : Int))) ∧
                  ∃ m,m < n40 ∧ I40 m (x36 + (1 : Int)) x42
                ) ∧ ((((decide ((gI x33.2 a2) > (0 : Int))) && (decide ((gI x41.2 a2) < (0 : Int)))) = false) →
                  (i64 (x36 + (1 : Int))) ∧
                  ∃ m,m < n40 ∧ I40 m (x36 + (1 : Int)) x37
                )
              ) ∧ ((¬ (x36 < (a1.2.length : Int))) →
                (i64 (x28 + (1 : Int))) ∧
                ∃ m,m < n32 ∧ I32 m (x28 + (1 : Int)) x37
              )
          ) ∧ ((¬ (x28 < (a1.2.length : Int))) →
            (farkas_table_kept.pre a1 x29) ∧
            ∀ (x43 : farkas_table × Int),x43 = (farkas_table_kept.fn a1 x29) →
            ∀ (x44 : Int),x44 = x43.2 →
            ∀ (x45 : Int),x45 = x43.1.1 →
            ∀ (x46 : (List farkas_row)),x46 = x43.1.2 →
            Q ((x45,x46),x44)
          )
      )
  )

def farkas_eliminated.wp (a1 : (List api_Cond)) (a2 : Int) (Q : (List farkas_table) × Int → Prop) : Prop :=
  (i64 (a2 + (1 : Int))) ∧
  ((0 : Int) ≤ (a2 + (1 : Int)) ∧ (a2 + (1 : Int)) ≤ (a2 + (1 : Int)) ∧ (a2 + (1 : Int)) * 32 ≤ 140737488355328 ∧ (a2 + (1 : Int)) ≤ 9223372036854775807) ∧
  ∀ (x1 : (List farkas_table)),x1 = (List.replicate (Int.toNat (a2 + (1 : Int))) d_farkas_table) →
  (farkas_first.pre a1 a2) ∧
  ((0 : Int) ≤ a2 ∧ a2 < (x1.length : Int)) ∧
  (Int.toNat a2 < x1.length) ∧
  ∀ (x2 : farkas_table),x2 = (farkas_first.fn a1 a2) →
  ∀ (x3 : (List farkas_table)),x3 = (x1.set (Int.toNat a2) x2) →
  (i64 (a2 - (1 : Int))) ∧
  ∃ I10 : Nat → Int → (List farkas_table) → Prop,
  (∃ n,I10 n (a2 - (1 : Int)) x3) ∧
  ∀ (n10 : Nat) (x6 : Int) (x7 : (List farkas_table)),I10 n10 x6 x7 →
    ((x6 ≥ (0 : Int)) →
      (i64 (x6 + (1 : Int))) ∧
      ((0 : Int) ≤ (x6 + (1 : Int)) ∧ (x6 + (1 : Int)) < (x7.length : Int)) ∧
      (Int.toNat (x6 + (1 : Int)) < x7.length) ∧
      (farkas_table_without.pre (x7.getD (Int.toNat (x6 + (1 : Int))) d_farkas_table) x6) ∧
      ((0 : Int) ≤ x6 ∧ x6 < (x7.length : Int)) ∧
      (Int.toNat x6 < x7.length) ∧
      ∀ (x11 : farkas_table × Int),x11 = (farkas_table_without.fn (x7.getD (Int.toNat (x6 + (1 : Int))) d_farkas_table) x6) →
      ∀ (x12 : Int),x12 = x11.2 →
      ∀ (x13 : (List farkas_table)),x13 = (x7.set (Int.toNat x6) x11.1) →
      ((x12 ≠ (0 : Int)) →
        Q (([] : List farkas_table),x12)
      ) ∧ ((x12 = (0 : Int)) →
        (i64 (x6 - (1 : Int))) ∧
        ∃ m,m < n10 ∧ I10 m (x6 - (1 : Int)) x13
      )
    ) ∧ ((¬ (x6 ≥ (0 : Int))) →
      Q (x7,0)
    )

def farkas_size.wp (a1 : Int) (Q : Int → Prop) : Prop :=
  ((a1 < (0 : Int)) →
    ∀ (x1 : Int),x1 = (IntKind.wrap .u64 (-(IntKind.wrap .u64 a1))) →
    Q x1
  ) ∧ ((¬ (a1 < (0 : Int))) →
    Q (IntKind.wrap .u64 a1)
  )

def math_bits_Mul64.wp (a1 : Int) (a2 : Int) (Q : Int × Int → Prop) : Prop :=
  ∀ (x1 : Int),x1 = (IntKind.wrap .u64 ((BitVec.ofInt 64 a1 &&& BitVec.ofInt 64 (4294967295 : Int)).toNat : Int)) →
  (0 ≤ (32 : Int)) ∧
  ∀ (x2 : Int),x2 = (Int.fdiv a1 (2 ^ (min (Int.toNat (32 : Int)) 64))) →
  ∀ (x3 : Int),x3 = (IntKind.wrap .u64 ((BitVec.ofInt 64 a2 &&& BitVec.ofInt 64 (4294967295 : Int)).toNat : Int)) →
  (0 ≤ (32 : Int)) ∧
  ∀ (x4 : Int),x4 = (Int.fdiv a2 (2 ^ (min (Int.toNat (32 : Int)) 64))) →
  (0 ≤ (32 : Int)) ∧
  ∀ (x5 : Int),x5 = (IntKind.wrap .u64 ((IntKind.wrap .u64 (x2 * x3)) + (Int.fdiv (IntKind.wrap .u64 (x1 * x3)) (2 ^ (min (Int.toNat (32 : Int)) 64))))) →
  ∀ (x6 : Int),x6 = (IntKind.wrap .u64 ((BitVec.ofInt 64 x5 &&& BitVec.ofInt 64 (4294967295 : Int)).toNat : Int)) →
  (0 ≤ (32 : Int)) ∧
  ∀ (x7 : Int),x7 = (Int.fdiv x5 (2 ^ (min (Int.toNat (32 : Int)) 64))) →
  ∀ (x8 : Int),x8 = (IntKind.wrap .u64 (x6 + (IntKind.wrap .u64 (x1 * x4)))) →
  (0 ≤ (32 : Int)) ∧
  ∀ (x9 : Int),x9 = (IntKind.wrap .u64 ((IntKind.wrap .u64 ((IntKind.wrap .u64 (x2 * x4)) + x7)) + (Int.fdiv x8 (2 ^ (min (Int.toNat (32 : Int)) 64))))) →
  Q (x9,IntKind.wrap .u64 (a1 * a2))

def farkas_fraction_less.wp (a1 : farkas_fraction) (a2 : farkas_fraction) (Q : Bool → Prop) : Prop :=
  (((decide (a1.1 < (0 : Int))) ≠ (decide (a2.1 < (0 : Int)))) →
    Q (decide (a1.1 < (0 : Int)))
  ) ∧ (((decide (a1.1 < (0 : Int))) = (decide (a2.1 < (0 : Int)))) →
    (farkas_size.pre a1.1) ∧
    (math_bits_Mul64.pre (farkas_size.fn a1.1) (IntKind.wrap .u64 a2.2)) ∧
    ∀ (x1 : Int),x1 = (farkas_size.fn a1.1) →
    ∀ (x2 : Int × Int),x2 = (math_bits_Mul64.fn x1 (IntKind.wrap .u64 a2.2)) →
    ∀ (x3 : Int),x3 = x2.1 →
    ∀ (x4 : Int),x4 = x2.2 →
    (farkas_size.pre a2.1) ∧
    (math_bits_Mul64.pre (farkas_size.fn a2.1) (IntKind.wrap .u64 a1.2)) ∧
    ∀ (x5 : Int),x5 = (farkas_size.fn a2.1) →
    ∀ (x6 : Int × Int),x6 = (math_bits_Mul64.fn x5 (IntKind.wrap .u64 a1.2)) →
    ∀ (x7 : Int),x7 = x6.1 →
    ∀ (x8 : Int),x8 = x6.2 →
    ∃ R13 : Int → Int → Int → Int → Prop,
    (
      ((a1.1 < (0 : Int)) →
        R13 x7 x8 x3 x4
      ) ∧ ((¬ (a1.1 < (0 : Int))) →
        R13 x3 x4 x7 x8
      )
    ) ∧
    ∀ (x9 : Int) (x10 : Int) (x11 : Int) (x12 : Int),R13 x9 x10 x11 x12 →
      Q ((decide (x9 < x11)) || ((x9 == x11) && (decide (x10 < x12))))
  )

def farkas_point_bound.wp (a1 : farkas_point) (a2 : farkas_row) (a3 : Int) (Q : farkas_fraction → Prop) : Prop :=
  ∀ (_ : a1.1.length ≤ 9223372036854775807),
  ((0 : Int) ≤ a3 ∧ a3 < (a2.2.length : Int)) ∧
  (i64 ((gI a2.2 a3) * a1.2)) ∧
  ∀ (_ : a1.1.length ≤ 9223372036854775807),
  ∃ I7 : Nat → Int → Int → Prop,
  (∃ n,I7 n ((gI a2.2 a3) * a1.2) (0 : Int)) ∧
  ∀ (n7 : Nat) (x3 : Int) (x4 : Int),I7 n7 x3 x4 →
    ((x4 < (a1.1.length : Int)) →
      ((0 : Int) ≤ x4 ∧ x4 < (a1.1.length : Int)) ∧
      ((0 : Int) ≤ x4 ∧ x4 < (a2.2.length : Int)) ∧
      (i64 ((gI a2.2 x4) * (gI a1.1 x4))) ∧
      (i64 (x3 + ((gI a2.2 x4) * (gI a1.1 x4)))) ∧
      ∀ (x8 : Int),x8 = (x3 + ((gI a2.2 x4) * (gI a1.1 x4))) →
      (i64 (x4 + (1 : Int))) ∧
      ∃ m,m < n7 ∧ I7 m x8 (x4 + (1 : Int))
    ) ∧ ((¬ (x4 < (a1.1.length : Int))) →
      ((0 : Int) ≤ (a1.1.length : Int) ∧ (a1.1.length : Int) < (a2.2.length : Int)) ∧
      (((gI a2.2 (a1.1.length : Int)) < (0 : Int)) →
        ((0 : Int) ≤ (a1.1.length : Int) ∧ (a1.1.length : Int) < (a2.2.length : Int)) ∧
        (i64 (-(gI a2.2 (a1.1.length : Int)))) ∧
        Q (x3,-(gI a2.2 (a1.1.length : Int)))
      ) ∧ ((¬ ((gI a2.2 (a1.1.length : Int)) < (0 : Int))) →
        (i64 (-x3)) ∧
        ((0 : Int) ≤ (a1.1.length : Int) ∧ (a1.1.length : Int) < (a2.2.length : Int)) ∧
        Q (-x3,gI a2.2 (a1.1.length : Int))
      )
    )

def farkas_point_value.wp (a1 : farkas_point) (a2 : farkas_table) (Q : farkas_fraction → Prop) : Prop :=
  ∀ (_ : a1.1.length ≤ 9223372036854775807),
  ∀ (_ : a2.2.length ≤ 9223372036854775807),
  ∃ I15 : Nat → Bool → Int → Int → Bool → Int → Int → Int → Prop,
  (∃ n,I15 n false (0 : Int) (0 : Int) false (0 : Int) (0 : Int) (0 : Int)) ∧
  ∀ (n15 : Nat) (x1 : Bool) (x2 : Int) (x3 : Int) (x4 : Bool) (x5 : Int) (x6 : Int) (x7 : Int),I15 n15 x1 x2 x3 x4 x5 x6 x7 →
    ((x7 < (a2.2.length : Int)) →
      ((0 : Int) ≤ x7 ∧ x7 < (a2.2.length : Int)) ∧
      ∀ (x16 : farkas_row),x16 = (a2.2.getD (Int.toNat x7) d_farkas_row) →
      ((0 : Int) ≤ (a1.1.length : Int) ∧ (a1.1.length : Int) < (x16.2.length : Int)) ∧
      (((gI x16.2 (a1.1.length : Int)) = (0 : Int)) →
        (i64 (x7 + (1 : Int))) ∧
        ∃ m,m < n15 ∧ I15 m x1 x2 x3 x4 x5 x6 (x7 + (1 : Int))
      ) ∧ (((gI x16.2 (a1.1.length : Int)) ≠ (0 : Int)) →
        (farkas_point_bound.pre a1 x16 a2.1) ∧
        ∀ (x17 : farkas_fraction),x17 = (farkas_point_bound.fn a1 x16 a2.1) →
        ∀ (x18 : Int),x18 = x17.1 →
        ∀ (x19 : Int),x19 = x17.2 →
        ((x16.1 = true) →
          Q (x18,x19)
        ) ∧ ((x16.1 = false) →
          ((0 : Int) ≤ (a1.1.length : Int) ∧ (a1.1.length : Int) < (x16.2.length : Int)) ∧
          (((gI x16.2 (a1.1.length : Int)) > (0 : Int)) →
            ((!(!x1)) = true → farkas_fraction_less.pre (x2,x3) (x18,x19)) ∧
            ((((!x1) || (farkas_fraction_less.fn (x2,x3) (x18,x19))) = true) →
              (i64 (x7 + (1 : Int))) ∧
              ∃ m,m < n15 ∧ I15 m true x18 x19 x4 x5 x6 (x7 + (1 : Int))
            ) ∧ ((((!x1) || (farkas_fraction_less.fn (x2,x3) (x18,x19))) = false) →
              (i64 (x7 + (1 : Int))) ∧
              ∃ m,m < n15 ∧ I15 m x1 x2 x3 x4 x5 x6 (x7 + (1 : Int))
            )
          ) ∧ ((¬ ((gI x16.2 (a1.1.length : Int)) > (0 : Int))) →
            ((!(!x4)) = true → farkas_fraction_less.pre (x18,x19) (x5,x6)) ∧
            ((((!x4) || (farkas_fraction_less.fn (x18,x19) (x5,x6))) = true) →
              (i64 (x7 + (1 : Int))) ∧
              ∃ m,m < n15 ∧ I15 m x1 x2 x3 true x18 x19 (x7 + (1 : Int))
            ) ∧ ((((!x4) || (farkas_fraction_less.fn (x18,x19) (x5,x6))) = false) →
              (i64 (x7 + (1 : Int))) ∧
              ∃ m,m < n15 ∧ I15 m x1 x2 x3 x4 x5 x6 (x7 + (1 : Int))
            )
          )
        )
      )
    ) ∧ ((¬ (x7 < (a2.2.length : Int))) →
      ((x1 = true) →
        (x1 = true) ∧
        Q (x2,x3)
      ) ∧ ((x1 = false) →
        ((x4 = true) →
          (x4 = true) ∧
          Q (x5,x6)
        ) ∧ ((x4 = false) →
          Q (0,1)
        )
      )
    )

def farkas_point_with.wp (a1 : farkas_point) (a2 : farkas_fraction) (Q : farkas_point × Int → Prop) : Prop :=
  (num_Gcd.pre [a2.1,a2.2]) ∧
  ∀ (x1 : Int × Int),x1 = (num_Gcd.fn [a2.1,a2.2]) →
  (x1.1 ≠ 0 ∧ i64 (Int.tdiv a2.1 x1.1)) ∧
  (x1.1 ≠ 0 ∧ i64 (Int.tdiv a2.2 x1.1)) ∧
  (num_Gcd.pre [Int.tdiv a2.1 x1.1,a1.2]) ∧
  ∀ (x2 : Int × Int),x2 = (num_Gcd.fn [Int.tdiv a2.1 x1.1,a1.2]) →
  ∀ (x3 : Int),x3 = x2.1 →
  (x3 ≠ 0 ∧ i64 (Int.tdiv (Int.tdiv a2.1 x1.1) x3)) ∧
  (x3 ≠ 0 ∧ i64 (Int.tdiv a1.2 x3)) ∧
  ∀ (x4 : Int),x4 = (Int.tdiv (Int.tdiv a2.1 x1.1) x3) →
  ((!(decide ((Int.tdiv a2.2 x1.1) > (268435456 : Int)))) = true → i64 ((Int.tdiv a1.2 x3) * (Int.tdiv a2.2 x1.1))) ∧
  ((((decide ((Int.tdiv a2.2 x1.1) > (268435456 : Int))) || (decide (((Int.tdiv a1.2 x3) * (Int.tdiv a2.2 x1.1)) > (268435456 : Int)))) = true) →
    Q ((([] : List Int),0),3)
  ) ∧ ((((decide ((Int.tdiv a2.2 x1.1) > (268435456 : Int))) || (decide (((Int.tdiv a1.2 x3) * (Int.tdiv a2.2 x1.1)) > (268435456 : Int)))) = false) →
    (i64 ((Int.tdiv a1.2 x3) * (Int.tdiv a2.2 x1.1))) ∧
    ∀ (x5 : Int),x5 = ((Int.tdiv a1.2 x3) * (Int.tdiv a2.2 x1.1)) →
    (num_Gcd.pre [x5,a1.2]) ∧
    ∀ (x6 : Int × Int),x6 = (num_Gcd.fn [x5,a1.2]) →
    (x6.1 ≠ 0 ∧ i64 (Int.tdiv a1.2 x6.1)) ∧
    (i64 ((Int.tdiv a1.2 x6.1) * x5)) ∧
    ((((Int.tdiv a1.2 x6.1) * x5) > (268435456 : Int)) →
      Q ((([] : List Int),0),3)
    ) ∧ ((¬ (((Int.tdiv a1.2 x6.1) * x5) > (268435456 : Int))) →
      ∀ (_ : a1.1.length ≤ 9223372036854775807),
      ∃ I13 : Nat → Int → (List Int) → Prop,
      (∃ n,I13 n (0 : Int) ([] : List Int)) ∧
      ∀ (n13 : Nat) (x9 : Int) (x10 : (List Int)),I13 n13 x9 x10 →
        ((x9 < (a1.1.length : Int)) →
          ((0 : Int) ≤ x9 ∧ x9 < (a1.1.length : Int)) ∧
          (a1.2 ≠ 0 ∧ i64 (Int.tdiv ((Int.tdiv a1.2 x6.1) * x5) a1.2)) ∧
          (i64 ((gI a1.1 x9) * (Int.tdiv ((Int.tdiv a1.2 x6.1) * x5) a1.2))) ∧
          ((x10.length + [(gI a1.1 x9) * (Int.tdiv ((Int.tdiv a1.2 x6.1) * x5) a1.2)].length) * 8 ≤ 140737488355328 ∧ x10.length + [(gI a1.1 x9) * (Int.tdiv ((Int.tdiv a1.2 x6.1) * x5) a1.2)].length ≤ 9223372036854775807) ∧
          ∀ (x14 : (List Int)),x14 = (x10 ++ [(gI a1.1 x9) * (Int.tdiv ((Int.tdiv a1.2 x6.1) * x5) a1.2)]) →
          (i64 (x9 + (1 : Int))) ∧
          ∃ m,m < n13 ∧ I13 m (x9 + (1 : Int)) x14
        ) ∧ ((¬ (x9 < (a1.1.length : Int))) →
          ((((decide (x4 > (268435456 : Int))) || (decide (x4 < (-268435456)))) = true) →
            Q ((([] : List Int),0),3)
          ) ∧ ((((decide (x4 > (268435456 : Int))) || (decide (x4 < (-268435456)))) = false) →
            (x5 ≠ 0 ∧ i64 (Int.tdiv ((Int.tdiv a1.2 x6.1) * x5) x5)) ∧
            (i64 (x4 * (Int.tdiv ((Int.tdiv a1.2 x6.1) * x5) x5))) ∧
            ((x10.length + [x4 * (Int.tdiv ((Int.tdiv a1.2 x6.1) * x5) x5)].length) * 8 ≤ 140737488355328 ∧ x10.length + [x4 * (Int.tdiv ((Int.tdiv a1.2 x6.1) * x5) x5)].length ≤ 9223372036854775807) ∧
            ∀ (x15 : (List Int)),x15 = (x10 ++ [x4 * (Int.tdiv ((Int.tdiv a1.2 x6.1) * x5) x5)]) →
            ∃ I19 : Nat → Int → Prop,
            (∃ n,I19 n (0 : Int)) ∧
            ∀ (n19 : Nat) (x17 : Int),I19 n19 x17 →
              ((x17 < (x15.length : Int)) →
                ((0 : Int) ≤ x17 ∧ x17 < (x15.length : Int)) ∧
                (Int.toNat x17 < x15.length) ∧
                ∀ (x20 : Int),x20 = (x15.getD (Int.toNat x17) (0 : Int)) →
                ((((decide (x20 > (268435456 : Int))) || (decide (x20 < (-268435456)))) = true) →
                  Q ((([] : List Int),0),3)
                ) ∧ ((((decide (x20 > (268435456 : Int))) || (decide (x20 < (-268435456)))) = false) →
                  (i64 (x17 + (1 : Int))) ∧
                  ∃ m,m < n19 ∧ I19 m (x17 + (1 : Int))
                )
              ) ∧ ((¬ (x17 < (x15.length : Int))) →
                Q ((x15,(Int.tdiv a1.2 x6.1) * x5),0)
              )
          )
        )
    )
  )

def slices_Clone_Sint_int.wp (a1 : (List Int)) (Q : (List Int) → Prop) : Prop :=
  ∀ (b1 : Bool),(b1 = true → a1 = []) →
  ((b1 = true) →
    Q ([] : List Int)
  ) ∧ ((b1 = false) →
    ((([] : List Int).length + a1.length) * 8 ≤ 140737488355328 ∧ ([] : List Int).length + a1.length ≤ 9223372036854775807) ∧
    Q (([] : List Int) ++ a1)
  )

def farkas_table_refuted.wp (a1 : farkas_table) (Q : (List Int) × Bool → Prop) : Prop :=
  ∀ (_ : a1.2.length ≤ 9223372036854775807),
  ∃ I4 : Nat → Int → Prop,
  (∃ n,I4 n (0 : Int)) ∧
  ∀ (n4 : Nat) (x2 : Int),I4 n4 x2 →
    ((x2 < (a1.2.length : Int)) →
      ((0 : Int) ≤ x2 ∧ x2 < (a1.2.length : Int)) ∧
      ∀ (x5 : farkas_row),x5 = (a1.2.getD (Int.toNat x2) d_farkas_row) →
      ((0 : Int) ≤ a1.1 ∧ a1.1 < (x5.2.length : Int)) ∧
      ((((decide ((gI x5.2 a1.1) ≥ (0 : Int))) && ((!x5.1) || ((gI x5.2 a1.1) == (0 : Int)))) = true) →
        (i64 (x2 + (1 : Int))) ∧
        ∃ m,m < n4 ∧ I4 m (x2 + (1 : Int))
      ) ∧ ((((decide ((gI x5.2 a1.1) ≥ (0 : Int))) && ((!x5.1) || ((gI x5.2 a1.1) == (0 : Int)))) = false) →
        (i64 (a1.1 + (1 : Int))) ∧
        ((0 : Int) ≤ (a1.1 + (1 : Int)) ∧ (a1.1 + (1 : Int)) ≤ (x5.2.length : Int)) ∧
        (slices_Clone_Sint_int.pre (x5.2.drop (Int.toNat (a1.1 + (1 : Int))))) ∧
        ∀ (x6 : (List Int)),x6 = (slices_Clone_Sint_int.fn (x5.2.drop (Int.toNat (a1.1 + (1 : Int))))) →
        (((gI x5.2 a1.1) > (0 : Int)) →
          ∃ I13 : Nat → Int → (List Int) → Prop,
          (∃ n,I13 n (0 : Int) x6) ∧
          ∀ (n13 : Nat) (x9 : Int) (x10 : (List Int)),I13 n13 x9 x10 →
            ((x9 < (x6.length : Int)) →
              ((0 : Int) ≤ x9 ∧ x9 < (x10.length : Int)) ∧
              (Int.toNat x9 < x10.length) ∧
              (i64 (-(x10.getD (Int.toNat x9) (0 : Int)))) ∧
              ((0 : Int) ≤ x9 ∧ x9 < (x10.length : Int)) ∧
              (Int.toNat x9 < x10.length) ∧
              ∀ (x14 : (List Int)),x14 = (x10.set (Int.toNat x9) (-(x10.getD (Int.toNat x9) (0 : Int)))) →
              (i64 (x9 + (1 : Int))) ∧
              ∃ m,m < n13 ∧ I13 m (x9 + (1 : Int)) x14
            ) ∧ ((¬ (x9 < (x6.length : Int))) →
              Q (x10,true)
            )
        ) ∧ ((¬ ((gI x5.2 a1.1) > (0 : Int))) →
          Q (x6,true)
        )
      )
    ) ∧ ((¬ (x2 < (a1.2.length : Int))) →
      Q (([] : List Int),false)
    )

def farkas_Inner.wp (a1 : (List api_Cond)) (a2 : Int) (Q : (List Int) × Int × Int → Prop) : Prop :=
  ∀ (x1 : Int),x1 = (farkas_asked.fn a1 a2) →
  ((x1 ≠ (0 : Int)) →
    Q (([] : List Int),0,x1)
  ) ∧ ((x1 = (0 : Int)) →
    (farkas_eliminated.pre a1 a2) ∧
    ∀ (x2 : (List farkas_table) × Int),x2 = (farkas_eliminated.fn a1 a2) →
    ((x2.2 ≠ (0 : Int)) →
      Q (([] : List Int),0,x2.2)
    ) ∧ ((x2.2 = (0 : Int)) →
      ((0 : Int) ≤ (0 : Int) ∧ (0 : Int) < (x2.1.length : Int)) ∧
      (farkas_table_refuted.pre (x2.1.getD (Int.toNat (0 : Int)) d_farkas_table)) ∧
      ∀ (x3 : (List Int) × Bool),x3 = (farkas_table_refuted.fn (x2.1.getD (Int.toNat (0 : Int)) d_farkas_table)) →
      ((x3.2 = true) →
        Q (([] : List Int),0,5)
      ) ∧ ((x3.2 = false) →
        ∃ I12 : Nat → Int → Int → (List Int) → Int → Prop,
        (∃ n,I12 n (0 : Int) x2.2 ([] : List Int) (1 : Int)) ∧
        ∀ (n12 : Nat) (x4 : Int) (x5 : Int) (x6 : (List Int)) (x7 : Int),I12 n12 x4 x5 x6 x7 →
          ((x4 < a2) →
            (i64 (x4 + (1 : Int))) ∧
            ((0 : Int) ≤ (x4 + (1 : Int)) ∧ (x4 + (1 : Int)) < (x2.1.length : Int)) ∧
            (farkas_point_value.pre (x6,x7) (x2.1.getD (Int.toNat (x4 + (1 : Int))) d_farkas_table)) ∧
            (farkas_point_with.pre (x6,x7) (farkas_point_value.fn (x6,x7) (x2.1.getD (Int.toNat (x4 + (1 : Int))) d_farkas_table))) ∧
            ∀ (x13 : farkas_fraction),x13 = (farkas_point_value.fn (x6,x7) (x2.1.getD (Int.toNat (x4 + (1 : Int))) d_farkas_table)) →
            ∀ (x14 : farkas_point × Int),x14 = (farkas_point_with.fn (x6,x7) x13) →
            ∀ (x15 : Int),x15 = x14.2 →
            ∀ (x16 : (List Int)),x16 = x14.1.1 →
            ∀ (x17 : Int),x17 = x14.1.2 →
            ((x15 ≠ (0 : Int)) →
              ((x15 ≠ (0 : Int)) →
                Q (([] : List Int),0,x15)
              ) ∧ ((x15 = (0 : Int)) →
                Q (([] : List Int),0,x15)
              )
            ) ∧ ((x15 = (0 : Int)) →
              (i64 (x4 + (1 : Int))) ∧
              ∃ m,m < n12 ∧ I12 m (x4 + (1 : Int)) x15 x16 x17
            )
          ) ∧ ((¬ (x4 < a2)) →
            (((0 : Int) ≠ (0 : Int)) →
              Q (([] : List Int),0,0)
            ) ∧ (((0 : Int) = (0 : Int)) →
              Q (x6,x7,0)
            )
          )
      )
    )
  )

def farkas_Prove.wp (a1 : (List api_Cond)) (a2 : Int) (Q : (List Int) × Int → Prop) : Prop :=
  ∀ (x1 : Int),x1 = (farkas_asked.fn a1 a2) →
  ((x1 ≠ (0 : Int)) →
    Q (([] : List Int),x1)
  ) ∧ ((x1 = (0 : Int)) →
    (farkas_eliminated.pre a1 a2) ∧
    ∀ (x2 : (List farkas_table) × Int),x2 = (farkas_eliminated.fn a1 a2) →
    ((x2.2 ≠ (0 : Int)) →
      Q (([] : List Int),x2.2)
    ) ∧ ((x2.2 = (0 : Int)) →
      ((0 : Int) ≤ (0 : Int) ∧ (0 : Int) < (x2.1.length : Int)) ∧
      (farkas_table_refuted.pre (x2.1.getD (Int.toNat (0 : Int)) d_farkas_table)) ∧
      ∀ (x3 : (List Int) × Bool),x3 = (farkas_table_refuted.fn (x2.1.getD (Int.toNat (0 : Int)) d_farkas_table)) →
      ∀ (x4 : (List Int)),x4 = x3.1 →
      ((x3.2 = false) →
        Q (([] : List Int),5)
      ) ∧ ((x3.2 = true) →
        Q (x4,0)
      )
    )
  )

def law09_ge.wp (a1 : Int) (a2 : (List Int)) (Q : api_Cond → Prop) : Prop :=
  Q (0,0,(a2,a1))

def ref02_Order.wp (a1 : (List Int)) (a2 : (List Int)) (Q : Int → Prop) : Prop :=
  ∀ (_ : a1.length ≤ 9223372036854775807),
  ∃ I4 : Nat → Int → Prop,
  (∃ n,I4 n (0 : Int)) ∧
  ∀ (n4 : Nat) (x2 : Int),I4 n4 x2 →
    ((x2 < (a1.length : Int)) →
      ((0 : Int) ≤ x2 ∧ x2 < (a1.length : Int)) ∧
      ((0 : Int) ≤ x2 ∧ x2 < (a2.length : Int)) ∧
      (((gI a1 x2) < (gI a2 x2)) →
        Q (-1)
      ) ∧ ((¬ ((gI a1 x2) < (gI a2 x2))) →
        ((0 : Int) ≤ x2 ∧ x2 < (a1.length : Int)) ∧
        ((0 : Int) ≤ x2 ∧ x2 < (a2.length : Int)) ∧
        (((gI a1 x2) > (gI a2 x2)) →
          Q (1 : Int)
        ) ∧ ((¬ ((gI a1 x2) > (gI a2 x2))) →
          (i64 (x2 + (1 : Int))) ∧
          ∃ m,m < n4 ∧ I4 m (x2 + (1 : Int))
        )
      )
    ) ∧ ((¬ (x2 < (a1.length : Int))) →
      Q (0 : Int)
    )

def law09_list.wp (a1 : (List Int)) (a2 : (List Int)) (Q : Bool → Prop) : Prop :=
  (((a1.length : Int) == (a2.length : Int)) = true → ref02_Order.pre a1 a2) ∧
  ∀ (x1 : Int),x1 = (ref02_Order.fn a1 a2) →
  Q (((a1.length : Int) == (a2.length : Int)) && (x1 == (0 : Int)))

def law09_awake.wp (Q : Bool → Prop) : Prop :=
  (law09_ge.pre (-3) [1]) ∧
  (law09_ge.pre (2 : Int) [(-1)]) ∧
  ∀ (x1 : (List Int) × Int),x1 = (farkas_Prove.fn [law09_ge.fn (-3) [1],law09_ge.fn (2 : Int) [(-1)]] (1 : Int)) →
  ∀ (x2 : (List Int)),x2 = x1.1 →
  ∀ (x3 : Int),x3 = x1.2 →
  ∀ (x4 : (List Int) × Int),x4 = (farkas_Prove.fn [(1,0,([2],(-1)))] (1 : Int)) →
  ∀ (x5 : Int),x5 = x4.2 →
  ∀ (x6 : (List Int) × Int × Int),x6 = (farkas_Inner.fn [(1,0,([2],(-1)))] (1 : Int)) →
  ∀ (x7 : (List Int)),x7 = x6.1 →
  ∀ (x8 : Int),x8 = x6.2.1 →
  ∀ (x9 : Int),x9 = x6.2.2 →
  (law09_ge.pre (0 : Int) [1,(-1)]) ∧
  (law09_ge.pre (-1) [(-1),1]) ∧
  ∀ (x10 : (List Int) × Int),x10 = (farkas_Prove.fn [law09_ge.fn (0 : Int) [1,(-1)],law09_ge.fn (-1) [(-1),1]] (2 : Int)) →
  ∀ (x11 : (List Int)),x11 = x10.1 →
  ∀ (x12 : Int),x12 = x10.2 →
  Q ((((((((x3 == (0 : Int)) && (law09_list.fn x2 [1,1])) && (x5 == (5 : Int))) && (x9 == (0 : Int))) && (law09_list.fn x7 [1])) && (x8 == (2 : Int))) && (x12 == (0 : Int))) && (law09_list.fn x11 [1,1]))

def law09_light.wp (a1 : (List api_Cond)) (a2 : Int) (Q : Bool → Prop) : Prop :=
  Q ((decide ((a1.length : Int) ≤ a2)) || ((decide ((a1.length : Int) > (96 : Int))) && (decide ((a1.length : Int) ≤ (100 : Int)))))

def ref09_Int_Abs.wp (a1 : ref09_Int) (Q : ref09_Int → Prop) : Prop :=
  Q (false,a1.2)

def ref09_trim.wp (a1 : (List Int)) (Q : (List Int) → Prop) : Prop :=
  ∃ I4 : Nat → (List Int) → Prop,
  (∃ n,I4 n a1) ∧
  ∀ (n4 : Nat) (x2 : (List Int)),I4 n4 x2 →
    ((decide ((x2.length : Int) > (0 : Int))) = true → i64 ((x2.length : Int) - (1 : Int))) ∧
    ((decide ((x2.length : Int) > (0 : Int))) = true → (0 : Int) ≤ ((x2.length : Int) - (1 : Int)) ∧ ((x2.length : Int) - (1 : Int)) < (x2.length : Int)) ∧
    ∀ (_ : x2.length ≤ 9223372036854775807),
    ((((decide ((x2.length : Int) > (0 : Int))) && ((gI x2 ((x2.length : Int) - (1 : Int))) == (0 : Int))) = true) →
      (i64 ((x2.length : Int) - (1 : Int))) ∧
      ((0 : Int) ≤ ((x2.length : Int) - (1 : Int)) ∧ ((x2.length : Int) - (1 : Int)) ≤ (x2.length : Int)) ∧
      ∃ m,m < n4 ∧ I4 m (x2.take (Int.toNat ((x2.length : Int) - (1 : Int))))
    ) ∧ ((((decide ((x2.length : Int) > (0 : Int))) && ((gI x2 ((x2.length : Int) - (1 : Int))) == (0 : Int))) = false) →
      Q x2
    )

def ref09_minus.wp (a1 : (List Int)) (a2 : (List Int)) (Q : (List Int) → Prop) : Prop :=
  ∀ (_ : a1.length ≤ 9223372036854775807),
  ∃ I10 : Nat → Int → Int → (List Int) → Prop,
  (∃ n,I10 n (0 : Int) (0 : Int) ([] : List Int)) ∧
  ∀ (n10 : Nat) (x4 : Int) (x5 : Int) (x6 : (List Int)),I10 n10 x4 x5 x6 →
    ((x5 < (a1.length : Int)) →
      ((0 : Int) ≤ x5 ∧ x5 < (a1.length : Int)) ∧
      (i64 ((gI a1 x5) - x4)) ∧
      ∀ (_ : a2.length ≤ 9223372036854775807),
      ∃ R12 : Int → Prop,
      (
        ((x5 < (a2.length : Int)) →
          ((0 : Int) ≤ x5 ∧ x5 < (a2.length : Int)) ∧
          (i64 (((gI a1 x5) - x4) - (gI a2 x5))) ∧
          R12 (((gI a1 x5) - x4) - (gI a2 x5))
        ) ∧ ((¬ (x5 < (a2.length : Int))) →
          R12 ((gI a1 x5) - x4)
        )
      ) ∧
      ∀ (x11 : Int),R12 x11 →
        ((x11 < (0 : Int)) →
          (i64 (x11 + (65536 : Int))) ∧
          ((x6.length + [x11 + (65536 : Int)].length) * 8 ≤ 140737488355328 ∧ x6.length + [x11 + (65536 : Int)].length ≤ 9223372036854775807) ∧
          (i64 (x5 + (1 : Int))) ∧
          ∃ m,m < n10 ∧ I10 m (1 : Int) (x5 + (1 : Int)) (x6 ++ [x11 + (65536 : Int)])
        ) ∧ ((¬ (x11 < (0 : Int))) →
          ((x6.length + [x11].length) * 8 ≤ 140737488355328 ∧ x6.length + [x11].length ≤ 9223372036854775807) ∧
          (i64 (x5 + (1 : Int))) ∧
          ∃ m,m < n10 ∧ I10 m (0 : Int) (x5 + (1 : Int)) (x6 ++ [x11])
        )
    ) ∧ ((¬ (x5 < (a1.length : Int))) →
      (ref09_trim.pre x6) ∧
      ∀ (x13 : (List Int)),x13 = (ref09_trim.fn x6) →
      Q x13
    )

def ref09_order.wp (a1 : (List Int)) (a2 : (List Int)) (Q : Int → Prop) : Prop :=
  ∀ (_ : a1.length ≤ 9223372036854775807),
  ∀ (_ : a2.length ≤ 9223372036854775807),
  (((a1.length : Int) ≠ (a2.length : Int)) →
    (((a1.length : Int) < (a2.length : Int)) →
      Q (-1)
    ) ∧ ((¬ ((a1.length : Int) < (a2.length : Int))) →
      Q (1 : Int)
    )
  ) ∧ (((a1.length : Int) = (a2.length : Int)) →
    (i64 ((a1.length : Int) - (1 : Int))) ∧
    ∀ (_ : a1.length ≤ 9223372036854775807),
    ∃ I4 : Nat → Int → Prop,
    (∃ n,I4 n ((a1.length : Int) - (1 : Int))) ∧
    ∀ (n4 : Nat) (x2 : Int),I4 n4 x2 →
      ((x2 ≥ (0 : Int)) →
        ((0 : Int) ≤ x2 ∧ x2 < (a1.length : Int)) ∧
        ((0 : Int) ≤ x2 ∧ x2 < (a2.length : Int)) ∧
        (((gI a1 x2) ≠ (gI a2 x2)) →
          ((0 : Int) ≤ x2 ∧ x2 < (a1.length : Int)) ∧
          ((0 : Int) ≤ x2 ∧ x2 < (a2.length : Int)) ∧
          (((gI a1 x2) < (gI a2 x2)) →
            Q (-1)
          ) ∧ ((¬ ((gI a1 x2) < (gI a2 x2))) →
            Q (1 : Int)
          )
        ) ∧ (((gI a1 x2) = (gI a2 x2)) →
          (i64 (x2 - (1 : Int))) ∧
          ∃ m,m < n4 ∧ I4 m (x2 - (1 : Int))
        )
      ) ∧ ((¬ (x2 ≥ (0 : Int))) →
        Q (0 : Int)
      )
  )

def ref09_plus.wp (a1 : (List Int)) (a2 : (List Int)) (Q : (List Int) → Prop) : Prop :=
  ∃ I10 : Nat → Int → Int → (List Int) → Prop,
  (∃ n,I10 n (0 : Int) (0 : Int) ([] : List Int)) ∧
  ∀ (n10 : Nat) (x4 : Int) (x5 : Int) (x6 : (List Int)),I10 n10 x4 x5 x6 →
    ∀ (_ : a1.length ≤ 9223372036854775807),
    (((((decide (x5 < (a1.length : Int))) || (decide (x5 < (a2.length : Int)))) || (decide (x4 > (0 : Int)))) = true) →
      ∀ (_ : a1.length ≤ 9223372036854775807),
      ∃ R12 : Int → Prop,
      (
        ((x5 < (a1.length : Int)) →
          ((0 : Int) ≤ x5 ∧ x5 < (a1.length : Int)) ∧
          (i64 (x4 + (gI a1 x5))) ∧
          R12 (x4 + (gI a1 x5))
        ) ∧ ((¬ (x5 < (a1.length : Int))) →
          R12 x4
        )
      ) ∧
      ∀ (x11 : Int),R12 x11 →
        ∀ (_ : a2.length ≤ 9223372036854775807),
        ((x5 < (a2.length : Int)) →
          ((0 : Int) ≤ x5 ∧ x5 < (a2.length : Int)) ∧
          (i64 (x11 + (gI a2 x5))) ∧
          ((x6.length + [IntKind.wrap .i64 ((BitVec.ofInt 64 (x11 + (gI a2 x5)) &&& BitVec.ofInt 64 (65535 : Int)).toNat : Int)].length) * 8 ≤ 140737488355328 ∧ x6.length + [IntKind.wrap .i64 ((BitVec.ofInt 64 (x11 + (gI a2 x5)) &&& BitVec.ofInt 64 (65535 : Int)).toNat : Int)].length ≤ 9223372036854775807) ∧
          ∀ (x13 : (List Int)),x13 = (x6 ++ [IntKind.wrap .i64 ((BitVec.ofInt 64 (x11 + (gI a2 x5)) &&& BitVec.ofInt 64 (65535 : Int)).toNat : Int)]) →
          (0 ≤ (16 : Int)) ∧
          ∀ (x14 : Int),x14 = (Int.fdiv (x11 + (gI a2 x5)) (2 ^ (min (Int.toNat (16 : Int)) 64))) →
          (i64 (x5 + (1 : Int))) ∧
          ∃ m,m < n10 ∧ I10 m x14 (x5 + (1 : Int)) x13
        ) ∧ ((¬ (x5 < (a2.length : Int))) →
          ((x6.length + [IntKind.wrap .i64 ((BitVec.ofInt 64 x11 &&& BitVec.ofInt 64 (65535 : Int)).toNat : Int)].length) * 8 ≤ 140737488355328 ∧ x6.length + [IntKind.wrap .i64 ((BitVec.ofInt 64 x11 &&& BitVec.ofInt 64 (65535 : Int)).toNat : Int)].length ≤ 9223372036854775807) ∧
          ∀ (x15 : (List Int)),x15 = (x6 ++ [IntKind.wrap .i64 ((BitVec.ofInt 64 x11 &&& BitVec.ofInt 64 (65535 : Int)).toNat : Int)]) →
          (0 ≤ (16 : Int)) ∧
          ∀ (x16 : Int),x16 = (Int.fdiv x11 (2 ^ (min (Int.toNat (16 : Int)) 64))) →
          (i64 (x5 + (1 : Int))) ∧
          ∃ m,m < n10 ∧ I10 m x16 (x5 + (1 : Int)) x15
        )
    ) ∧ (((((decide (x5 < (a1.length : Int))) || (decide (x5 < (a2.length : Int)))) || (decide (x4 > (0 : Int)))) = false) →
      (ref09_trim.pre x6) ∧
      ∀ (x17 : (List Int)),x17 = (ref09_trim.fn x6) →
      Q x17
    )

def ref09_Int_Add.wp (a1 : ref09_Int) (a2 : ref09_Int) (Q : ref09_Int → Prop) : Prop :=
  ((a1.1 = a2.1) →
    (ref09_plus.pre a1.2 a2.2) ∧
    ∀ (x1 : (List Int)),x1 = (ref09_plus.fn a1.2 a2.2) →
    Q (a1.1,x1)
  ) ∧ ((a1.1 ≠ a2.1) →
    (ref09_order.pre a1.2 a2.2) ∧
    ∀ (x2 : Int),x2 = (ref09_order.fn a1.2 a2.2) →
    ((x2 ≥ (0 : Int)) →
      (ref09_minus.pre a1.2 a2.2) ∧
      ∀ (x3 : (List Int)),x3 = (ref09_minus.fn a1.2 a2.2) →
      Q (a1.1,x3)
    ) ∧ ((¬ (x2 ≥ (0 : Int))) →
      (ref09_minus.pre a2.2 a1.2) ∧
      ∀ (x4 : (List Int)),x4 = (ref09_minus.fn a2.2 a1.2) →
      Q (a2.1,x4)
    )
  )

def ref09_Int_Neg.wp (a1 : ref09_Int) (Q : ref09_Int → Prop) : Prop :=
  Q (!a1.1,a1.2)

def ref09_Int_Sign.wp (a1 : ref09_Int) (Q : Int → Prop) : Prop :=
  ∀ (_ : a1.2.length ≤ 9223372036854775807),
  (((a1.2.length : Int) = (0 : Int)) →
    Q (0 : Int)
  ) ∧ (((a1.2.length : Int) ≠ (0 : Int)) →
    ((a1.1 = true) →
      Q (-1)
    ) ∧ ((a1.1 = false) →
      Q (1 : Int)
    )
  )

def ref09_Int_Cmp.wp (a1 : ref09_Int) (a2 : ref09_Int) (Q : Int → Prop) : Prop :=
  (ref09_Int_Add.pre a1 (ref09_Int_Neg.fn a2)) ∧
  ∀ (x1 : ref09_Int),x1 = (ref09_Int_Neg.fn a2) →
  ∀ (x2 : ref09_Int),x2 = (ref09_Int_Add.fn a1 x1) →
  ∀ (x3 : Int),x3 = (ref09_Int_Sign.fn x2) →
  Q x3

def ref09_Of.wp (a1 : Int) (Q : ref09_Int → Prop) : Prop :=
  ∃ R2 : Int → Prop,
  (
    ((a1 < (0 : Int)) →
      R2 (IntKind.wrap .u64 (-(IntKind.wrap .u64 a1)))
    ) ∧ ((¬ (a1 < (0 : Int))) →
      R2 (IntKind.wrap .u64 a1)
    )
  ) ∧
  ∀ (x1 : Int),R2 x1 →
    ∃ I9 : Nat → Int → (List Int) → Prop,
    (∃ n,I9 n x1 ([] : List Int)) ∧
    ∀ (n9 : Nat) (x5 : Int) (x6 : (List Int)),I9 n9 x5 x6 →
      ((x5 > (0 : Int)) →
        (i64 ((IntKind.wrap .u64 ((BitVec.ofInt 64 x5 &&& BitVec.ofInt 64 (65535 : Int)).toNat : Int)))) ∧
        ((x6.length + [IntKind.wrap .u64 ((BitVec.ofInt 64 x5 &&& BitVec.ofInt 64 (65535 : Int)).toNat : Int)].length) * 8 ≤ 140737488355328 ∧ x6.length + [IntKind.wrap .u64 ((BitVec.ofInt 64 x5 &&& BitVec.ofInt 64 (65535 : Int)).toNat : Int)].length ≤ 9223372036854775807) ∧
        ∀ (x10 : (List Int)),x10 = (x6 ++ [IntKind.wrap .u64 ((BitVec.ofInt 64 x5 &&& BitVec.ofInt 64 (65535 : Int)).toNat : Int)]) →
        (0 ≤ (16 : Int)) ∧
        ∃ m,m < n9 ∧ I9 m (Int.fdiv x5 (2 ^ (min (Int.toNat (16 : Int)) 64))) x10
      ) ∧ ((¬ (x5 > (0 : Int))) →
        Q (decide (a1 < (0 : Int)),x6)
      )

def ref09_Int_Quo.wp (a1 : ref09_Int) (a2 : ref09_Int) (Q : ref09_Int × ref09_Int → Prop) : Prop :=
  (i64 ((16 : Int) * (a1.2.length : Int))) ∧
  (i64 (((16 : Int) * (a1.2.length : Int)) - (1 : Int))) ∧
  ∀ (x1 : Int),x1 = (((16 : Int) * (a1.2.length : Int)) - (1 : Int)) →
  ∀ (_ : a1.2.length ≤ 9223372036854775807),
  ∃ I12 : Nat → Int → Bool → (List Int) → Bool → (List Int) → Prop,
  (∃ n,I12 n x1 false ([] : List Int) false ([] : List Int)) ∧
  ∀ (n12 : Nat) (x2 : Int) (x3 : Bool) (x4 : (List Int)) (x5 : Bool) (x6 : (List Int)),I12 n12 x2 x3 x4 x5 x6 →
    ((x2 ≥ (0 : Int)) →
      (ref09_Int_Add.pre (x5,x6) (x5,x6)) ∧
      ∀ (x13 : ref09_Int),x13 = (ref09_Int_Add.fn (x5,x6) (x5,x6)) →
      ∀ (x14 : (List Int)),x14 = x13.2 →
      ((16 : Int) ≠ 0 ∧ i64 (Int.tdiv x2 (16 : Int))) ∧
      ((0 : Int) ≤ (Int.tdiv x2 (16 : Int)) ∧ (Int.tdiv x2 (16 : Int)) < (a1.2.length : Int)) ∧
      ((16 : Int) ≠ 0) ∧
      (0 ≤ (Int.tmod x2 (16 : Int))) ∧
      ∃ R17 : Bool → (List Int) → Prop,
      (
        (((IntKind.wrap .i64 ((BitVec.ofInt 64 (Int.fdiv (gI a1.2 (Int.tdiv x2 (16 : Int))) (2 ^ (min (Int.toNat (Int.tmod x2 (16 : Int))) 64))) &&& BitVec.ofInt 64 (1 : Int)).toNat : Int)) = (1 : Int)) →
          (ref09_Of.pre (1 : Int)) ∧
          (ref09_Int_Add.pre (x13.1,x14) (ref09_Of.fn (1 : Int))) ∧
          R17 ((ref09_Int_Add.fn (x13.1,x14) (ref09_Of.fn (1 : Int))).1) ((ref09_Int_Add.fn (x13.1,x14) (ref09_Of.fn (1 : Int))).2)
        ) ∧ (((IntKind.wrap .i64 ((BitVec.ofInt 64 (Int.fdiv (gI a1.2 (Int.tdiv x2 (16 : Int))) (2 ^ (min (Int.toNat (Int.tmod x2 (16 : Int))) 64))) &&& BitVec.ofInt 64 (1 : Int)).toNat : Int)) ≠ (1 : Int)) →
          R17 x13.1 x14
        )
      ) ∧
      ∀ (x15 : Bool) (x16 : (List Int)),R17 x15 x16 →
        (ref09_Int_Add.pre (x3,x4) (x3,x4)) ∧
        ∀ (x18 : ref09_Int),x18 = (ref09_Int_Add.fn (x3,x4) (x3,x4)) →
        ∀ (x19 : (List Int)),x19 = x18.2 →
        (ref09_Int_Cmp.pre (x15,x16) a2) ∧
        ∀ (x20 : Int),x20 = (ref09_Int_Cmp.fn (x15,x16) a2) →
        ((x20 ≥ (0 : Int)) →
          (ref09_Int_Add.pre (x15,x16) (ref09_Int_Neg.fn a2)) ∧
          ∀ (x21 : ref09_Int),x21 = (ref09_Int_Neg.fn a2) →
          ∀ (x22 : ref09_Int),x22 = (ref09_Int_Add.fn (x15,x16) x21) →
          ∀ (x23 : (List Int)),x23 = x22.2 →
          (ref09_Of.pre (1 : Int)) ∧
          (ref09_Int_Add.pre (x18.1,x19) (ref09_Of.fn (1 : Int))) ∧
          ∀ (x24 : ref09_Int),x24 = (ref09_Of.fn (1 : Int)) →
          ∀ (x25 : ref09_Int),x25 = (ref09_Int_Add.fn (x18.1,x19) x24) →
          ∀ (x26 : (List Int)),x26 = x25.2 →
          (i64 (x2 - (1 : Int))) ∧
          ∃ m,m < n12 ∧ I12 m (x2 - (1 : Int)) x25.1 x26 x22.1 x23
        ) ∧ ((¬ (x20 ≥ (0 : Int))) →
          (i64 (x2 - (1 : Int))) ∧
          ∃ m,m < n12 ∧ I12 m (x2 - (1 : Int)) x18.1 x19 x15 x16
        )
    ) ∧ ((¬ (x2 ≥ (0 : Int))) →
      Q ((x3,x4),(x5,x6))
    )

def ref09_Gcd.wp (a1 : ref09_Int) (a2 : ref09_Int) (Q : ref09_Int → Prop) : Prop :=
  ∀ (x1 : ref09_Int),x1 = (ref09_Int_Abs.fn a1) →
  ∀ (x2 : ref09_Int),x2 = (ref09_Int_Abs.fn a2) →
  ∃ I15 : Nat → Bool → (List Int) → Bool → (List Int) → Prop,
  (∃ n,I15 n x1.1 x1.2 x2.1 x2.2) ∧
  ∀ (n15 : Nat) (x7 : Bool) (x8 : (List Int)) (x9 : Bool) (x10 : (List Int)),I15 n15 x7 x8 x9 x10 →
    ∀ (x16 : Int),x16 = (ref09_Int_Sign.fn (x9,x10)) →
    ((x16 ≠ (0 : Int)) →
      (ref09_Int_Quo.pre (x7,x8) (x9,x10)) ∧
      ∀ (x17 : ref09_Int × ref09_Int),x17 = (ref09_Int_Quo.fn (x7,x8) (x9,x10)) →
      ∀ (x18 : (List Int)),x18 = x17.1.2 →
      ∀ (x19 : (List Int)),x19 = x17.2.2 →
      ∃ m,m < n15 ∧ I15 m x9 x10 x17.2.1 x19
    ) ∧ ((x16 = (0 : Int)) →
      Q (x7,x8)
    )

def ref09_Int_Mul.wp (a1 : ref09_Int) (a2 : ref09_Int) (Q : ref09_Int → Prop) : Prop :=
  (i64 ((a1.2.length : Int) + (a2.2.length : Int))) ∧
  ((0 : Int) ≤ ((a1.2.length : Int) + (a2.2.length : Int)) ∧ ((a1.2.length : Int) + (a2.2.length : Int)) ≤ ((a1.2.length : Int) + (a2.2.length : Int)) ∧ ((a1.2.length : Int) + (a2.2.length : Int)) * 8 ≤ 140737488355328 ∧ ((a1.2.length : Int) + (a2.2.length : Int)) ≤ 9223372036854775807) ∧
  ∀ (x1 : (List Int)),x1 = (List.replicate (Int.toNat ((a1.2.length : Int) + (a2.2.length : Int))) (0 : Int)) →
  ∀ (_ : a1.2.length ≤ 9223372036854775807),
  ∀ (_ : a2.2.length ≤ 9223372036854775807),
  ∀ (_ : a1.2.length ≤ 9223372036854775807),
  ∃ I8 : Nat → Int → (List Int) → Prop,
  (∃ n,I8 n (0 : Int) x1) ∧
  ∀ (n8 : Nat) (x4 : Int) (x5 : (List Int)),I8 n8 x4 x5 →
    ((x4 < (a1.2.length : Int)) →
      ((0 : Int) ≤ x4 ∧ x4 < (a1.2.length : Int)) ∧
      ∀ (_ : a2.2.length ≤ 9223372036854775807),
      ∃ I18 : Nat → Int → Int → (List Int) → Prop,
      (∃ n,I18 n (0 : Int) (0 : Int) x5) ∧
      ∀ (n18 : Nat) (x12 : Int) (x13 : Int) (x14 : (List Int)),I18 n18 x12 x13 x14 →
        ((x13 < (a2.2.length : Int)) →
          ((0 : Int) ≤ x13 ∧ x13 < (a2.2.length : Int)) ∧
          (i64 (x4 + x13)) ∧
          ((0 : Int) ≤ (x4 + x13) ∧ (x4 + x13) < (x14.length : Int)) ∧
          (Int.toNat (x4 + x13) < x14.length) ∧
          (i64 ((gI a1.2 x4) * (gI a2.2 x13))) ∧
          (i64 ((x14.getD (Int.toNat (x4 + x13)) (0 : Int)) + ((gI a1.2 x4) * (gI a2.2 x13)))) ∧
          (i64 (x12 + ((x14.getD (Int.toNat (x4 + x13)) (0 : Int)) + ((gI a1.2 x4) * (gI a2.2 x13))))) ∧
          ∀ (x19 : Int),x19 = (x12 + ((x14.getD (Int.toNat (x4 + x13)) (0 : Int)) + ((gI a1.2 x4) * (gI a2.2 x13)))) →
          (i64 (x4 + x13)) ∧
          ((0 : Int) ≤ (x4 + x13) ∧ (x4 + x13) < (x14.length : Int)) ∧
          (Int.toNat (x4 + x13) < x14.length) ∧
          ∀ (x20 : (List Int)),x20 = (x14.set (Int.toNat (x4 + x13)) (IntKind.wrap .i64 ((BitVec.ofInt 64 x19 &&& BitVec.ofInt 64 (65535 : Int)).toNat : Int))) →
          (0 ≤ (16 : Int)) ∧
          ∀ (x21 : Int),x21 = (Int.fdiv x19 (2 ^ (min (Int.toNat (16 : Int)) 64))) →
          (i64 (x13 + (1 : Int))) ∧
          ∃ m,m < n18 ∧ I18 m x21 (x13 + (1 : Int)) x20
        ) ∧ ((¬ (x13 < (a2.2.length : Int))) →
          (i64 (x4 + (a2.2.length : Int))) ∧
          ((0 : Int) ≤ (x4 + (a2.2.length : Int)) ∧ (x4 + (a2.2.length : Int)) < (x14.length : Int)) ∧
          (Int.toNat (x4 + (a2.2.length : Int)) < x14.length) ∧
          (i64 ((x14.getD (Int.toNat (x4 + (a2.2.length : Int))) (0 : Int)) + x12)) ∧
          ((0 : Int) ≤ (x4 + (a2.2.length : Int)) ∧ (x4 + (a2.2.length : Int)) < (x14.length : Int)) ∧
          (Int.toNat (x4 + (a2.2.length : Int)) < x14.length) ∧
          ∀ (x22 : (List Int)),x22 = (x14.set (Int.toNat (x4 + (a2.2.length : Int))) ((x14.getD (Int.toNat (x4 + (a2.2.length : Int))) (0 : Int)) + x12)) →
          ∀ (_ : a2.2.length ≤ 9223372036854775807),
          (i64 (x4 + (1 : Int))) ∧
          ∃ m,m < n8 ∧ I8 m (x4 + (1 : Int)) x22
        )
    ) ∧ ((¬ (x4 < (a1.2.length : Int))) →
      (ref09_trim.pre x5) ∧
      ∀ (x23 : (List Int)),x23 = (ref09_trim.fn x5) →
      Q (a1.1 != a2.1,x23)
    )

def ref09_Int_Over.wp (a1 : ref09_Int) (a2 : ref09_Int) (Q : ref09_Int → Prop) : Prop :=
  (ref09_Of.pre (1 : Int)) ∧
  (ref09_Int_Cmp.pre a2 (ref09_Of.fn (1 : Int))) ∧
  ∀ (x1 : ref09_Int),x1 = (ref09_Of.fn (1 : Int)) →
  ∀ (x2 : Int),x2 = (ref09_Int_Cmp.fn a2 x1) →
  ((x2 = (0 : Int)) →
    Q a1
  ) ∧ ((x2 ≠ (0 : Int)) →
    (ref09_Int_Quo.pre (ref09_Int_Abs.fn a1) a2) ∧
    ∀ (x3 : ref09_Int),x3 = (ref09_Int_Abs.fn a1) →
    ∀ (x4 : ref09_Int × ref09_Int),x4 = (ref09_Int_Quo.fn x3 a2) →
    ∀ (x5 : (List Int)),x5 = x4.1.2 →
    ∀ (x6 : (List Int)),x6 = x4.2.2 →
    Q (a1.1,x5)
  )

def ref09_Int_Small.wp (a1 : ref09_Int) (Q : Int × Bool → Prop) : Prop :=
  (ref09_Of.pre (268435456 : Int)) ∧
  (ref09_Int_Cmp.pre (ref09_Int_Abs.fn a1) (ref09_Of.fn (268435456 : Int))) ∧
  ∀ (x1 : ref09_Int),x1 = (ref09_Int_Abs.fn a1) →
  ∀ (x2 : ref09_Int),x2 = (ref09_Of.fn (268435456 : Int)) →
  ∀ (x3 : Int),x3 = (ref09_Int_Cmp.fn x1 x2) →
  ((x3 > (0 : Int)) →
    Q (0,false)
  ) ∧ ((¬ (x3 > (0 : Int))) →
    (i64 ((a1.2.length : Int) - (1 : Int))) ∧
    ∀ (x4 : Int),x4 = ((a1.2.length : Int) - (1 : Int)) →
    ∀ (_ : a1.2.length ≤ 9223372036854775807),
    ∃ I11 : Nat → Int → Int → Prop,
    (∃ n,I11 n (0 : Int) x4) ∧
    ∀ (n11 : Nat) (x7 : Int) (x8 : Int),I11 n11 x7 x8 →
      ((x8 ≥ (0 : Int)) →
        (0 ≤ (16 : Int)) ∧
        ((0 : Int) ≤ x8 ∧ x8 < (a1.2.length : Int)) ∧
        ∀ (x12 : Int),x12 = (IntKind.wrap .i64 ((BitVec.ofInt 64 (IntKind.wrap .i64 (x7 * 2 ^ (min (Int.toNat (16 : Int)) 64))) ||| BitVec.ofInt 64 (gI a1.2 x8)).toNat : Int)) →
        (i64 (x8 - (1 : Int))) ∧
        ∃ m,m < n11 ∧ I11 m x12 (x8 - (1 : Int))
      ) ∧ ((¬ (x8 ≥ (0 : Int))) →
        ((a1.1 = true) →
          (i64 (-x7)) ∧
          Q (-x7,true)
        ) ∧ ((a1.1 = false) →
          Q (x7,true)
        )
      )
  )

def ref01_Fits.wp (a1 : Int) (Q : Bool → Prop) : Prop :=
  Q ((decide (a1 ≥ (-1048576))) && (decide (a1 ≤ (1048576 : Int))))

def ref02_Valid.wp (a1 : api_Lin) (Q : Bool → Prop) : Prop :=
  ∀ (_ : a1.1.length ≤ 9223372036854775807),
  ∃ I4 : Nat → Int → Prop,
  (∃ n,I4 n (0 : Int)) ∧
  ∀ (n4 : Nat) (x2 : Int),I4 n4 x2 →
    ((x2 < (a1.1.length : Int)) →
      ((0 : Int) ≤ x2 ∧ x2 < (a1.1.length : Int)) ∧
      (((ref01_Fits.fn (gI a1.1 x2)) = false) →
        Q false
      ) ∧ (((ref01_Fits.fn (gI a1.1 x2)) = true) →
        (i64 (x2 + (1 : Int))) ∧
        ∃ m,m < n4 ∧ I4 m (x2 + (1 : Int))
      )
    ) ∧ ((¬ (x2 < (a1.1.length : Int))) →
      Q ((decide ((a1.1.length : Int) ≤ (12 : Int))) && (ref01_Fits.fn a1.2))
    )

def ref03_Valid.wp (a1 : api_Cond) (Q : Bool → Prop) : Prop :=
  (((ref02_Valid.fn a1.2.2) = false) →
    Q false
  ) ∧ (((ref02_Valid.fn a1.2.2) = true) →
    ((a1.1 = (2 : Int)) →
      Q ((decide (a1.2.1 ≥ (1 : Int))) && (decide (a1.2.1 ≤ (512 : Int))))
    ) ∧ ((a1.1 ≠ (2 : Int)) →
      Q (((a1.1 == (0 : Int)) || (a1.1 == (1 : Int))) && (a1.2.1 == (0 : Int)))
    )
  )

def ref09_asked.wp (a1 : (List api_Cond)) (a2 : Int) (Q : Int → Prop) : Prop :=
  ((((decide (a2 < (0 : Int))) || (decide (a2 > (12 : Int)))) = true) →
    Q (6 : Int)
  ) ∧ ((((decide (a2 < (0 : Int))) || (decide (a2 > (12 : Int)))) = false) →
    ∀ (_ : a1.length ≤ 9223372036854775807),
    (((a1.length : Int) > (96 : Int)) →
      Q (3 : Int)
    ) ∧ ((¬ ((a1.length : Int) > (96 : Int))) →
      ∀ (_ : a1.length ≤ 9223372036854775807),
      ∃ I7 : Nat → Int → Int → Prop,
      (∃ n,I7 n (0 : Int) (0 : Int)) ∧
      ∀ (n7 : Nat) (x3 : Int) (x4 : Int),I7 n7 x3 x4 →
        ((x4 < (a1.length : Int)) →
          ((0 : Int) ≤ x4 ∧ x4 < (a1.length : Int)) ∧
          ∀ (x8 : api_Cond),x8 = (a1.getD (Int.toNat x4) d_api_Cond) →
          (((ref03_Valid.fn x8) = false) →
            Q (1 : Int)
          ) ∧ (((ref03_Valid.fn x8) = true) →
            (((x8.2.2.1.length : Int) ≠ a2) →
              (i64 (x4 + (1 : Int))) ∧
              ∃ m,m < n7 ∧ I7 m (2 : Int) (x4 + (1 : Int))
            ) ∧ (((x8.2.2.1.length : Int) = a2) →
              (i64 (x4 + (1 : Int))) ∧
              ∃ m,m < n7 ∧ I7 m x3 (x4 + (1 : Int))
            )
          )
        ) ∧ ((¬ (x4 < (a1.length : Int))) →
          Q x3
        )
    )
  )

def ref09_refuted.wp (a1 : (List ref09_Row)) (Q : (List Int) × Bool → Prop) : Prop :=
  ∀ (_ : a1.length ≤ 9223372036854775807),
  ∃ I4 : Nat → Int → Prop,
  (∃ n,I4 n (0 : Int)) ∧
  ∀ (n4 : Nat) (x2 : Int),I4 n4 x2 →
    ((x2 < (a1.length : Int)) →
      ((0 : Int) ≤ x2 ∧ x2 < (a1.length : Int)) ∧
      ∀ (x5 : ref09_Row),x5 = (a1.getD (Int.toNat x2) d_ref09_Row) →
      ((x5.1.2 < (0 : Int)) →
        Q (x5.2.2,true)
      ) ∧ ((¬ (x5.1.2 < (0 : Int))) →
        (((x5.2.1 && (decide (x5.1.2 > (0 : Int)))) = true) →
          ∀ (_ : x5.2.2.length ≤ 9223372036854775807),
          ∃ I12 : Nat → Int → (List Int) → Prop,
          (∃ n,I12 n (0 : Int) ([] : List Int)) ∧
          ∀ (n12 : Nat) (x8 : Int) (x9 : (List Int)),I12 n12 x8 x9 →
            ((x8 < (x5.2.2.length : Int)) →
              ((0 : Int) ≤ x8 ∧ x8 < (x5.2.2.length : Int)) ∧
              (i64 (-(gI x5.2.2 x8))) ∧
              ((x9.length + [-(gI x5.2.2 x8)].length) * 8 ≤ 140737488355328 ∧ x9.length + [-(gI x5.2.2 x8)].length ≤ 9223372036854775807) ∧
              (i64 (x8 + (1 : Int))) ∧
              ∃ m,m < n12 ∧ I12 m (x8 + (1 : Int)) (x9 ++ [-(gI x5.2.2 x8)])
            ) ∧ ((¬ (x8 < (x5.2.2.length : Int))) →
              Q (x9,true)
            )
        ) ∧ (((x5.2.1 && (decide (x5.1.2 > (0 : Int)))) = false) →
          (i64 (x2 + (1 : Int))) ∧
          ∃ m,m < n4 ∧ I4 m (x2 + (1 : Int))
        )
      )
    ) ∧ ((¬ (x2 < (a1.length : Int))) →
      Q (([] : List Int),false)
    )

def ref09_Row_numbers.wp (a1 : ref09_Row) (Q : (List Int) → Prop) : Prop :=
  ((([] : List Int).length + a1.1.1.length) * 8 ≤ 140737488355328 ∧ ([] : List Int).length + a1.1.1.length ≤ 9223372036854775807) ∧
  (((([] : List Int) ++ a1.1.1).length + [a1.1.2].length) * 8 ≤ 140737488355328 ∧ (([] : List Int) ++ a1.1.1).length + [a1.1.2].length ≤ 9223372036854775807) ∧
  ((((([] : List Int) ++ a1.1.1) ++ [a1.1.2]).length + a1.2.2.length) * 8 ≤ 140737488355328 ∧ ((([] : List Int) ++ a1.1.1) ++ [a1.1.2]).length + a1.2.2.length ≤ 9223372036854775807) ∧
  ∀ (x1 : (List Int)),x1 = (((([] : List Int) ++ a1.1.1) ++ [a1.1.2]) ++ a1.2.2) →
  Q x1

def ref01_size.wp (a1 : Int) (Q : Int → Prop) : Prop :=
  ((a1 < (0 : Int)) →
    ∀ (x1 : Int),x1 = (IntKind.wrap .u64 (-(IntKind.wrap .u64 a1))) →
    Q x1
  ) ∧ ((¬ (a1 < (0 : Int))) →
    Q (IntKind.wrap .u64 a1)
  )

def ref01_Gcd.wp (a1 : (List Int)) (Q : Int × Int → Prop) : Prop :=
  ∀ (_ : a1.length ≤ 9223372036854775807),
  ∃ I7 : Nat → Int → Int → Prop,
  (∃ n,I7 n (0 : Int) (0 : Int)) ∧
  ∀ (n7 : Nat) (x3 : Int) (x4 : Int),I7 n7 x3 x4 →
    ((x4 < (a1.length : Int)) →
      ((0 : Int) ≤ x4 ∧ x4 < (a1.length : Int)) ∧
      (ref01_size.pre (gI a1 x4)) ∧
      ∀ (x8 : Int),x8 = (ref01_size.fn (gI a1 x4)) →
      ∃ I15 : Nat → Int → Int → Prop,
      (∃ n,I15 n x3 x8) ∧
      ∀ (n15 : Nat) (x11 : Int) (x12 : Int),I15 n15 x11 x12 →
        ((x12 ≠ (0 : Int)) →
          (x12 ≠ 0) ∧
          ∃ m,m < n15 ∧ I15 m x12 (Int.tmod x11 x12)
        ) ∧ ((x12 = (0 : Int)) →
          (i64 (x4 + (1 : Int))) ∧
          ∃ m,m < n7 ∧ I7 m x11 (x4 + (1 : Int))
        )
    ) ∧ ((¬ (x4 < (a1.length : Int))) →
      ((x3 = (9223372036854775808 : Int)) →
        Q (0,3)
      ) ∧ ((x3 ≠ (9223372036854775808 : Int)) →
        (i64 (x3)) ∧
        Q (x3,0)
      )
    )

def ref09_mix.wp (a1 : Int) (a2 : ref09_Row) (a3 : Int) (a4 : ref09_Row) (Q : ref09_Row → Prop) : Prop :=
  (ref09_Row_numbers.pre a2) ∧
  (ref09_Row_numbers.pre a4) ∧
  ∀ (x1 : (List Int)),x1 = (ref09_Row_numbers.fn a2) →
  ∀ (x2 : (List Int)),x2 = (ref09_Row_numbers.fn a4) →
  ((0 : Int) ≤ (x1.length : Int) ∧ (x1.length : Int) ≤ (x1.length : Int) ∧ (x1.length : Int) * 8 ≤ 140737488355328 ∧ (x1.length : Int) ≤ 9223372036854775807) ∧
  ∀ (x3 : (List Int)),x3 = (List.replicate (Int.toNat (x1.length : Int)) (0 : Int)) →
  ∀ (_ : x1.length ≤ 9223372036854775807),
  ∀ (_ : x1.length ≤ 9223372036854775807),
  ∃ I10 : Nat → Int → (List Int) → Prop,
  (∃ n,I10 n (0 : Int) x3) ∧
  ∀ (n10 : Nat) (x6 : Int) (x7 : (List Int)),I10 n10 x6 x7 →
    ((x6 < (x1.length : Int)) →
      ((0 : Int) ≤ x6 ∧ x6 < (x1.length : Int)) ∧
      (i64 (a1 * (gI x1 x6))) ∧
      ((0 : Int) ≤ x6 ∧ x6 < (x2.length : Int)) ∧
      (i64 (a3 * (gI x2 x6))) ∧
      (i64 ((a1 * (gI x1 x6)) + (a3 * (gI x2 x6)))) ∧
      ((0 : Int) ≤ x6 ∧ x6 < (x7.length : Int)) ∧
      (Int.toNat x6 < x7.length) ∧
      ∀ (x11 : (List Int)),x11 = (x7.set (Int.toNat x6) ((a1 * (gI x1 x6)) + (a3 * (gI x2 x6)))) →
      (i64 (x6 + (1 : Int))) ∧
      ∃ m,m < n10 ∧ I10 m (x6 + (1 : Int)) x11
    ) ∧ ((¬ (x6 < (x1.length : Int))) →
      (ref01_Gcd.pre x7) ∧
      ∀ (x12 : Int × Int),x12 = (ref01_Gcd.fn x7) →
      ∃ R14 : (List Int) → Prop,
      (
        ((x12.1 > (1 : Int)) →
          ∃ I21 : Nat → Int → (List Int) → Prop,
          (∃ n,I21 n (0 : Int) x7) ∧
          ∀ (n21 : Nat) (x17 : Int) (x18 : (List Int)),I21 n21 x17 x18 →
            ((x17 < (x7.length : Int)) →
              ((0 : Int) ≤ x17 ∧ x17 < (x18.length : Int)) ∧
              (Int.toNat x17 < x18.length) ∧
              (x12.1 ≠ 0 ∧ i64 (Int.tdiv (x18.getD (Int.toNat x17) (0 : Int)) x12.1)) ∧
              ((0 : Int) ≤ x17 ∧ x17 < (x18.length : Int)) ∧
              (Int.toNat x17 < x18.length) ∧
              ∀ (x22 : (List Int)),x22 = (x18.set (Int.toNat x17) (Int.tdiv (x18.getD (Int.toNat x17) (0 : Int)) x12.1)) →
              (i64 (x17 + (1 : Int))) ∧
              ∃ m,m < n21 ∧ I21 m (x17 + (1 : Int)) x22
            ) ∧ ((¬ (x17 < (x7.length : Int))) →
              R14 x18
            )
        ) ∧ ((¬ (x12.1 > (1 : Int))) →
          R14 x7
        )
      ) ∧
      ∀ (x13 : (List Int)),R14 x13 →
        ∀ (_ : a2.1.1.length ≤ 9223372036854775807),
        ((0 : Int) ≤ (a2.1.1.length : Int) ∧ (a2.1.1.length : Int) ≤ (x13.length : Int)) ∧
        ((0 : Int) ≤ (a2.1.1.length : Int) ∧ (a2.1.1.length : Int) < (x13.length : Int)) ∧
        (i64 ((a2.1.1.length : Int) + (1 : Int))) ∧
        ((0 : Int) ≤ ((a2.1.1.length : Int) + (1 : Int)) ∧ ((a2.1.1.length : Int) + (1 : Int)) ≤ (x13.length : Int)) ∧
        ∀ (x23 : (List Int)),x23 = (x13.take (Int.toNat (a2.1.1.length : Int))) →
        ∀ (x24 : (List Int)),x24 = (x13.drop (Int.toNat ((a2.1.1.length : Int) + (1 : Int)))) →
        Q ((x23,gI x13 (a2.1.1.length : Int)),a2.2.1,x24)
    )

def ref09_same.wp (a1 : ref09_Row) (a2 : ref09_Row) (Q : Bool → Prop) : Prop :=
  ((((a1.2.1 != a2.2.1) || (a1.1.2 != a2.1.2)) = true) →
    Q false
  ) ∧ ((((a1.2.1 != a2.2.1) || (a1.1.2 != a2.1.2)) = false) →
    ∀ (_ : a1.1.1.length ≤ 9223372036854775807),
    ∃ I4 : Nat → Int → Prop,
    (∃ n,I4 n (0 : Int)) ∧
    ∀ (n4 : Nat) (x2 : Int),I4 n4 x2 →
      ((x2 < (a1.1.1.length : Int)) →
        ((0 : Int) ≤ x2 ∧ x2 < (a1.1.1.length : Int)) ∧
        ((0 : Int) ≤ x2 ∧ x2 < (a2.1.1.length : Int)) ∧
        (((gI a1.1.1 x2) ≠ (gI a2.1.1 x2)) →
          Q false
        ) ∧ (((gI a1.1.1 x2) = (gI a2.1.1 x2)) →
          (i64 (x2 + (1 : Int))) ∧
          ∃ m,m < n4 ∧ I4 m (x2 + (1 : Int))
        )
      ) ∧ ((¬ (x2 < (a1.1.1.length : Int))) →
        Q true
      )
  )

def ref09_Eliminate.wp (a1 : (List ref09_Row)) (a2 : Int) (Q : (List ref09_Row) × Int → Prop) : Prop :=
  ∀ (_ : a1.length ≤ 9223372036854775807),
  ∃ I7 : Nat → Int → Int → Prop,
  (∃ n,I7 n (-1) (0 : Int)) ∧
  ∀ (n7 : Nat) (x3 : Int) (x4 : Int),I7 n7 x3 x4 →
    ((x4 < (a1.length : Int)) →
      ((0 : Int) ≤ x4 ∧ x4 < (a1.length : Int)) ∧
      ∀ (x8 : ref09_Row),x8 = (a1.getD (Int.toNat x4) d_ref09_Row) →
      ((0 : Int) ≤ a2 ∧ a2 < (x8.1.1.length : Int)) ∧
      (((x8.2.1 && ((gI x8.1.1 a2) != (0 : Int))) && (!(decide (x3 < (0 : Int))))) = true → i64 (-(gI x8.1.1 a2))) ∧
      (((x8.2.1 && ((gI x8.1.1 a2) != (0 : Int))) && (!(decide (x3 < (0 : Int))))) = true → (0 : Int) ≤ x3 ∧ x3 < (a1.length : Int)) ∧
      (((x8.2.1 && ((gI x8.1.1 a2) != (0 : Int))) && (!(decide (x3 < (0 : Int))))) = true → (0 : Int) ≤ a2 ∧ a2 < ((((a1.getD (Int.toNat x3) d_ref09_Row).1).1).length : Int)) ∧
      (((x8.2.1 && ((gI x8.1.1 a2) != (0 : Int))) && (!(decide (x3 < (0 : Int))))) = true → (0 : Int) ≤ x3 ∧ x3 < (a1.length : Int)) ∧
      (((x8.2.1 && ((gI x8.1.1 a2) != (0 : Int))) && (!(decide (x3 < (0 : Int))))) = true → (0 : Int) ≤ a2 ∧ a2 < ((((a1.getD (Int.toNat x3) d_ref09_Row).1).1).length : Int)) ∧
      (((x8.2.1 && ((gI x8.1.1 a2) != (0 : Int))) && (!(decide (x3 < (0 : Int))))) = true → i64 (-(gI (((a1.getD (Int.toNat x3) d_ref09_Row).1).1) a2))) ∧
      ((((x8.2.1 && ((gI x8.1.1 a2) != (0 : Int))) && ((decide (x3 < (0 : Int))) || (decide ((if (-(gI x8.1.1 a2)) > (gI x8.1.1 a2) then (-(gI x8.1.1 a2)) else (gI x8.1.1 a2)) < (if (-(gI (((a1.getD (Int.toNat x3) d_ref09_Row).1).1) a2)) > (gI (((a1.getD (Int.toNat x3) d_ref09_Row).1).1) a2) then (-(gI (((a1.getD (Int.toNat x3) d_ref09_Row).1).1) a2)) else (gI (((a1.getD (Int.toNat x3) d_ref09_Row).1).1) a2)))))) = true) →
        (i64 (x4 + (1 : Int))) ∧
        ∃ m,m < n7 ∧ I7 m x4 (x4 + (1 : Int))
      ) ∧ ((((x8.2.1 && ((gI x8.1.1 a2) != (0 : Int))) && ((decide (x3 < (0 : Int))) || (decide ((if (-(gI x8.1.1 a2)) > (gI x8.1.1 a2) then (-(gI x8.1.1 a2)) else (gI x8.1.1 a2)) < (if (-(gI (((a1.getD (Int.toNat x3) d_ref09_Row).1).1) a2)) > (gI (((a1.getD (Int.toNat x3) d_ref09_Row).1).1) a2) then (-(gI (((a1.getD (Int.toNat x3) d_ref09_Row).1).1) a2)) else (gI (((a1.getD (Int.toNat x3) d_ref09_Row).1).1) a2)))))) = false) →
        (i64 (x4 + (1 : Int))) ∧
        ∃ m,m < n7 ∧ I7 m x3 (x4 + (1 : Int))
      )
    ) ∧ ((¬ (x4 < (a1.length : Int))) →
      ∃ R10 : (List ref09_Row) → Prop,
      (
        ((x3 ≥ (0 : Int)) →
          ((0 : Int) ≤ x3 ∧ x3 < (a1.length : Int)) ∧
          ∀ (x11 : ref09_Row),x11 = (a1.getD (Int.toNat x3) d_ref09_Row) →
          ((0 : Int) ≤ a2 ∧ a2 < (x11.1.1.length : Int)) ∧
          ∃ R13 : Int → Prop,
          (
            (((gI x11.1.1 a2) < (0 : Int)) →
              R13 (-1)
            ) ∧ ((¬ ((gI x11.1.1 a2) < (0 : Int))) →
              R13 (1 : Int)
            )
          ) ∧
          ∀ (x12 : Int),R13 x12 →
            ∀ (_ : a1.length ≤ 9223372036854775807),
            ∃ I20 : Nat → Int → (List ref09_Row) → Prop,
            (∃ n,I20 n (0 : Int) ([] : List ref09_Row)) ∧
            ∀ (n20 : Nat) (x16 : Int) (x17 : (List ref09_Row)),I20 n20 x16 x17 →
              ((x16 < (a1.length : Int)) →
                ((0 : Int) ≤ x16 ∧ x16 < (a1.length : Int)) ∧
                ∀ (x21 : ref09_Row),x21 = (a1.getD (Int.toNat x16) d_ref09_Row) →
                ((x16 = x3) →
                  (i64 (x16 + (1 : Int))) ∧
                  ∃ m,m < n20 ∧ I20 m (x16 + (1 : Int)) x17
                ) ∧ ((x16 ≠ x3) →
                  ((0 : Int) ≤ a2 ∧ a2 < (x21.1.1.length : Int)) ∧
                  (((gI x21.1.1 a2) = (0 : Int)) →
                    ((x17.length + [x21].length) * 64 ≤ 140737488355328 ∧ x17.length + [x21].length ≤ 9223372036854775807) ∧
                    (i64 (x16 + (1 : Int))) ∧
                    ∃ m,m < n20 ∧ I20 m (x16 + (1 : Int)) (x17 ++ [x21])
                  ) ∧ (((gI x21.1.1 a2) ≠ (0 : Int)) →
                    (i64 (-(gI x11.1.1 a2))) ∧
                    (i64 (-x12)) ∧
                    ((0 : Int) ≤ a2 ∧ a2 < (x21.1.1.length : Int)) ∧
                    (i64 ((-x12) * (gI x21.1.1 a2))) ∧
                    (ref09_mix.pre (if (-(gI x11.1.1 a2)) > (gI x11.1.1 a2) then (-(gI x11.1.1 a2)) else (gI x11.1.1 a2)) x21 ((-x12) * (gI x21.1.1 a2)) x11) ∧
                    ((x17.length + [ref09_mix.fn (if (-(gI x11.1.1 a2)) > (gI x11.1.1 a2) then (-(gI x11.1.1 a2)) else (gI x11.1.1 a2)) x21 ((-x12) * (gI x21.1.1 a2)) x11].length) * 64 ≤ 140737488355328 ∧ x17.length + [ref09_mix.fn (if (-(gI x11.1.1 a2)) > (gI x11.1.1 a2) then (-(gI x11.1.1 a2)) else (gI x11.1.1 a2)) x21 ((-x12) * (gI x21.1.1 a2)) x11].length ≤ 9223372036854775807) ∧
                    ∀ (x22 : (List ref09_Row)),x22 = (x17 ++ [ref09_mix.fn (if (-(gI x11.1.1 a2)) > (gI x11.1.1 a2) then (-(gI x11.1.1 a2)) else (gI x11.1.1 a2)) x21 ((-x12) * (gI x21.1.1 a2)) x11]) →
                    (i64 (x16 + (1 : Int))) ∧
                    ∃ m,m < n20 ∧ I20 m (x16 + (1 : Int)) x22
                  )
                )
              ) ∧ ((¬ (x16 < (a1.length : Int))) →
                R10 x17
              )
        ) ∧ ((¬ (x3 ≥ (0 : Int))) →
          ∀ (_ : a1.length ≤ 9223372036854775807),
          ∃ I29 : Nat → Int → (List ref09_Row) → Prop,
          (∃ n,I29 n (0 : Int) ([] : List ref09_Row)) ∧
          ∀ (n29 : Nat) (x25 : Int) (x26 : (List ref09_Row)),I29 n29 x25 x26 →
            ((x25 < (a1.length : Int)) →
              ((0 : Int) ≤ x25 ∧ x25 < (a1.length : Int)) ∧
              ∀ (x30 : ref09_Row),x30 = (a1.getD (Int.toNat x25) d_ref09_Row) →
              ((0 : Int) ≤ a2 ∧ a2 < (x30.1.1.length : Int)) ∧
              (((gI x30.1.1 a2) = (0 : Int)) →
                ((x26.length + [x30].length) * 64 ≤ 140737488355328 ∧ x26.length + [x30].length ≤ 9223372036854775807) ∧
                (i64 (x25 + (1 : Int))) ∧
                ∃ m,m < n29 ∧ I29 m (x25 + (1 : Int)) (x26 ++ [x30])
              ) ∧ (((gI x30.1.1 a2) ≠ (0 : Int)) →
                (i64 (x25 + (1 : Int))) ∧
                ∃ m,m < n29 ∧ I29 m (x25 + (1 : Int)) x26
              )
            ) ∧ ((¬ (x25 < (a1.length : Int))) →
              ∀ (_ : a1.length ≤ 9223372036854775807),
              ∃ I37 : Nat → Int → (List ref09_Row) → Prop,
              (∃ n,I37 n (0 : Int) x26) ∧
              ∀ (n37 : Nat) (x33 : Int) (x34 : (List ref09_Row)),I37 n37 x33 x34 →
                ((x33 < (a1.length : Int)) →
                  ((0 : Int) ≤ x33 ∧ x33 < (a1.length : Int)) ∧
                  ∀ (x38 : ref09_Row),x38 = (a1.getD (Int.toNat x33) d_ref09_Row) →
                  ((0 : Int) ≤ a2 ∧ a2 < (x38.1.1.length : Int)) ∧
                  (((gI x38.1.1 a2) ≤ (0 : Int)) →
                    (i64 (x33 + (1 : Int))) ∧
                    ∃ m,m < n37 ∧ I37 m (x33 + (1 : Int)) x34
                  ) ∧ ((¬ ((gI x38.1.1 a2) ≤ (0 : Int))) →
                    ∀ (_ : a1.length ≤ 9223372036854775807),
                    ∃ I45 : Nat → Int → (List ref09_Row) → Prop,
                    (∃ n,I45 n (0 : Int) x34) ∧
                    ∀ (n45 : Nat) (x41 : Int) (x42 : (List ref09_Row)),I45 n45 x41 x42 →
                      ((x41 < (a1.length : Int)) →
                        ((0 : Int) ≤ x41 ∧ x41 < (a1.length : Int)) ∧
                        ∀ (x46 : ref09_Row),x46 = (a1.getD (Int.toNat x41) d_ref09_Row) →
                        ((0 : Int) ≤ a2 ∧ a2 < (x46.1.1.length : Int)) ∧
                        (((gI x46.1.1 a2) < (0 : Int)) →
                          ((0 : Int) ≤ a2 ∧ a2 < (x46.1.1.length : Int)) ∧
                          (i64 (-(gI x46.1.1 a2))) ∧
                          ((0 : Int) ≤ a2 ∧ a2 < (x38.1.1.length : Int)) ∧
                          (ref09_mix.pre (-(gI x46.1.1 a2)) x38 (gI x38.1.1 a2) x46) ∧
                          ((x42.length + [ref09_mix.fn (-(gI x46.1.1 a2)) x38 (gI x38.1.1 a2) x46].length) * 64 ≤ 140737488355328 ∧ x42.length + [ref09_mix.fn (-(gI x46.1.1 a2)) x38 (gI x38.1.1 a2) x46].length ≤ 9223372036854775807) ∧
                          ∀ (x47 : (List ref09_Row)),x47 = (x42 ++ [ref09_mix.fn (-(gI x46.1.1 a2)) x38 (gI x38.1.1 a2) x46]) →
                          (i64 (x41 + (1 : Int))) ∧
                          ∃ m,m < n45 ∧ I45 m (x41 + (1 : Int)) x47
                        ) ∧ ((¬ ((gI x46.1.1 a2) < (0 : Int))) →
                          (i64 (x41 + (1 : Int))) ∧
                          ∃ m,m < n45 ∧ I45 m (x41 + (1 : Int)) x42
                        )
                      ) ∧ ((¬ (x41 < (a1.length : Int))) →
                        (i64 (x33 + (1 : Int))) ∧
                        ∃ m,m < n37 ∧ I37 m (x33 + (1 : Int)) x42
                      )
                  )
                ) ∧ ((¬ (x33 < (a1.length : Int))) →
                  R10 x34
                )
            )
        )
      ) ∧
      ∀ (x9 : (List ref09_Row)),R10 x9 →
        ∀ (_ : x9.length ≤ 9223372036854775807),
        ∃ I54 : Nat → Int → (List ref09_Row) → Prop,
        (∃ n,I54 n (0 : Int) ([] : List ref09_Row)) ∧
        ∀ (n54 : Nat) (x50 : Int) (x51 : (List ref09_Row)),I54 n54 x50 x51 →
          ((x50 < (x9.length : Int)) →
            ((0 : Int) ≤ x50 ∧ x50 < (x9.length : Int)) ∧
            ∀ (x55 : ref09_Row),x55 = (x9.getD (Int.toNat x50) d_ref09_Row) →
            ∃ I62 : Nat → Bool → Int → Prop,
            (∃ n,I62 n false (0 : Int)) ∧
            ∀ (n62 : Nat) (x58 : Bool) (x59 : Int),I62 n62 x58 x59 →
              ((x59 < (x51.length : Int)) →
                ((0 : Int) ≤ x59 ∧ x59 < (x51.length : Int)) ∧
                (Int.toNat x59 < x51.length) ∧
                ∀ (x63 : ref09_Row),x63 = (x51.getD (Int.toNat x59) d_ref09_Row) →
                ((!x58) = true → ref09_same.pre x55 x63) ∧
                (i64 (x59 + (1 : Int))) ∧
                ∃ m,m < n62 ∧ I62 m (x58 || (ref09_same.fn x55 x63)) (x59 + (1 : Int))
              ) ∧ ((¬ (x59 < (x51.length : Int))) →
                ((x58 = false) →
                  ((x51.length + [x55].length) * 64 ≤ 140737488355328 ∧ x51.length + [x55].length ≤ 9223372036854775807) ∧
                  ((((x51 ++ [x55]).length : Int) > (400 : Int)) →
                    Q (([] : List ref09_Row),3)
                  ) ∧ ((¬ (((x51 ++ [x55]).length : Int) > (400 : Int))) →
                    (i64 (x50 + (1 : Int))) ∧
                    ∃ m,m < n54 ∧ I54 m (x50 + (1 : Int)) (x51 ++ [x55])
                  )
                ) ∧ ((x58 = true) →
                  (((x51.length : Int) > (400 : Int)) →
                    Q (([] : List ref09_Row),3)
                  ) ∧ ((¬ ((x51.length : Int) > (400 : Int))) →
                    (i64 (x50 + (1 : Int))) ∧
                    ∃ m,m < n54 ∧ I54 m (x50 + (1 : Int)) x51
                  )
                )
              )
          ) ∧ ((¬ (x50 < (x9.length : Int))) →
            ∃ I67 : Nat → Int → Prop,
            (∃ n,I67 n (0 : Int)) ∧
            ∀ (n67 : Nat) (x65 : Int),I67 n67 x65 →
              ((x65 < (x51.length : Int)) →
                ((0 : Int) ≤ x65 ∧ x65 < (x51.length : Int)) ∧
                (Int.toNat x65 < x51.length) ∧
                ∀ (x68 : ref09_Row),x68 = (x51.getD (Int.toNat x65) d_ref09_Row) →
                (ref09_Row_numbers.pre x68) ∧
                ∀ (x69 : (List Int)),x69 = (ref09_Row_numbers.fn x68) →
                ∀ (x70 : Int),x70 = (x69.length : Int) →
                ∀ (_ : x69.length ≤ 9223372036854775807),
                ∃ I74 : Nat → Int → Prop,
                (∃ n,I74 n (0 : Int)) ∧
                ∀ (n74 : Nat) (x72 : Int),I74 n74 x72 →
                  ((x72 < x70) →
                    ((0 : Int) ≤ x72 ∧ x72 < (x69.length : Int)) ∧
                    ((((decide ((gI x69 x72) < (-1073741824))) || (decide ((gI x69 x72) > (1073741824 : Int)))) = true) →
                      Q (([] : List ref09_Row),3)
                    ) ∧ ((((decide ((gI x69 x72) < (-1073741824))) || (decide ((gI x69 x72) > (1073741824 : Int)))) = false) →
                      (i64 (x72 + (1 : Int))) ∧
                      ∃ m,m < n74 ∧ I74 m (x72 + (1 : Int))
                    )
                  ) ∧ ((¬ (x72 < x70)) →
                    (i64 (x65 + (1 : Int))) ∧
                    ∃ m,m < n67 ∧ I67 m (x65 + (1 : Int))
                  )
              ) ∧ ((¬ (x65 < (x51.length : Int))) →
                Q (x51,0)
              )
          )
    )

def ref09_stack.wp (a1 : (List api_Cond)) (a2 : Int) (Q : (List (List ref09_Row)) × (List ref09_Row) × Int → Prop) : Prop :=
  ∀ (_ : a1.length ≤ 9223372036854775807),
  ∃ I7 : Nat → Int → (List ref09_Row) → Prop,
  (∃ n,I7 n (0 : Int) ([] : List ref09_Row)) ∧
  ∀ (n7 : Nat) (x3 : Int) (x4 : (List ref09_Row)),I7 n7 x3 x4 →
    ((x3 < (a1.length : Int)) →
      ((0 : Int) ≤ x3 ∧ x3 < (a1.length : Int)) ∧
      ∀ (x8 : api_Cond),x8 = (a1.getD (Int.toNat x3) d_api_Cond) →
      ((x8.1 = (2 : Int)) →
        (i64 (x3 + (1 : Int))) ∧
        ∃ m,m < n7 ∧ I7 m (x3 + (1 : Int)) x4
      ) ∧ ((x8.1 ≠ (2 : Int)) →
        ((0 : Int) ≤ (a1.length : Int) ∧ (a1.length : Int) ≤ (a1.length : Int) ∧ (a1.length : Int) * 8 ≤ 140737488355328 ∧ (a1.length : Int) ≤ 9223372036854775807) ∧
        ∀ (x9 : (List Int)),x9 = (List.replicate (Int.toNat (a1.length : Int)) (0 : Int)) →
        ∀ (_ : a1.length ≤ 9223372036854775807),
        ((0 : Int) ≤ x3 ∧ x3 < (x9.length : Int)) ∧
        (Int.toNat x3 < x9.length) ∧
        ∀ (x10 : (List Int)),x10 = (x9.set (Int.toNat x3) (1 : Int)) →
        ((x4.length + [(x8.2.2,x8.1 == (1 : Int),x10)].length) * 64 ≤ 140737488355328 ∧ x4.length + [(x8.2.2,x8.1 == (1 : Int),x10)].length ≤ 9223372036854775807) ∧
        ∀ (x11 : (List ref09_Row)),x11 = (x4 ++ [(x8.2.2,x8.1 == (1 : Int),x10)]) →
        (i64 (x3 + (1 : Int))) ∧
        ∃ m,m < n7 ∧ I7 m (x3 + (1 : Int)) x11
      )
    ) ∧ ((¬ (x3 < (a1.length : Int))) →
      ((0 : Int) ≤ a2 ∧ a2 ≤ a2 ∧ a2 * 24 ≤ 140737488355328 ∧ a2 ≤ 9223372036854775807) ∧
      ∀ (x12 : (List (List ref09_Row))),x12 = (List.replicate (Int.toNat a2) []) →
      (i64 (a2 - (1 : Int))) ∧
      ∃ I19 : Nat → (List ref09_Row) → Int → (List (List ref09_Row)) → Prop,
      (∃ n,I19 n x4 (a2 - (1 : Int)) x12) ∧
      ∀ (n19 : Nat) (x13 : (List ref09_Row)) (x14 : Int) (x15 : (List (List ref09_Row))),I19 n19 x13 x14 x15 →
        ((x14 ≥ (0 : Int)) →
          ((0 : Int) ≤ x14 ∧ x14 < (x15.length : Int)) ∧
          (Int.toNat x14 < x15.length) ∧
          (ref09_Eliminate.pre x13 x14) ∧
          ∀ (x20 : (List ref09_Row) × Int),x20 = (ref09_Eliminate.fn x13 x14) →
          ((x20.2 ≠ (0 : Int)) →
            Q (([] : List (List ref09_Row)),([] : List ref09_Row),x20.2)
          ) ∧ ((x20.2 = (0 : Int)) →
            (i64 (x14 - (1 : Int))) ∧
            ∃ m,m < n19 ∧ I19 m x20.1 (x14 - (1 : Int)) (x15.set (Int.toNat x14) x13)
          )
        ) ∧ ((¬ (x14 ≥ (0 : Int))) →
          Q (x15,x13,0)
        )
    )

def ref09_RatioOf.wp (a1 : ref09_Int) (a2 : ref09_Int) (Q : ref09_Ratio → Prop) : Prop :=
  ∀ (x1 : Int),x1 = (ref09_Int_Sign.fn a2) →
  ∃ R6 : Bool → (List Int) → Bool → (List Int) → Prop,
  (
    ((x1 < (0 : Int)) →
      R6 ((ref09_Int_Neg.fn a1).1) ((ref09_Int_Neg.fn a1).2) ((ref09_Int_Neg.fn a2).1) ((ref09_Int_Neg.fn a2).2)
    ) ∧ ((¬ (x1 < (0 : Int))) →
      R6 a1.1 a1.2 a2.1 a2.2
    )
  ) ∧
  ∀ (x2 : Bool) (x3 : (List Int)) (x4 : Bool) (x5 : (List Int)),R6 x2 x3 x4 x5 →
    (ref09_Gcd.pre (x2,x3) (x4,x5)) ∧
    ∀ (x7 : ref09_Int),x7 = (ref09_Gcd.fn (x2,x3) (x4,x5)) →
    ∀ (x8 : (List Int)),x8 = x7.2 →
    (ref09_Int_Over.pre (x2,x3) (x7.1,x8)) ∧
    (ref09_Int_Over.pre (x4,x5) (x7.1,x8)) ∧
    ∀ (x9 : ref09_Int),x9 = (ref09_Int_Over.fn (x2,x3) (x7.1,x8)) →
    ∀ (x10 : ref09_Int),x10 = (ref09_Int_Over.fn (x4,x5) (x7.1,x8)) →
    ∀ (x11 : (List Int)),x11 = x9.2 →
    ∀ (x12 : (List Int)),x12 = x10.2 →
    Q ((x9.1,x11),(x10.1,x12))

def ref09_Ratio_Add.wp (a1 : ref09_Ratio) (a2 : ref09_Ratio) (Q : ref09_Ratio → Prop) : Prop :=
  (ref09_Int_Mul.pre a1.1 a2.2) ∧
  (ref09_Int_Mul.pre a2.1 a1.2) ∧
  (ref09_Int_Add.pre (ref09_Int_Mul.fn a1.1 a2.2) (ref09_Int_Mul.fn a2.1 a1.2)) ∧
  (ref09_Int_Mul.pre a1.2 a2.2) ∧
  (ref09_RatioOf.pre (ref09_Int_Add.fn (ref09_Int_Mul.fn a1.1 a2.2) (ref09_Int_Mul.fn a2.1 a1.2)) (ref09_Int_Mul.fn a1.2 a2.2)) ∧
  ∀ (x1 : ref09_Int),x1 = (ref09_Int_Mul.fn a1.1 a2.2) →
  ∀ (x2 : ref09_Int),x2 = (ref09_Int_Mul.fn a2.1 a1.2) →
  ∀ (x3 : ref09_Int),x3 = (ref09_Int_Mul.fn a1.2 a2.2) →
  ∀ (x4 : ref09_Int),x4 = (ref09_Int_Add.fn x1 x2) →
  ∀ (x5 : ref09_Ratio),x5 = (ref09_RatioOf.fn x4 x3) →
  ∀ (x6 : (List Int)),x6 = x5.1.2 →
  ∀ (x7 : (List Int)),x7 = x5.2.2 →
  Q ((x5.1.1,x6),(x5.2.1,x7))

def ref09_Ratio_Cmp.wp (a1 : ref09_Ratio) (a2 : ref09_Ratio) (Q : Int → Prop) : Prop :=
  (ref09_Int_Mul.pre a1.1 a2.2) ∧
  (ref09_Int_Mul.pre a2.1 a1.2) ∧
  (ref09_Int_Cmp.pre (ref09_Int_Mul.fn a1.1 a2.2) (ref09_Int_Mul.fn a2.1 a1.2)) ∧
  ∀ (x1 : ref09_Int),x1 = (ref09_Int_Mul.fn a1.1 a2.2) →
  ∀ (x2 : ref09_Int),x2 = (ref09_Int_Mul.fn a2.1 a1.2) →
  ∀ (x3 : Int),x3 = (ref09_Int_Cmp.fn x1 x2) →
  Q x3

def ref09_Ratio_Mul.wp (a1 : ref09_Ratio) (a2 : ref09_Ratio) (Q : ref09_Ratio → Prop) : Prop :=
  (ref09_Int_Mul.pre a1.1 a2.1) ∧
  (ref09_Int_Mul.pre a1.2 a2.2) ∧
  (ref09_RatioOf.pre (ref09_Int_Mul.fn a1.1 a2.1) (ref09_Int_Mul.fn a1.2 a2.2)) ∧
  ∀ (x1 : ref09_Int),x1 = (ref09_Int_Mul.fn a1.1 a2.1) →
  ∀ (x2 : ref09_Int),x2 = (ref09_Int_Mul.fn a1.2 a2.2) →
  ∀ (x3 : ref09_Ratio),x3 = (ref09_RatioOf.fn x1 x2) →
  ∀ (x4 : (List Int)),x4 = x3.1.2 →
  ∀ (x5 : (List Int)),x5 = x3.2.2 →
  Q ((x3.1.1,x4),(x3.2.1,x5))

def ref09_value__own.wp (a1 : (List ref09_Row)) (a2 : Int) (a3 : (List ref09_Ratio)) (Q : ref09_Ratio → Prop) : Prop :=
  ∀ (_ : a1.length ≤ 9223372036854775807),
  ∃ I23 : Nat → Bool → Bool → (List Int) → Bool → (List Int) → Bool → Bool → (List Int) → Bool → (List Int) → Int → Prop,
  (∃ n,I23 n false false ([] : (List Int)) false ([] : (List Int)) false false ([] : (List Int)) false ([] : (List Int)) (0 : Int)) ∧
  ∀ (n23 : Nat) (x1 : Bool) (x2 : Bool) (x3 : (List Int)) (x4 : Bool) (x5 : (List Int)) (x6 : Bool) (x7 : Bool) (x8 : (List Int)) (x9 : Bool) (x10 : (List Int)) (x11 : Int),I23 n23 x1 x2 x3 x4 x5 x6 x7 x8 x9 x10 x11 →
    ((x11 < (a1.length : Int)) →
      ((0 : Int) ≤ x11 ∧ x11 < (a1.length : Int)) ∧
      ∀ (x24 : ref09_Row),x24 = (a1.getD (Int.toNat x11) d_ref09_Row) →
      ((0 : Int) ≤ a2 ∧ a2 < (x24.1.1.length : Int)) ∧
      (((gI x24.1.1 a2) = (0 : Int)) →
        (i64 (x11 + (1 : Int))) ∧
        ∃ m,m < n23 ∧ I23 m x1 x2 x3 x4 x5 x6 x7 x8 x9 x10 (x11 + (1 : Int))
      ) ∧ (((gI x24.1.1 a2) ≠ (0 : Int)) →
        (ref09_Of.pre x24.1.2) ∧
        (ref09_Of.pre (1 : Int)) ∧
        ∀ (x25 : ref09_Int),x25 = (ref09_Of.fn x24.1.2) →
        ∀ (x26 : ref09_Int),x26 = (ref09_Of.fn (1 : Int)) →
        ∃ I42 : Nat → Int → Bool → (List Int) → Bool → (List Int) → Prop,
        (∃ n,I42 n (0 : Int) x25.1 x25.2 x26.1 x26.2) ∧
        ∀ (n42 : Nat) (x32 : Int) (x33 : Bool) (x34 : (List Int)) (x35 : Bool) (x36 : (List Int)),I42 n42 x32 x33 x34 x35 x36 →
          ((x32 < (a3.length : Int)) →
            ((0 : Int) ≤ x32 ∧ x32 < (a3.length : Int)) ∧
            (Int.toNat x32 < a3.length) ∧
            ∀ (x43 : ref09_Ratio),x43 = (a3.getD (Int.toNat x32) d_ref09_Ratio) →
            ((0 : Int) ≤ x32 ∧ x32 < (x24.1.1.length : Int)) ∧
            (ref09_Of.pre (gI x24.1.1 x32)) ∧
            (ref09_Of.pre (1 : Int)) ∧
            (ref09_Ratio_Mul.pre x43 (ref09_Of.fn (gI x24.1.1 x32),ref09_Of.fn (1 : Int))) ∧
            (ref09_Ratio_Add.pre ((x33,x34),(x35,x36)) (ref09_Ratio_Mul.fn x43 (ref09_Of.fn (gI x24.1.1 x32),ref09_Of.fn (1 : Int)))) ∧
            ∀ (x44 : ref09_Ratio),x44 = (ref09_Ratio_Mul.fn x43 (ref09_Of.fn (gI x24.1.1 x32),ref09_Of.fn (1 : Int))) →
            ∀ (x45 : ref09_Ratio),x45 = (ref09_Ratio_Add.fn ((x33,x34),(x35,x36)) x44) →
            ∀ (x46 : (List Int)),x46 = x45.1.2 →
            ∀ (x47 : (List Int)),x47 = x45.2.2 →
            (i64 (x32 + (1 : Int))) ∧
            ∃ m,m < n42 ∧ I42 m (x32 + (1 : Int)) x45.1.1 x46 x45.2.1 x47
          ) ∧ ((¬ (x32 < (a3.length : Int))) →
            (ref09_Of.pre (-1)) ∧
            (ref09_Of.pre (gI x24.1.1 a2)) ∧
            (ref09_RatioOf.pre (ref09_Of.fn (-1)) (ref09_Of.fn (gI x24.1.1 a2))) ∧
            (ref09_Ratio_Mul.pre ((x33,x34),(x35,x36)) (ref09_RatioOf.fn (ref09_Of.fn (-1)) (ref09_Of.fn (gI x24.1.1 a2)))) ∧
            ∀ (x48 : ref09_Int),x48 = (ref09_Of.fn (-1)) →
            ∀ (x49 : ref09_Int),x49 = (ref09_Of.fn (gI x24.1.1 a2)) →
            ∀ (x50 : ref09_Ratio),x50 = (ref09_RatioOf.fn x48 x49) →
            ∀ (x51 : ref09_Ratio),x51 = (ref09_Ratio_Mul.fn ((x33,x34),(x35,x36)) x50) →
            ∀ (x52 : (List Int)),x52 = x51.1.2 →
            ∀ (x53 : (List Int)),x53 = x51.2.2 →
            ((x24.2.1 = true) →
              Q ((x51.1.1,x52),(x51.2.1,x53))
            ) ∧ ((x24.2.1 = false) →
              (((decide ((gI x24.1.1 a2) > (0 : Int))) && (!(!x1))) = true → x1 = true) ∧
              (((decide ((gI x24.1.1 a2) > (0 : Int))) && (!(!x1))) = true → ref09_Ratio_Cmp.pre ((x51.1.1,x52),(x51.2.1,x53)) ((x2,x3),(x4,x5))) ∧
              ∀ (x54 : Int),x54 = (ref09_Ratio_Cmp.fn ((x51.1.1,x52),(x51.2.1,x53)) ((x2,x3),(x4,x5))) →
              ((((decide ((gI x24.1.1 a2) > (0 : Int))) && ((!x1) || (decide (x54 > (0 : Int))))) = true) →
                (i64 (x11 + (1 : Int))) ∧
                ∃ m,m < n23 ∧ I23 m true x51.1.1 x52 x51.2.1 x53 x6 x7 x8 x9 x10 (x11 + (1 : Int))
              ) ∧ ((((decide ((gI x24.1.1 a2) > (0 : Int))) && ((!x1) || (decide (x54 > (0 : Int))))) = false) →
                (((decide ((gI x24.1.1 a2) < (0 : Int))) && (!(!x6))) = true → x6 = true) ∧
                (((decide ((gI x24.1.1 a2) < (0 : Int))) && (!(!x6))) = true → ref09_Ratio_Cmp.pre ((x51.1.1,x52),(x51.2.1,x53)) ((x7,x8),(x9,x10))) ∧
                ∀ (x55 : Int),x55 = (ref09_Ratio_Cmp.fn ((x51.1.1,x52),(x51.2.1,x53)) ((x7,x8),(x9,x10))) →
                ((((decide ((gI x24.1.1 a2) < (0 : Int))) && ((!x6) || (decide (x55 < (0 : Int))))) = true) →
                  (i64 (x11 + (1 : Int))) ∧
                  ∃ m,m < n23 ∧ I23 m x1 x2 x3 x4 x5 true x51.1.1 x52 x51.2.1 x53 (x11 + (1 : Int))
                ) ∧ ((((decide ((gI x24.1.1 a2) < (0 : Int))) && ((!x6) || (decide (x55 < (0 : Int))))) = false) →
                  (i64 (x11 + (1 : Int))) ∧
                  ∃ m,m < n23 ∧ I23 m x1 x2 x3 x4 x5 x6 x7 x8 x9 x10 (x11 + (1 : Int))
                )
              )
            )
          )
      )
    ) ∧ ((¬ (x11 < (a1.length : Int))) →
      ((x1 = true) →
        (x1 = true) ∧
        Q ((x2,x3),(x4,x5))
      ) ∧ ((x1 = false) →
        ((x6 = true) →
          (x6 = true) ∧
          Q ((x7,x8),(x9,x10))
        ) ∧ ((x6 = false) →
          (ref09_Of.pre (0 : Int)) ∧
          (ref09_Of.pre (1 : Int)) ∧
          ∀ (x56 : ref09_Int),x56 = (ref09_Of.fn (0 : Int)) →
          ∀ (x57 : ref09_Int),x57 = (ref09_Of.fn (1 : Int)) →
          Q (x56,x57)
        )
      )
    )

def ref09_Inner.wp (a1 : (List api_Cond)) (a2 : Int) (Q : (List Int) × Int × Int → Prop) : Prop :=
  ∀ (x1 : Int),x1 = (ref09_asked.fn a1 a2) →
  ((x1 ≠ (0 : Int)) →
    Q (([] : List Int),0,x1)
  ) ∧ ((x1 = (0 : Int)) →
    (ref09_stack.pre a1 a2) ∧
    ∀ (x2 : (List (List ref09_Row)) × (List ref09_Row) × Int),x2 = (ref09_stack.fn a1 a2) →
    ((x2.2.2 ≠ (0 : Int)) →
      Q (([] : List Int),0,x2.2.2)
    ) ∧ ((x2.2.2 = (0 : Int)) →
      (ref09_refuted.pre x2.2.1) ∧
      ∀ (x3 : (List Int) × Bool),x3 = (ref09_refuted.fn x2.2.1) →
      ((x3.2 = true) →
        Q (([] : List Int),0,5)
      ) ∧ ((x3.2 = false) →
        ∃ I12 : Nat → (List Int) → Int → Int → (List ref09_Ratio) → Prop,
        (∃ n,I12 n ([] : List Int) (1 : Int) (0 : Int) ([] : List ref09_Ratio)) ∧
        ∀ (n12 : Nat) (x4 : (List Int)) (x5 : Int) (x6 : Int) (x7 : (List ref09_Ratio)),I12 n12 x4 x5 x6 x7 →
          ((x6 < a2) →
            ((0 : Int) ≤ x6 ∧ x6 < (x2.1.length : Int)) ∧
            (ref09_value__own.pre (x2.1.getD (Int.toNat x6) []) x6 x7) ∧
            ((x7.length + [ref09_value__own.fn (x2.1.getD (Int.toNat x6) []) x6 x7].length) * 64 ≤ 140737488355328 ∧ x7.length + [ref09_value__own.fn (x2.1.getD (Int.toNat x6) []) x6 x7].length ≤ 9223372036854775807) ∧
            ∀ (x13 : (List ref09_Ratio)),x13 = (x7 ++ [ref09_value__own.fn (x2.1.getD (Int.toNat x6) []) x6 x7]) →
            (ref09_Of.pre (1 : Int)) ∧
            ∀ (x14 : ref09_Int),x14 = (ref09_Of.fn (1 : Int)) →
            ∃ I24 : Nat → Int → Bool → (List Int) → Prop,
            (∃ n,I24 n (0 : Int) x14.1 x14.2) ∧
            ∀ (n24 : Nat) (x18 : Int) (x19 : Bool) (x20 : (List Int)),I24 n24 x18 x19 x20 →
              ((x18 < (x13.length : Int)) →
                ((0 : Int) ≤ x18 ∧ x18 < (x13.length : Int)) ∧
                (Int.toNat x18 < x13.length) ∧
                ∀ (x25 : ref09_Ratio),x25 = (x13.getD (Int.toNat x18) d_ref09_Ratio) →
                (ref09_Int_Mul.pre (x19,x20) x25.2) ∧
                (ref09_Gcd.pre (x19,x20) x25.2) ∧
                (ref09_Int_Over.pre (ref09_Int_Mul.fn (x19,x20) x25.2) (ref09_Gcd.fn (x19,x20) x25.2)) ∧
                ∀ (x26 : ref09_Int),x26 = (ref09_Gcd.fn (x19,x20) x25.2) →
                ∀ (x27 : ref09_Int),x27 = (ref09_Int_Mul.fn (x19,x20) x25.2) →
                ∀ (x28 : ref09_Int),x28 = (ref09_Int_Over.fn x27 x26) →
                ∀ (x29 : (List Int)),x29 = x28.2 →
                (i64 (x18 + (1 : Int))) ∧
                ∃ m,m < n24 ∧ I24 m (x18 + (1 : Int)) x28.1 x29
              ) ∧ ((¬ (x18 < (x13.length : Int))) →
                (ref09_Int_Small.pre (x19,x20)) ∧
                ∀ (x30 : Int × Bool),x30 = (ref09_Int_Small.fn (x19,x20)) →
                ∀ (x31 : Int),x31 = x30.1 →
                ∃ I41 : Nat → Bool → Int → (List Int) → Prop,
                (∃ n,I41 n x30.2 (0 : Int) ([] : List Int)) ∧
                ∀ (n41 : Nat) (x35 : Bool) (x36 : Int) (x37 : (List Int)),I41 n41 x35 x36 x37 →
                  ((x36 < (x13.length : Int)) →
                    ((0 : Int) ≤ x36 ∧ x36 < (x13.length : Int)) ∧
                    (Int.toNat x36 < x13.length) ∧
                    ∀ (x42 : ref09_Ratio),x42 = (x13.getD (Int.toNat x36) d_ref09_Ratio) →
                    (ref09_Int_Over.pre (x19,x20) x42.2) ∧
                    (ref09_Int_Mul.pre x42.1 (ref09_Int_Over.fn (x19,x20) x42.2)) ∧
                    (ref09_Int_Small.pre (ref09_Int_Mul.fn x42.1 (ref09_Int_Over.fn (x19,x20) x42.2))) ∧
                    ∀ (x43 : ref09_Int),x43 = (ref09_Int_Over.fn (x19,x20) x42.2) →
                    ∀ (x44 : ref09_Int),x44 = (ref09_Int_Mul.fn x42.1 x43) →
                    ∀ (x45 : Int × Bool),x45 = (ref09_Int_Small.fn x44) →
                    ∀ (x46 : Int),x46 = x45.1 →
                    ((x37.length + [x46].length) * 8 ≤ 140737488355328 ∧ x37.length + [x46].length ≤ 9223372036854775807) ∧
                    (i64 (x36 + (1 : Int))) ∧
                    ∃ m,m < n41 ∧ I41 m (x35 && x45.2) (x36 + (1 : Int)) (x37 ++ [x46])
                  ) ∧ ((¬ (x36 < (x13.length : Int))) →
                    ((x35 = false) →
                      Q (([] : List Int),0,3)
                    ) ∧ ((x35 = true) →
                      (i64 (x6 + (1 : Int))) ∧
                      ∃ m,m < n12 ∧ I12 m x37 x31 (x6 + (1 : Int)) x13
                    )
                  )
              )
          ) ∧ ((¬ (x6 < a2)) →
            Q (x4,x5,0)
          )
      )
    )
  )

def ref09_Prove.wp (a1 : (List api_Cond)) (a2 : Int) (Q : (List Int) × Int → Prop) : Prop :=
  ∀ (x1 : Int),x1 = (ref09_asked.fn a1 a2) →
  ((x1 ≠ (0 : Int)) →
    Q (([] : List Int),x1)
  ) ∧ ((x1 = (0 : Int)) →
    (ref09_stack.pre a1 a2) ∧
    ∀ (x2 : (List (List ref09_Row)) × (List ref09_Row) × Int),x2 = (ref09_stack.fn a1 a2) →
    ((x2.2.2 ≠ (0 : Int)) →
      Q (([] : List Int),x2.2.2)
    ) ∧ ((x2.2.2 = (0 : Int)) →
      (ref09_refuted.pre x2.2.1) ∧
      ∀ (x3 : (List Int) × Bool),x3 = (ref09_refuted.fn x2.2.1) →
      ((x3.2 = false) →
        Q (([] : List Int),5)
      ) ∧ ((x3.2 = true) →
        Q (x3.1,0)
      )
    )
  )

def law09_FarkasProves.wp (a1 : (List api_Cond)) (a2 : Int) (Q : Bool → Prop) : Prop :=
  (((law09_light.fn a1 (10 : Int)) = false) →
    (law09_awake.pre) ∧
    Q law09_awake.fn
  ) ∧ (((law09_light.fn a1 (10 : Int)) = true) →
    ∀ (x1 : (List Int) × Int),x1 = (farkas_Prove.fn a1 a2) →
    ∀ (x2 : (List Int) × Int),x2 = (ref09_Prove.fn a1 a2) →
    ∀ (x3 : (List Int) × Int × Int),x3 = (farkas_Inner.fn a1 a2) →
    ∀ (x4 : (List Int) × Int × Int),x4 = (ref09_Inner.fn a1 a2) →
    ((((((law09_list.fn x1.1 x2.1) && (x1.2 == x2.2)) && (law09_list.fn x3.1 x4.1)) && (x3.2.1 == x4.2.1)) && (x3.2.2 == x4.2.2)) = true → law09_awake.pre) ∧
    Q ((((((law09_list.fn x1.1 x2.1) && (x1.2 == x2.2)) && (law09_list.fn x3.1 x4.1)) && (x3.2.1 == x4.2.1)) && (x3.2.2 == x4.2.2)) && law09_awake.fn)
  )

theorem law09_ge.ev_wp (a1 : Int) (a2 : (List Int)) (r : api_Cond) (h : law09_ge.ev a1 a2 = some r) : law09_ge.wp a1 a2 (fun x => x = r) := by
  unfold law09_ge.ev at h
  unfold law09_ge.wp
  exact Option.some.inj h
theorem law09_ge.spec (a1 : Int) (a2 : (List Int)) (h : law09_ge.pre a1 a2) : law09_ge.wp a1 a2 (fun x => x = law09_ge.fn a1 a2) := by
  obtain ⟨r,hr⟩ := Option.isSome_iff_exists.1 h
  have hf : law09_ge.fn a1 a2 = r := by show Option.getD _ _ = r;rw [hr];rfl
  rw [hf]
  exact law09_ge.ev_wp a1 a2 r hr

theorem law09_awake.ev_wp (r : Bool) (h : law09_awake.ev = some r) : law09_awake.wp (fun x => x = r) := by
  unfold law09_awake.ev at h
  unfold law09_awake.wp
  obtain ⟨y1,hy1,h⟩ := Option.bind_eq_some_iff.1 h
  obtain ⟨hp,hy1f⟩ : law09_ge.pre (-3) [1] ∧ y1 = law09_ge.fn (-3) [1] := ev_get hy1
  subst hy1f
  refine ⟨hp,?_⟩
  obtain ⟨y2,hy2,h⟩ := Option.bind_eq_some_iff.1 h
  obtain ⟨hp,hy2f⟩ : law09_ge.pre (2 : Int) [(-1)] ∧ y2 = law09_ge.fn (2 : Int) [(-1)] := ev_get hy2
  subst hy2f
  refine ⟨hp,?_⟩
  intro x1 hx1
  replace h := evJ_eq h x1 hx1
  intro x2 hx2
  replace h := evJ_eq h x2 hx2
  intro x3 hx3
  replace h := evJ_eq h x3 hx3
  intro x4 hx4
  replace h := evJ_eq h x4 hx4
  intro x5 hx5
  replace h := evJ_eq h x5 hx5
  intro x6 hx6
  replace h := evJ_eq h x6 hx6
  intro x7 hx7
  replace h := evJ_eq h x7 hx7
  intro x8 hx8
  replace h := evJ_eq h x8 hx8
  intro x9 hx9
  replace h := evJ_eq h x9 hx9
  obtain ⟨y3,hy3,h⟩ := Option.bind_eq_some_iff.1 h
  obtain ⟨hp,hy3f⟩ : law09_ge.pre (0 : Int) [1,(-1)] ∧ y3 = law09_ge.fn (0 : Int) [1,(-1)] := ev_get hy3
  subst hy3f
  refine ⟨hp,?_⟩
  obtain ⟨y4,hy4,h⟩ := Option.bind_eq_some_iff.1 h
  obtain ⟨hp,hy4f⟩ : law09_ge.pre (-1) [(-1),1] ∧ y4 = law09_ge.fn (-1) [(-1),1] := ev_get hy4
  subst hy4f
  refine ⟨hp,?_⟩
  intro x10 hx10
  replace h := evJ_eq h x10 hx10
  intro x11 hx11
  replace h := evJ_eq h x11 hx11
  intro x12 hx12
  replace h := evJ_eq h x12 hx12
  exact Option.some.inj h
theorem law09_awake.spec (h : law09_awake.pre) : law09_awake.wp (fun x => x = law09_awake.fn) := by
  obtain ⟨r,hr⟩ := Option.isSome_iff_exists.1 h
  have hf : law09_awake.fn = r := by show Option.getD _ _ = r;rw [hr];rfl
  rw [hf]
  exact law09_awake.ev_wp  r hr

theorem drop_get {α : Type} (d : α) {l : List α} {k : Nat} (hk : k < l.length) : l.drop k = l.getD k d :: l.drop (k + 1) := by
  rw [List.drop_eq_getElem_cons hk];simp [List.getD_eq_getElem?_getD,hk]
theorem take_get {α : Type} (d : α) {l : List α} {k : Nat} (hk : k < l.length) : l.take (k + 1) = l.take k ++ [l.getD k d] := by
  rw [List.take_succ_eq_append_getElem hk];simp [List.getD_eq_getElem?_getD,hk]
theorem getD_mem {α : Type} (d : α) {l : List α} {k : Nat} (hk : k < l.length) : l.getD k d ∈ l := by
  simp [List.getD_eq_getElem?_getD,hk]

theorem idx_wp {α : Type} (p : α → Bool) (d : α) (l : List α) (hl : l.length ≤ 9223372036854775807) (Q : Int → Prop) (h : Q (idxI p l 0)) :
    ∃ I : Nat → Int → Prop,(∃ n,I n 0) ∧ ∀ (n : Nat) (x : Int),I n x →
      ((x < (l.length : Int)) → ((0 : Int) ≤ x ∧ x < (l.length : Int)) ∧
        (p (l.getD (Int.toNat x) d) = true → Q x) ∧ (p (l.getD (Int.toNat x) d) = false →
          (-9223372036854775808 ≤ x + 1 ∧ x + 1 ≤ 9223372036854775807) ∧ ∃ m,m < n ∧ I m (x + 1))) ∧
      ((¬ x < (l.length : Int)) → Q (-1)) := by
  refine ⟨fun n x => ∃ k : Nat,x = (k : Int) ∧ n + k = l.length ∧ Q (idxI p (l.drop k) k),⟨l.length,0,rfl,rfl,h⟩,?_⟩
  rintro n x ⟨k,rfl,hn,hq⟩
  refine ⟨fun hx => ⟨⟨by omega,hx⟩,?_⟩,fun hx => ?_⟩
  · have hk : k < l.length := by omega
    rw [drop_get d hk] at hq
    simp only [idxI,Int.toNat_natCast] at hq ⊢
    refine ⟨fun hp => ?_,fun hp => ⟨⟨by omega,by omega⟩,n - 1,by omega,k + 1,by simp,by omega,?_⟩⟩
    · rw [if_pos hp] at hq;exact hq
    · rw [if_neg (by rw [hp];simp)] at hq;simpa using hq
  · have hk : k = l.length := by omega
    subst hk
    simpa [idxI] using hq

theorem scan_wp {α : Type} (p : α → Bool) (d : α) (l : List α) (hl : l.length ≤ 9223372036854775807) (A E : Prop) (hA : l.all p = false → A) (hE : l.all p = true → E) :
    ∃ I : Nat → Int → Prop,(∃ n,I n 0) ∧ ∀ (n : Nat) (x : Int),I n x →
      ((x < (l.length : Int)) → ((0 : Int) ≤ x ∧ x < (l.length : Int)) ∧
        (p (l.getD (Int.toNat x) d) = false → A) ∧ (p (l.getD (Int.toNat x) d) = true →
          (-9223372036854775808 ≤ x + 1 ∧ x + 1 ≤ 9223372036854775807) ∧ ∃ m,m < n ∧ I m (x + 1))) ∧
      ((¬ x < (l.length : Int)) → E) := by
  refine ⟨fun n x => ∃ k : Nat,x = (k : Int) ∧ n + k = l.length ∧ (l.take k).all p = true,⟨l.length,0,rfl,rfl,rfl⟩,?_⟩
  rintro n x ⟨k,rfl,hn,hq⟩
  refine ⟨fun hx => ⟨⟨by omega,hx⟩,?_⟩,fun hx => ?_⟩
  · have hk : k < l.length := by omega
    simp only [Int.toNat_natCast]
    refine ⟨fun hp => hA ?_,fun hp => ⟨⟨by omega,by omega⟩,n - 1,by omega,k + 1,by simp,by omega,?_⟩⟩
    · cases h : l.all p with
      | false => rfl
      | true =>
        have := List.all_eq_true.1 h _ (getD_mem d hk)
        rw [hp] at this;cases this
    · rw [take_get d hk,List.all_append,hq]
      simpa using hp
  · have hk : k = l.length := by omega
    subst hk
    exact hE (by simpa using hq)

theorem idxI_ge {α : Type} (p : α → Bool) : ∀ (l : List α) (i : Int),0 ≤ i → decide (idxI p l i ≥ 0) = l.any p
  | [],i,h => by simp [idxI]
  | x :: l,i,h => by
    simp only [idxI,List.any_cons]
    split
    · rename_i hp;simp [hp,h]
    · rename_i hp;rw [idxI_ge p l (i + 1) (by omega)];simp [hp]

theorem mul_bound {a b A B : Int} (h1 : -A ≤ a) (h2 : a ≤ A) (h3 : -B ≤ b) (h4 : b ≤ B) : -(A * B) ≤ a * b ∧ a * b ≤ A * B := by
  have ha : a.natAbs ≤ A.natAbs := by omega
  have hb : b.natAbs ≤ B.natAbs := by omega
  have h := Nat.mul_le_mul ha hb
  rw [← Int.natAbs_mul,← Int.natAbs_mul] at h
  have hA : 0 ≤ A := by omega
  have hB : 0 ≤ B := by omega
  have hAB : 0 ≤ A * B := Int.mul_nonneg hA hB
  omega

theorem dotI_succ : ∀ (l m : List Int) (k : Nat),k < l.length → k < m.length → dotI (l.take (k + 1)) (m.take (k + 1)) = dotI (l.take k) (m.take k) + l.getD k 0 * m.getD k 0
  | [],_,_,h,_ => by simp at h
  | _ :: _,[],_,_,h => by simp at h
  | a :: l,b :: m,0,_,_ => by simp [dotI]
  | a :: l,b :: m,k + 1,h1,h2 => by
    have := dotI_succ l m k (by simpa using h1) (by simpa using h2)
    simp only [List.take_succ_cons,dotI] at this ⊢
    rw [this]
    simp [Int.add_assoc]

theorem mask32 (w : Int) : IntKind.wrap .i64 ((BitVec.ofInt 64 w &&& BitVec.ofInt 64 (4294967295 : Int)).toNat : Int) = w % 4294967296 := by
  have h : (BitVec.ofInt 64 w &&& BitVec.ofInt 64 (4294967295 : Int)).toNat = (w % 18446744073709551616).toNat % 4294967296 := by
    rw [BitVec.toNat_and,BitVec.toNat_ofInt,show (BitVec.ofInt 64 (4294967295 : Int)).toNat = 2 ^ 32 - 1 from by decide,Nat.and_two_pow_sub_one_eq_mod]
    rfl
  rw [h]
  have h1 : (((w % 18446744073709551616).toNat % 4294967296 : Nat) : Int) = w % 4294967296 := by omega
  rw [h1]
  have h2 : 0 ≤ w % 4294967296 ∧ w % 4294967296 < 4294967296 := by omega
  generalize w % 4294967296 = y at h2
  simp [IntKind.wrap,IntKind.bits,IntKind.signed]
  omega

theorem shr32 (w : Int) : Int.fdiv w (2 ^ (min (Int.toNat (32 : Int)) 64)) = w / 4294967296 := by
  rw [show (2 : Int) ^ (min (Int.toNat (32 : Int)) 64) = 4294967296 from by decide]
  exact Int.fdiv_eq_ediv_of_nonneg w (by decide)

/-- The two halves of the sum so far. -/
structure Halves (ks ws : List Int) (k : Nat) (hi lo : Int) : Prop where
  sum : hi * 4294967296 + lo = dotI (ks.take k) (ws.take k)
  hi : -(k * 2251799813685248) ≤ hi ∧ hi ≤ k * 2251799813685248
  lo : -(k * 4503599627370496) ≤ lo ∧ lo ≤ k * 4503599627370496

theorem Halves.zero (ks ws : List Int) : Halves ks ws 0 0 0 := ⟨by simp [dotI],by simp,by simp⟩

theorem Halves.step {ks ws : List Int} {k : Nat} {hi lo : Int} (h : Halves ks ws k hi lo) (hk : k < ks.length) (hw : ks.length = ws.length) (hn : ks.length ≤ 96) {c w : Int} (hc : c = ks.getD k 0) (hcf : num_Fits.fn c = true) (hww : w = ws.getD k 0) (hwf : i64 w) :
    (-9223372036854775808 ≤ c * (w / 4294967296) ∧ c * (w / 4294967296) ≤ 9223372036854775807) ∧
    (-9223372036854775808 ≤ hi + c * (w / 4294967296) ∧ hi + c * (w / 4294967296) ≤ 9223372036854775807) ∧
    (-9223372036854775808 ≤ c * (w % 4294967296) ∧ c * (w % 4294967296) ≤ 9223372036854775807) ∧
    (-9223372036854775808 ≤ lo + c * (w % 4294967296) ∧ lo + c * (w % 4294967296) ≤ 9223372036854775807) ∧
    Halves ks ws (k + 1) (hi + c * (w / 4294967296)) (lo + c * (w % 4294967296)) := by
  simp only [num_Fits.fn,Bool.and_eq_true,decide_eq_true_eq] at hcf
  have e : w / 4294967296 * 4294967296 + w % 4294967296 = w := by omega
  have h1 := mul_bound (A := 1048576) (B := 2147483648) hcf.1 hcf.2 (show -2147483648 ≤ w / 4294967296 by omega) (show w / 4294967296 ≤ 2147483648 by omega)
  have h2 := mul_bound (A := 1048576) (B := 4294967296) hcf.1 hcf.2 (show -4294967296 ≤ w % 4294967296 by omega) (show w % 4294967296 ≤ 4294967296 by omega)
  have hs := dotI_succ ks ws k hk (by omega)
  rw [← hc,← hww,← h.sum] at hs
  have hd : c * w = c * (w / 4294967296) * 4294967296 + c * (w % 4294967296) := by
    rw [Int.mul_assoc,← Int.mul_add,e]
  have hh := h.hi
  have hl := h.lo
  generalize c * (w / 4294967296) = u at *
  generalize c * (w % 4294967296) = v at *
  refine ⟨by omega,by omega,by omega,by omega,⟨by rw [hs,hd];omega,?_,?_⟩⟩
  · constructor <;> push_cast <;> omega
  · constructor <;> push_cast <;> omega

theorem Halves.done {ks ws : List Int} {hi lo : Int} (h : Halves ks ws ks.length hi lo) (hw : ks.length = ws.length) (hn : ks.length ≤ 96) :
    (-9223372036854775808 ≤ hi + lo / 4294967296 ∧ hi + lo / 4294967296 ≤ 9223372036854775807) ∧
    (hi + lo / 4294967296 < 0 → -1 = sgn (dotI ks ws)) ∧ (¬ hi + lo / 4294967296 < 0 →
      ((decide (hi + lo / 4294967296 > 0) || decide (lo % 4294967296 > 0)) = true → 1 = sgn (dotI ks ws)) ∧
      ((decide (hi + lo / 4294967296 > 0) || decide (lo % 4294967296 > 0)) = false → 0 = sgn (dotI ks ws))) := by
  have hs := h.sum
  rw [List.take_of_length_le (Nat.le_refl _),List.take_of_length_le (by omega)] at hs
  have hh := h.hi
  have hl := h.lo
  rw [← hs]
  have e : lo / 4294967296 * 4294967296 + lo % 4294967296 = lo := by omega
  have hm : 0 ≤ lo % 4294967296 ∧ lo % 4294967296 < 4294967296 := by omega
  refine ⟨by omega,fun h1 => ?_,fun h1 => ⟨fun h2 => ?_,fun h2 => ?_⟩⟩
  · unfold sgn;rw [if_pos (by omega)]
  · simp only [Bool.or_eq_true,decide_eq_true_eq] at h2
    unfold sgn;rw [if_neg (by omega),if_pos (by omega)]
  · simp only [Bool.or_eq_false_iff,decide_eq_false_iff_not] at h2
    unfold sgn;rw [if_neg (by omega),if_neg (by omega)]

theorem map_getD {α : Type} (f : α → Int) (d : α) {l : List α} {k : Nat} (hk : k < l.length) : (l.map f).getD k 0 = f (l.getD k d) := by
  simp [List.getD_eq_getElem?_getD,hk]

theorem asked_ok {p : List api_Cond} {n : Int} (h : farkas_asked.fn p n = 0) : (0 ≤ n ∧ n ≤ 12) ∧ p.length ≤ 96 ∧ ∀ c ∈ p,cond_Valid.fn c = true ∧ (c.2.2.1.length : Int) = n := by
  unfold farkas_asked.fn at h
  split at h
  · cases h
  · rename_i h1
    split at h
    · cases h
    · rename_i h2
      split at h
      · cases h
      · rename_i h3
        split at h
        · cases h
        · rename_i h4
          refine ⟨by omega,by omega,fun c hc => ⟨?_,?_⟩⟩
          · cases hv : cond_Valid.fn c with
            | true => rfl
            | false => exact absurd (List.any_eq_true.2 ⟨c,hc,by simp [farkas_asked_1.fn,hv]⟩) h3
          · cases hv : farkas_asked_2.fn c n with
            | true => exact absurd (List.any_eq_true.2 ⟨c,hc,hv⟩) h4
            | false => simpa [farkas_asked_2.fn] using hv

theorem valid_lin {c : api_Cond} (h : cond_Valid.fn c = true) : lin_Valid.fn c.2.2 = true := by
  unfold cond_Valid.fn at h
  split at h
  · simp only [Bool.and_eq_true] at h;exact h.2
  · split at h
    · simp only [Bool.and_eq_true] at h;exact h.2
    · cases h
theorem lin_coef {l : api_Lin} (h : lin_Valid.fn l = true) : (∀ a ∈ l.1,num_Fits.fn a = true) ∧ l.1.length ≤ 12 ∧ num_Fits.fn l.2 = true := by
  simp only [lin_Valid.fn,Bool.and_eq_true,List.all_eq_true,decide_eq_true_eq] at h
  exact ⟨h.1,by omega,h.2.2⟩

theorem badWs_take : ∀ (p : List api_Cond) (w : List Int) (k : Nat),k < p.length → k < w.length → badWs (p.take (k + 1)) (w.take (k + 1)) = (badWs (p.take k) (w.take k) || badW (p.getD k d_api_Cond) (w.getD k 0))
  | [],_,_,h,_ => by simp at h
  | _ :: _,[],_,_,h => by simp at h
  | c :: p,a :: w,0,_,_ => by simp [badWs]
  | c :: p,a :: w,k + 1,h1,h2 => by
    have := badWs_take p w k (by simpa using h1) (by simpa using h2)
    simp only [List.take_succ_cons,badWs] at this ⊢
    rw [this]
    simp [Bool.or_assoc]

theorem badWs_mem : ∀ (p : List api_Cond) (w : List Int) (k : Nat),k < p.length → k < w.length → badW (p.getD k d_api_Cond) (w.getD k 0) = true → badWs p w = true
  | [],_,_,h,_,_ => by simp at h
  | _ :: _,[],_,_,h,_ => by simp at h
  | c :: p,a :: w,0,_,_,h => by simp at h;simp [badWs,h]
  | c :: p,a :: w,k + 1,h1,h2,h => by
    have := badWs_mem p w k (by simpa using h1) (by simpa using h2) (by simpa using h)
    simp [badWs,this]

theorem sgn_ne {x : Int} : sgn x ≠ 0 ↔ x ≠ 0 := by unfold sgn;split <;> (try split) <;> omega
theorem sgn_lt {x : Int} : sgn x < 0 ↔ x < 0 := by unfold sgn;split <;> (try split) <;> omega

theorem mask16 (w : Int) : IntKind.wrap .i64 ((BitVec.ofInt 64 w &&& BitVec.ofInt 64 (65535 : Int)).toNat : Int) = w % 65536 ∧ IntKind.wrap .u64 ((BitVec.ofInt 64 w &&& BitVec.ofInt 64 (65535 : Int)).toNat : Int) = w % 65536 := by
  have h : (BitVec.ofInt 64 w &&& BitVec.ofInt 64 (65535 : Int)).toNat = (w % 18446744073709551616).toNat % 65536 := by
    rw [BitVec.toNat_and,BitVec.toNat_ofInt,show (BitVec.ofInt 64 (65535 : Int)).toNat = 2 ^ 16 - 1 from by decide,Nat.and_two_pow_sub_one_eq_mod]
    rfl
  rw [h]
  have h1 : (((w % 18446744073709551616).toNat % 65536 : Nat) : Int) = w % 65536 := by omega
  rw [h1]
  have h2 : 0 ≤ w % 65536 ∧ w % 65536 < 65536 := by omega
  generalize w % 65536 = y at h2
  constructor
  · simp [IntKind.wrap,IntKind.bits,IntKind.signed]
    omega
  · simp [IntKind.wrap,IntKind.bits,IntKind.signed]
    omega
theorem shr16 (w : Int) : Int.fdiv w (2 ^ (min (Int.toNat (16 : Int)) 64)) = w / 65536 := by
  rw [show (2 : Int) ^ (min (Int.toNat (16 : Int)) 64) = 65536 from by decide]
  exact Int.fdiv_eq_ediv_of_nonneg w (by decide)

theorem getD_ge {l : List Int} {k : Nat} (h : l.length ≤ k) : l.getD k 0 = 0 := by
  simp [List.getD_eq_getElem?_getD,List.getElem?_eq_none h]
theorem gI_nat (l : List Int) (k : Nat) : gI l (k : Int) = l.getD k 0 := by simp [gI]
theorem wrap_u64 (x : Int) : IntKind.wrap .u64 x = x % 18446744073709551616 := by
  simp [IntKind.wrap,IntKind.bits,IntKind.signed]
theorem getD_set (l : List Int) (k j : Nat) (x : Int) : (l.set k x).getD j 0 = if j = k ∧ k < l.length then x else l.getD j 0 := by
  simp only [List.getD_eq_getElem?_getD,List.getElem?_set]
  by_cases e : k = j
  · subst e
    by_cases h : k < l.length
    · simp [h]
    · simp [h]
  · rw [if_neg e,if_neg (by omega)]

theorem slices_Clone_Sint_int.spec (a1 : List Int) (h : slices_Clone_Sint_int.pre a1) : slices_Clone_Sint_int.wp a1 (fun x => x = slices_Clone_Sint_int.fn a1) := by
  intro b1 hb
  have h' : a1.length * 8 ≤ 140737488355328 := h
  refine ⟨fun h1 => (hb h1).symm,fun _ => ⟨⟨?_,?_⟩,rfl⟩⟩
  · simpa using h'
  · simp;omega

theorem num_Fits.spec (a : Int) : num_Fits.wp a (fun x => x = num_Fits.fn a) := rfl
theorem farkas_asked_1.spec (c : api_Cond) : farkas_asked_1.wp c (fun x => x = farkas_asked_1.fn c) := rfl
theorem farkas_asked_2.spec (c : api_Cond) (n : Int) : farkas_asked_2.wp c n (fun x => x = farkas_asked_2.fn c n) := rfl
theorem lin_Valid.spec (l : api_Lin) : lin_Valid.wp l (fun x => x = lin_Valid.fn l) := by
  intro hl
  refine scan_wp num_Fits.fn 0 l.1 hl _ _ (fun h => ?_) (fun h => ?_)
  · simp [lin_Valid.fn,h]
  · simp [lin_Valid.fn,h]

theorem cond_Valid.spec (c : api_Cond) : cond_Valid.wp c (fun x => x = cond_Valid.fn c) := by
  refine ⟨fun x => x = decide (c.1 = 0 ∨ c.1 = 1),⟨fun h => ?_,fun h => ?_⟩,?_⟩
  · simp [h]
  · simp [h];rfl
  · rintro x rfl
    unfold cond_Valid.fn
    refine ⟨fun h => ?_,fun h => ⟨fun h2 => ?_,fun h2 => ?_⟩⟩
    · rw [if_pos (by simpa using h)]
    · rw [if_neg (by simpa using h),if_pos h2]
    · rw [if_neg (by simpa using h),if_neg h2]

theorem slices_IndexFunc_Sapi_Cond_api_Cond__farkas_asked_1.spec (l : List api_Cond) : slices_IndexFunc_Sapi_Cond_api_Cond__farkas_asked_1.wp l (fun x => x = slices_IndexFunc_Sapi_Cond_api_Cond__farkas_asked_1.fn l) :=
  fun hl => idx_wp farkas_asked_1.fn d_api_Cond l hl _ rfl
theorem slices_IndexFunc_Sapi_Cond_api_Cond__farkas_asked_2.spec (l : List api_Cond) (n : Int) : slices_IndexFunc_Sapi_Cond_api_Cond__farkas_asked_2.wp l n (fun x => x = slices_IndexFunc_Sapi_Cond_api_Cond__farkas_asked_2.fn l n) :=
  fun hl => idx_wp (fun c => farkas_asked_2.fn c n) d_api_Cond l hl _ rfl
theorem slices_ContainsFunc_Sapi_Cond_api_Cond__farkas_asked_1.spec (l : List api_Cond) : slices_ContainsFunc_Sapi_Cond_api_Cond__farkas_asked_1.wp l (fun x => x = slices_ContainsFunc_Sapi_Cond_api_Cond__farkas_asked_1.fn l) := by
  rintro x rfl;exact idxI_ge _ l 0 (Int.le_refl 0)
theorem slices_ContainsFunc_Sapi_Cond_api_Cond__farkas_asked_2.spec (l : List api_Cond) (n : Int) : slices_ContainsFunc_Sapi_Cond_api_Cond__farkas_asked_2.wp l n (fun x => x = slices_ContainsFunc_Sapi_Cond_api_Cond__farkas_asked_2.fn l n) := by
  rintro x rfl;exact idxI_ge _ l 0 (Int.le_refl 0)

theorem farkas_asked.spec (p : List api_Cond) (n : Int) : farkas_asked.wp p n (fun x => x = farkas_asked.fn p n) := by
  unfold farkas_asked.wp farkas_asked.fn
  refine ⟨fun h => ?_,fun h _ => ⟨fun h2 => ?_,fun h2 => ⟨fun h3 => ?_,fun h3 => ⟨fun h4 => ?_,fun h4 => ?_⟩⟩⟩⟩
  · rw [if_pos (by simpa using h)]
  all_goals rw [if_neg (by simpa using h)]
  · rw [if_pos h2]
  all_goals rw [if_neg h2]
  · rw [if_pos (show p.any farkas_asked_1.fn = true from h3)]
  all_goals rw [if_neg (by have : p.any farkas_asked_1.fn = false := h3;rw [this];simp)]
  · rw [if_pos (show (p.any fun c => farkas_asked_2.fn c n) = true from h4)]
  · rw [if_neg (by have : (p.any fun c => farkas_asked_2.fn c n) = false := h4;rw [this];simp)]

theorem ref01_Fits.spec (a : Int) : ref01_Fits.wp a (fun x => x = ref01_Fits.fn a) := rfl
theorem ref02_Valid.spec (l : api_Lin) : ref02_Valid.wp l (fun x => x = ref02_Valid.fn l) := by
  intro hl
  refine scan_wp ref01_Fits.fn 0 l.1 hl _ _ (fun h => ?_) (fun h => ?_)
  · have h : l.1.all num_Fits.fn = false := h
    simp [ref02_Valid.fn,lin_Valid.fn,h]
  · have h : l.1.all num_Fits.fn = true := h
    simp [ref02_Valid.fn,lin_Valid.fn,h,ref01_Fits.fn]
theorem ref03_Valid.spec (c : api_Cond) : ref03_Valid.wp c (fun x => x = ref03_Valid.fn c) := by
  unfold ref03_Valid.wp ref03_Valid.fn cond_Valid.fn ref02_Valid.fn
  refine ⟨fun h => ?_,fun h => ⟨fun h2 => ?_,fun h2 => ?_⟩⟩
  · simp [h]
  · simp [h,h2]
  · simp only [h,h2,Bool.and_true,if_false]
    by_cases h3 : c.1 = 0 ∨ c.1 = 1
    · rw [if_pos h3];rcases h3 with h3 | h3 <;> simp [h3]
    · rw [if_neg h3]
      simp only [not_or] at h3
      simp [h3.1,h3.2]

end Go.Proofs.Ytlncingakpelbaa
