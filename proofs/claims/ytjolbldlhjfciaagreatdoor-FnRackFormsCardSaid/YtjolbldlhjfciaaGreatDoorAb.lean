/- Short names for theorems of the value layer; no condition. -/
import Derived.Test.YtjolbldlhjfciaaGreatDoorWp
namespace Go.Proofs.YtjolbldlhjfciaaGreatDoor
theorem U {α : Sort _} {a : α} : a = a := rfl
theorem E1 {α0 : Sort _} {a0 : α0} : a0 = a0 ∧ True := ⟨rfl, trivial⟩
theorem E2 {α0 α1 : Sort _} {a0 : α0} {a1 : α1} : a0 = a0 ∧ a1 = a1 ∧ True := ⟨rfl, rfl, trivial⟩
theorem E3 {α0 α1 α2 : Sort _} {a0 : α0} {a1 : α1} {a2 : α2} : a0 = a0 ∧ a1 = a1 ∧ a2 = a2 ∧ True := ⟨rfl, rfl, rfl, trivial⟩
theorem E4 {α0 α1 α2 α3 : Sort _} {a0 : α0} {a1 : α1} {a2 : α2} {a3 : α3} : a0 = a0 ∧ a1 = a1 ∧ a2 = a2 ∧ a3 = a3 ∧ True := ⟨rfl, rfl, rfl, rfl, trivial⟩
theorem E5 {α0 α1 α2 α3 α4 : Sort _} {a0 : α0} {a1 : α1} {a2 : α2} {a3 : α3} {a4 : α4} : a0 = a0 ∧ a1 = a1 ∧ a2 = a2 ∧ a3 = a3 ∧ a4 = a4 ∧ True := ⟨rfl, rfl, rfl, rfl, rfl, trivial⟩
theorem E6 {α0 α1 α2 α3 α4 α5 : Sort _} {a0 : α0} {a1 : α1} {a2 : α2} {a3 : α3} {a4 : α4} {a5 : α5} : a0 = a0 ∧ a1 = a1 ∧ a2 = a2 ∧ a3 = a3 ∧ a4 = a4 ∧ a5 = a5 ∧ True := ⟨rfl, rfl, rfl, rfl, rfl, rfl, trivial⟩
theorem E7 {α0 α1 α2 α3 α4 α5 α6 : Sort _} {a0 : α0} {a1 : α1} {a2 : α2} {a3 : α3} {a4 : α4} {a5 : α5} {a6 : α6} : a0 = a0 ∧ a1 = a1 ∧ a2 = a2 ∧ a3 = a3 ∧ a4 = a4 ∧ a5 = a5 ∧ a6 = a6 ∧ True := ⟨rfl, rfl, rfl, rfl, rfl, rfl, rfl, trivial⟩
theorem E8 {α0 α1 α2 α3 α4 α5 α6 α7 : Sort _} {a0 : α0} {a1 : α1} {a2 : α2} {a3 : α3} {a4 : α4} {a5 : α5} {a6 : α6} {a7 : α7} : a0 = a0 ∧ a1 = a1 ∧ a2 = a2 ∧ a3 = a3 ∧ a4 = a4 ∧ a5 = a5 ∧ a6 = a6 ∧ a7 = a7 ∧ True := ⟨rfl, rfl, rfl, rfl, rfl, rfl, rfl, rfl, trivial⟩
theorem E9 {α0 α1 α2 α3 α4 α5 α6 α7 α8 : Sort _} {a0 : α0} {a1 : α1} {a2 : α2} {a3 : α3} {a4 : α4} {a5 : α5} {a6 : α6} {a7 : α7} {a8 : α8} : a0 = a0 ∧ a1 = a1 ∧ a2 = a2 ∧ a3 = a3 ∧ a4 = a4 ∧ a5 = a5 ∧ a6 = a6 ∧ a7 = a7 ∧ a8 = a8 ∧ True := ⟨rfl, rfl, rfl, rfl, rfl, rfl, rfl, rfl, rfl, trivial⟩
abbrev za := @run_s
abbrev zb := @Nat.le_of_ble_eq_true
abbrev zc := @ss_move
abbrev zd := @aw_region
abbrev ze := @ss_assign
abbrev zf := @run_nil
abbrev zg := @aw_seq
abbrev zh := @of_decide_eq_false
abbrev zj := @of_decide_eq_true
abbrev zk := @aw_gh
abbrev zl := @gh_to
abbrev zm := @aw_cond
abbrev zn := @run_w
abbrev zp := @rd_s
abbrev zq := @cle_refl
abbrev zr := @retAF_mk
abbrev zt := @aw_block
abbrev zu := @aw_skip
abbrev zv := @ghe_to
abbrev zw := @rv_tmp
abbrev zx := @ss_loadL
abbrev zy := @ws_buildSlice
abbrev zA := @aw_ret
abbrev zB := @ss_idxL
abbrev zC := @run_gf
abbrev zD := @ss_field_cell
abbrev zE := @run_gt
abbrev zF := @ws_call
abbrev zG := @ss_add
abbrev zH := @retv1
abbrev zJ := @ss_lenL
abbrev zK := @ss_nilCheck_cell
abbrev zL := @aw_exit
abbrev zM := @af_enter
abbrev zN := @cleL_cons
abbrev zO := @ss_lss
abbrev zP := @aw_regionD
abbrev zQ := @ghe_step
abbrev zR := @ss_idxR
abbrev zS := @AF.ofWQ
abbrev zT := @ss_extract
abbrev zU := @ss_pickT
abbrev zV := @ss_pickF
abbrev zW := @rd_no
abbrev zX := @run_split
abbrev zY := @rd_l
abbrev zZ := @ss_load_ptr
abbrev ya := @bnot_t
abbrev yb := @bnot_f
abbrev yd := @gh_frzE
abbrev ye := @aw_loop2
abbrev yf := @ws_storeS
abbrev yg := @az_region
abbrev yh := @rd_nil
abbrev yi := @ss_loadR
abbrev yj := @rz_s
abbrev ym := @retAM_mk
abbrev yo := @ws_storeE
abbrev yp := @ws_callM
abbrev yq := @fz_own
abbrev yr := @fz_map
abbrev yt := @ss_loadH
abbrev yu := @gh_fill
abbrev yw := @ws_alloc
abbrev yx := @ws_app1
abbrev yy := @aw_loop1
abbrev yA := @ss_not
abbrev yB := @ss_loadC
abbrev yC := @cleL_nil
abbrev yD := @fz_cons
abbrev yE := @ss_eql
abbrev yF := @run_gh
abbrev yG := @az_seq
abbrev yH := @gh_freeze
abbrev yJ := @ss_field_ptr
abbrev yK := @cle_nilO
abbrev yL := @rv_struct
abbrev yM := @rz_nil
abbrev yN := @map_lt
abbrev yO := @map_se
abbrev yP := @ss_loadS
abbrev yQ := @ss_neq
abbrev yR := @ss_lenR
abbrev yS := @ss_sub
abbrev yT := @retv2
abbrev yU := @ws_callR
abbrev yV := @ws_store
abbrev yW := @cle_tup
abbrev yX := @fz_nil
abbrev yY := @az_gh
abbrev yZ := @ws_mk
abbrev y6 := @ss_load_struct
abbrev y7 := @rd_w
abbrev y8 := @ws_boxR
abbrev y9 := @bnd_some
abbrev xa := @gh_fillc
abbrev xb := @cle_nilL
abbrev xc := @ss_slL
abbrev xd := @ws_appL
abbrev xe := @lk_self
abbrev xf := @gh_open
abbrev xg := @slfL_map
abbrev xh := @rd_split
abbrev xi := @bnd_none
abbrev xj := @am_enter
abbrev xl := @ss_geq
abbrev xo := @ss_convert
abbrev xp := @rt_w
abbrev xq := @rd_f
abbrev xr := @gh_sort
abbrev xt := @az_skip
abbrev xu := @az_cond
end Go.Proofs.YtjolbldlhjfciaaGreatDoor
