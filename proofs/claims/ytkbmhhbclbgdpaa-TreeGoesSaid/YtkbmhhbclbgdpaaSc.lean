/-
  SHA-256: the rounds' numbers, the round, what a block makes of a state.
-/
import Derived.Test.YtkbmhhbclbgdpaaSb
import Derived.KernelRfl
namespace Go.Proofs.Ytkbmhhbclbgdpaa
open Go Go.RowKit K SH

namespace SH
def kk : List UInt32 := [1116352408, 1899447441, 3049323471, 3921009573, 961987163, 1508970993, 2453635748, 2870763221, 3624381080, 310598401, 607225278, 1426881987, 1925078388, 2162078206, 2614888103, 3248222580, 3835390401, 4022224774, 264347078, 604807628, 770255983, 1249150122, 1555081692, 1996064986, 2554220882, 2821834349, 2952996808, 3210313671, 3336571891, 3584528711, 113926993, 338241895, 666307205, 773529912, 1294757372, 1396182291, 1695183700, 1986661051, 2177026350, 2456956037, 2730485921, 2820302411, 3259730800, 3345764771, 3516065817, 3600352804, 4094571909, 275423344, 430227734, 506948616, 659060556, 883997877, 958139571, 1322822218, 1537002063, 1747873779, 1955562222, 2024104815, 2227730452, 2361852424, 2428436474, 2756734187, 3204031479, 3329325298]

structure V8 where
  (a b c d e f g h : UInt32)

def V8.l (v : V8) : List UInt32 := [v.a, v.b, v.c, v.d, v.e, v.f, v.g, v.h]
def h0 : V8 := ⟨1779033703, 3144134277, 1013904242, 2773480762, 1359893119, 2600822924, 528734635, 1541459225⟩
def t1 (v : V8) (k w : UInt32) : UInt32 := v.h + (rotr v.e 6 ^^^ rotr v.e 11 ^^^ rotr v.e 25) + (v.e &&& v.f ^^^ ((v.e ^^^ 0xffffffff) &&& v.g)) + k + w
def t2 (v : V8) : UInt32 := (rotr v.a 2 ^^^ rotr v.a 13 ^^^ rotr v.a 22) + ((v.a &&& v.b) ^^^ (v.a &&& v.c) ^^^ (v.b &&& v.c))
def rnd (v : V8) (k w : UInt32) : V8 := ⟨t1 v k w + t2 v, v.a, v.b, v.c, v.d + t1 v k w, v.e, v.f, v.g⟩
def rnds : Nat → V8 → List UInt32 → V8
  | 0, v, _ => v
  | t + 1, v, w => rnd (rnds t v w) (kk.getD t 0) (w.getD t 0)
def V8.add (v u : V8) : V8 := ⟨v.a + u.a, v.b + u.b, v.c + u.c, v.d + u.d, v.e + u.e, v.f + u.f, v.g + u.g, v.h + u.h⟩
/-- One block more. -/
def comp (v : V8) (b : List UInt8) : V8 := v.add (rnds 64 v (sched b))

theorem length_kk : kk.length = 64 := rfl
end SH

section
variable {m : Mem} {wI : World}

theorem c_factors (him : Im m wI) : Ret Try.prog 68 #[] wI fun v w' => Tch wI w' [] [] ∧ v = arr32 kk := by
  have st := St.start him
  refine ret_of Try.call68 Try.func68 rfl Try.ntmps68 Try.results68 rfl ?_
  refine wc_seq ?_
  refine wc_region ?_
  refine wl_alloc TF.z89 st rfl ?_
  intro b0 w st
  refine wl_nil ?_
  refine then_go ?_
  refine wc_seq ?_
  refine wc_region ?_
  refine wl_val (v_build_fill (c' := (ws kk).toArray) [(0, .int .u32 1116352408), (1, .int .u32 1899447441), (2, .int .u32 3049323471), (3, .int .u32 3921009573), (4, .int .u32 961987163), (5, .int .u32 1508970993), (6, .int .u32 2453635748), (7, .int .u32 2870763221), (8, .int .u32 3624381080), (9, .int .u32 310598401), (10, .int .u32 607225278), (11, .int .u32 1426881987), (12, .int .u32 1925078388), (13, .int .u32 2162078206), (14, .int .u32 2614888103), (15, .int .u32 3248222580), (16, .int .u32 3835390401), (17, .int .u32 4022224774), (18, .int .u32 264347078), (19, .int .u32 604807628), (20, .int .u32 770255983), (21, .int .u32 1249150122), (22, .int .u32 1555081692), (23, .int .u32 1996064986), (24, .int .u32 2554220882), (25, .int .u32 2821834349), (26, .int .u32 2952996808), (27, .int .u32 3210313671), (28, .int .u32 3336571891), (29, .int .u32 3584528711), (30, .int .u32 113926993), (31, .int .u32 338241895), (32, .int .u32 666307205), (33, .int .u32 773529912), (34, .int .u32 1294757372), (35, .int .u32 1396182291), (36, .int .u32 1695183700), (37, .int .u32 1986661051), (38, .int .u32 2177026350), (39, .int .u32 2456956037), (40, .int .u32 2730485921), (41, .int .u32 2820302411), (42, .int .u32 3259730800), (43, .int .u32 3345764771), (44, .int .u32 3516065817), (45, .int .u32 3600352804), (46, .int .u32 4094571909), (47, .int .u32 275423344), (48, .int .u32 430227734), (49, .int .u32 506948616), (50, .int .u32 659060556), (51, .int .u32 883997877), (52, .int .u32 958139571), (53, .int .u32 1322822218), (54, .int .u32 1537002063), (55, .int .u32 1747873779), (56, .int .u32 1955562222), (57, .int .u32 2024104815), (58, .int .u32 2227730452), (59, .int .u32 2361852424), (60, .int .u32 2428436474), (61, .int .u32 2756734187), (62, .int .u32 3204031479), (63, .int .u32 3329325298)] TF.z89 Try.underlying89 TF.t80 rfl (by kernel_rfl)) rfl ?_
  refine wl_storeW (cs := (ws kk).toArray) 0 st rfl TF.t89 rfl rfl rfl rfl (by simpa using one_ws _) ?_
  intro w st
  refine wl_nil ?_
  refine then_go ?_
  refine wc_ret ?_
  exact ret1c rfl (st.reads 0 rfl TF.t89 (getV_all rfl)) ⟨(st.keepOnly (l := []) (List.nil_sublist _)).touch, rfl⟩

theorem c_round (him : Im m wI) : Ret Try.prog 65 #[] wI fun v w' => Tch wI w' [] [] ∧ v = arr32 kk := by
  have st := St.start him
  refine ret_of Try.call65 Try.func65 rfl Try.ntmps65 Try.results65 rfl ?_
  refine wc_seq ?_
  refine wc_region ?_
  refine wl_alloc TF.z89 st rfl ?_
  intro b0 w st
  refine wl_nil ?_
  refine then_go ?_
  refine wc_seq ?_
  refine wc_region ?_
  refine wl_val (v_build_fill (c' := (ws kk).toArray) [(0, .int .u32 1116352408), (1, .int .u32 1899447441), (2, .int .u32 3049323471), (3, .int .u32 3921009573), (4, .int .u32 961987163), (5, .int .u32 1508970993), (6, .int .u32 2453635748), (7, .int .u32 2870763221), (8, .int .u32 3624381080), (9, .int .u32 310598401), (10, .int .u32 607225278), (11, .int .u32 1426881987), (12, .int .u32 1925078388), (13, .int .u32 2162078206), (14, .int .u32 2614888103), (15, .int .u32 3248222580), (16, .int .u32 3835390401), (17, .int .u32 4022224774), (18, .int .u32 264347078), (19, .int .u32 604807628), (20, .int .u32 770255983), (21, .int .u32 1249150122), (22, .int .u32 1555081692), (23, .int .u32 1996064986), (24, .int .u32 2554220882), (25, .int .u32 2821834349), (26, .int .u32 2952996808), (27, .int .u32 3210313671), (28, .int .u32 3336571891), (29, .int .u32 3584528711), (30, .int .u32 113926993), (31, .int .u32 338241895), (32, .int .u32 666307205), (33, .int .u32 773529912), (34, .int .u32 1294757372), (35, .int .u32 1396182291), (36, .int .u32 1695183700), (37, .int .u32 1986661051), (38, .int .u32 2177026350), (39, .int .u32 2456956037), (40, .int .u32 2730485921), (41, .int .u32 2820302411), (42, .int .u32 3259730800), (43, .int .u32 3345764771), (44, .int .u32 3516065817), (45, .int .u32 3600352804), (46, .int .u32 4094571909), (47, .int .u32 275423344), (48, .int .u32 430227734), (49, .int .u32 506948616), (50, .int .u32 659060556), (51, .int .u32 883997877), (52, .int .u32 958139571), (53, .int .u32 1322822218), (54, .int .u32 1537002063), (55, .int .u32 1747873779), (56, .int .u32 1955562222), (57, .int .u32 2024104815), (58, .int .u32 2227730452), (59, .int .u32 2361852424), (60, .int .u32 2428436474), (61, .int .u32 2756734187), (62, .int .u32 3204031479), (63, .int .u32 3329325298)] TF.z89 Try.underlying89 TF.t80 rfl (by kernel_rfl)) rfl ?_
  refine wl_storeW (cs := (ws kk).toArray) 0 st rfl TF.t89 rfl rfl rfl rfl (by simpa using one_ws _) ?_
  intro w st
  refine wl_nil ?_
  refine then_go ?_
  refine wc_ret ?_
  exact ret1c rfl (st.reads 0 rfl TF.t89 (getV_all rfl)) ⟨(st.keepOnly (l := []) (List.nil_sublist _)).touch, rfl⟩

theorem c_first (him : Im m wI) : Ret Try.prog 58 #[] wI fun v w' => Tch wI w' [] [] ∧ v = arr32 h0.l := by
  have st := St.start him
  refine ret_of Try.call58 Try.func58 rfl Try.ntmps58 Try.results58 rfl ?_
  refine wc_seq ?_
  refine wc_region ?_
  refine wl_alloc TF.z81 st rfl ?_
  intro b0 w st
  refine wl_nil ?_
  refine then_go ?_
  refine wc_seq ?_
  refine wc_region ?_
  refine wl_val (v_build_fill (c' := (ws h0.l).toArray) [(0, .int .u32 1779033703), (1, .int .u32 3144134277), (2, .int .u32 1013904242), (3, .int .u32 2773480762), (4, .int .u32 1359893119), (5, .int .u32 2600822924), (6, .int .u32 528734635), (7, .int .u32 1541459225)] TF.z81 Try.underlying81 TF.t80 rfl (by kernel_rfl)) rfl ?_
  refine wl_storeW (cs := (ws h0.l).toArray) 0 st rfl TF.t81 rfl rfl rfl rfl (by simpa using one_ws _) ?_
  intro w st
  refine wl_nil ?_
  refine then_go ?_
  refine wc_ret ?_
  exact ret1c rfl (st.reads 0 rfl TF.t81 (getV_all rfl)) ⟨(st.keepOnly (l := []) (List.nil_sublist _)).touch, rfl⟩
end
end Go.Proofs.Ytkbmhhbclbgdpaa
