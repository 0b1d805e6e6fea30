/- host: what the acts do. -/
import Derived.Test.YtiebmodokjaokaaHostC
import Derived.Test.YtiebmodokjaokaaHostD
set_option linter.unusedVariables false
set_option linter.unusedSimpArgs false
namespace Go.Sl
open Go Go.Proofs
attribute [local irreducible] cl pt own old den denOps denS thenK blockK cutK loopK retK Calls PV
attribute [local irreducible] omap ohole oheld rowsB

theorem d_append_nil {P : Program} {ops : Array Oper} {dst : Option Nat} {ty T E : TypeId} {pos : String} {after : Array Edge} {rest : List Oper} {ρ : Env} {w w0 : World} {K : Env → World → Prop} {x y : Operand} {L L' : List Asrt}
    {size by' m T' E' : Nat} {z sv : Value} {news : List Value} [hs : TySlice P T E] [hi : TyI P E size by' z] [ht : TySlice P T' E']
    (H : St w0 w L) (hx : ev ρ x = .slice none 0 0) (hy : ev ρ y = sv) (hm2 : Has L (own E size (.slice none 0 0) 0 []) L') (hsl : SlW w size sv m news)
    (h1 : news.all oneC = true) (hby : by' ≠ 0) (hb : m * by' ≤ 140737488355328)
    (h : ∀ a' c' w', St w0 w' (own E size (.slice a' m c') m news :: L') → denOps P ops rest (put ρ dst (.slice a' m c')) w' K) :
    denOps P ops (⟨dst, .call { callee := .builtin .append, args := #[x, y], argTypes := #[T, T'] }, ty, pos, after, none⟩ :: rest) ρ w K := by
  refine d_append_sl H hx hy hm2 hsl h1 hby (by rwa [Nat.zero_add]) ?_
  intro a' c' w' H'
  rw [Nat.zero_add, List.nil_append] at H'
  rw [Nat.zero_add]
  exact h a' c' w' H'
theorem St.rows_snoc {w0 w : World} {L : List Asrt} {vs : List Value} {l : List HostS.Bytes} {v : Value} {b : HostS.Bytes} (hl : vs.length = l.length) (H : St w0 w (rowsB vs l :: bytesA v b :: L)) : St w0 w (rowsB (vs ++ [v]) (l ++ [b]) :: L) := by
  unfold rowsB at H ⊢
  rw [List.zip_append hl, List.map_append]
  refine St.all_mk _ ?_
  rw [List.append_assoc]
  exact H.all_get
section
variable {p : Nat} {s : HostS.HS} {w0 w : World} {L : List Asrt}
theorem write1_c (page : Int) (hb pb bb : Nat) {bv : Value} {b : HostS.Bytes} (fv : Value) (hops : s.ops ≤ 3298534883328) (hsz : b.length = s.size) (hth : HostS.Ok (HostS.wrote page b s))
    (hbs : ∀ w', St w0 w' L → SlW w' 1 bv b.length (b.map u8v)) (hbv : ∃ a k, bv = .slice a b.length k)
    (H : St w0 w (hostA p s :: cl hb #[.pointer (some ⟨p, 0, none⟩)] 25 :: cl pb #[.int .i64 page] 3 :: cl bb #[bv] 22 :: L)) :
    Calls Try.prog 39 #[fv, .pointer (some ⟨hb, 0, none⟩), .pointer (some ⟨pb, 0, none⟩), .pointer (some ⟨bb, 0, none⟩)] w
      (Ret fun v w' => St w0 w' (hostA p (HostS.wrote page b s) :: cl hb #[.pointer (some ⟨p, 0, none⟩)] 25 :: cl pb #[.int .i64 page] 3 :: cl bb #[bv] 22 :: L)) := by
  obtain ⟨ba, bk, rfl⟩ := hbv
  obtain ⟨bl, bc, logv, hs, Hn⟩ := H.host_get
  clear H
  obtain ⟨v, H⟩ := ((Hn.pick (.there .here)).omap_open rows_nil page)
  clear Hn
  obtain ⟨vs, H⟩ := H.ex_get
  have H := H.all_get
  simp only [List.cons_append, List.nil_append] at H
  obtain ⟨hvl, hv1⟩ := H.pur_get
  have H := H.drop
  obtain ⟨a, k, rfl⟩ := H.own_sl.len
  have hm := hs.many page
  have hz1 := hs.z1
  unfold hostB at H
  refine calls_den [_, _, _, _] Try.func39 rfl rfl rfl Try.mixed (by kernel_rfl) ?_
  have H := St.own_nil H 5 1
  have hbs' : ∀ w', St w0 w' (own 5 1 (.slice none 0 0) 0 [] :: own 22 1 (.slice a (s.lay page).length k) (s.lay page).length vs :: rowsB vs (s.lay page) :: ohole bl rowsA [] s.lay page (.slice a (s.lay page).length k) :: cl p #[.int .i64 s.pages, .int .i64 s.size, .map (some bl), .int .u64 s.reg, .map (some bc), .int .i64 s.ops, logv, .int .i64 (powerOf s)] 77 :: omap bc faultsA [] s.coming :: logA logv s.log :: cl hb #[.pointer (some ⟨p, 0, none⟩)] 25 :: cl pb #[.int .i64 page] 3 :: cl bb #[.slice ba b.length bk] 22 :: L) → SlW w' 1 (.slice ba b.length bk) b.length (b.map u8v) := fun w' H => hbs w' (H.arr (by repeat (first | exact Arr.nil | exact Arr.stop | refine Arr.cons (by repeat (first | exact Has.here | apply Has.there)) ?_ | refine Arr.skip ?_)))
  refine e_drawM [ohole bl rowsA [] s.lay page (.slice a (s.lay page).length k), cl p #[.int .i64 s.pages, .int .i64 s.size, .map (some bl), .int .u64 s.reg, .map (some bc), .int .i64 s.ops, logv, .int .i64 (powerOf s)] 77, cl hb #[.pointer (some ⟨p, 0, none⟩)] 25, cl pb #[.int .i64 page] 3, cl bb #[.slice ba b.length bk] 22] H [(0, true, false), (1, true, false), (2, true, false), (3, true, false), (4, true, false), (5, true, false), (6, true, false), (7, true, false), (8, true, false), (9, true, false), (10, true, false), (11, true, false), (12, false, true), (13, false, true), (14, false, true), (15, false, false)] (by kernel_rfl) ?_
  clear H; intro w H
  have HS : St w0 w [ohole bl rowsA [] s.lay page (.slice a (s.lay page).length k), cl p #[.int .i64 s.pages, .int .i64 s.size, .map (some bl), .int .u64 s.reg, .map (some bc), .int .i64 s.ops, logv, .int .i64 (powerOf s)] 77, cl hb #[.pointer (some ⟨p, 0, none⟩)] 25, cl pb #[.int .i64 page] 3, cl bb #[.slice ba b.length bk] 22] := H.arr (by repeat (first | exact Arr.nil | exact Arr.stop | refine Arr.cons (by repeat (first | exact Has.here | apply Has.there)) ?_ | refine Arr.skip ?_))
  repeat (refine i_dsq ?_; first | refine ds_pv rfl (by first | exact pv_move_int rfl | exact pv_move_ptr rfl | exact pv_move_slice rfl | exact pv_assign_int rfl | exact pv_assign_slice rfl | exact pv_assign_ptr rfl | exact pv_move_bool rfl | exact pv_assign_bool rfl | exact pv_nil_ptr rfl | exact pv_fieldAddr rfl (by omega) | exact pv_lss rfl rfl | exact pv_eql rfl rfl | exact pv_neq rfl rfl | exact pv_geq rfl rfl | exact pv_gtr rfl rfl | exact pv_leq rfl rfl | exact pv_len rfl | exact pv_add_i rfl rfl (by omega) | exact pv_sub_i rfl rfl (by omega) | exact pv_mul_i rfl rfl (by omega) | exact pv_extract rfl rfl | exact pv_pick_tb rfl rfl | exact pv_pick_fb rfl rfl | exact pv_pick_t rfl rfl | exact pv_pick_f rfl rfl | exact pv_pick_and rfl rfl | exact pv_pick_or rfl rfl | exact pv_not_p rfl | exact pv_eql_ptr_nil rfl rfl | exact pv_neq_ptr_nil rfl rfl | exact pv_max rfl rfl | exact pv_min rfl rfl | exact pv_move_agg rfl | exact pv_assign_agg rfl | exact pv_move_func rfl | exact pv_field rfl rfl | exact pv_not rfl | exact pv_len_arr | exact pv_makeFuncL | exact pv_move rfl | exact pv_assign rfl) HS ?_ | refine ds_gy rfl rfl (by first | exact pv_move_int rfl | exact pv_move_ptr rfl | exact pv_move_slice rfl | exact pv_assign_int rfl | exact pv_assign_slice rfl | exact pv_assign_ptr rfl | exact pv_move_bool rfl | exact pv_assign_bool rfl | exact pv_nil_ptr rfl | exact pv_fieldAddr rfl (by omega) | exact pv_lss rfl rfl | exact pv_eql rfl rfl | exact pv_neq rfl rfl | exact pv_geq rfl rfl | exact pv_gtr rfl rfl | exact pv_leq rfl rfl | exact pv_len rfl | exact pv_add_i rfl rfl (by omega) | exact pv_sub_i rfl rfl (by omega) | exact pv_mul_i rfl rfl (by omega) | exact pv_extract rfl rfl | exact pv_pick_tb rfl rfl | exact pv_pick_fb rfl rfl | exact pv_pick_t rfl rfl | exact pv_pick_f rfl rfl | exact pv_pick_and rfl rfl | exact pv_pick_or rfl rfl | exact pv_not_p rfl | exact pv_eql_ptr_nil rfl rfl | exact pv_neq_ptr_nil rfl rfl | exact pv_max rfl rfl | exact pv_min rfl rfl | exact pv_move_agg rfl | exact pv_assign_agg rfl | exact pv_move_func rfl | exact pv_field rfl rfl | exact pv_not rfl | exact pv_len_arr | exact pv_makeFuncL | exact pv_move rfl | exact pv_assign rfl) HS ?_ | refine ds_load_gy rfl rfl rfl (fun _ h => h) (by repeat (first | exact Has.here | apply Has.there)) rfl HS ?_ | refine ds_load rfl rfl (fun _ h => h) (by repeat (first | exact Has.here | apply Has.there)) rfl HS ?_ | refine ds_lookup rfl rfl rfl (fun _ h => h) (by repeat (first | exact Has.here | apply Has.there)) HS ?_)
  refine ds_eff rfl ?_
  refine d_append_nil H rfl rfl Has.here (hbs' _ H) (u8_one b) (by omega) (by omega) ?_
  clear H HS; intro a' c' w H
  have HS : St w0 w [ohole bl rowsA [] s.lay page (.slice a (s.lay page).length k), cl p #[.int .i64 s.pages, .int .i64 s.size, .map (some bl), .int .u64 s.reg, .map (some bc), .int .i64 s.ops, logv, .int .i64 (powerOf s)] 77, cl hb #[.pointer (some ⟨p, 0, none⟩)] 25, cl pb #[.int .i64 page] 3, cl bb #[.slice ba b.length bk] 22] := H.arr (by repeat (first | exact Arr.nil | exact Arr.stop | refine Arr.cons (by repeat (first | exact Has.here | apply Has.there)) ?_ | refine Arr.skip ?_))
  refine d_nil ⟨fun _ => HS, ?_⟩
  refine ds_eff rfl ?_
  refine d_buildSlice (cs := #[.slice a' b.length c']) H ?_ ?_ (fill_one (v := .slice a' b.length c') ?_ ?_) ?_
  · omega
  · omega
  · rfl
  · rfl
  clear H HS; intro w tb H
  have HS : St w0 w [ohole bl rowsA [] s.lay page (.slice a (s.lay page).length k), cl p #[.int .i64 s.pages, .int .i64 s.size, .map (some bl), .int .u64 s.reg, .map (some bc), .int .i64 s.ops, logv, .int .i64 (powerOf s)] 77, cl hb #[.pointer (some ⟨p, 0, none⟩)] 25, cl pb #[.int .i64 page] 3, cl bb #[.slice ba b.length bk] 22] := H.arr (by repeat (first | exact Arr.nil | exact Arr.stop | refine Arr.cons (by repeat (first | exact Has.here | apply Has.there)) ?_ | refine Arr.skip ?_))
  refine d_nil ⟨fun _ => HS, ?_⟩
  refine ds_eff rfl ?_
  refine d_append (news := [.slice a' b.length c']) H rfl rfl (by repeat (first | exact Has.here | apply Has.there)) (by repeat (first | exact Has.here | apply Has.there)) ?_ ?_ ?_ ?_ ?_ ?_
  · simp
  · simp
  · rfl
  · omega
  · omega
  clear H HS; intro la' lk' w H
  have HS : St w0 w [ohole bl rowsA [] s.lay page (.slice a (s.lay page).length k), cl p #[.int .i64 s.pages, .int .i64 s.size, .map (some bl), .int .u64 s.reg, .map (some bc), .int .i64 s.ops, logv, .int .i64 (powerOf s)] 77, cl hb #[.pointer (some ⟨p, 0, none⟩)] 25, cl pb #[.int .i64 page] 3, cl bb #[.slice ba b.length bk] 22] := H.arr (by repeat (first | exact Arr.nil | exact Arr.stop | refine Arr.cons (by repeat (first | exact Has.here | apply Has.there)) ?_ | refine Arr.skip ?_))
  refine d_nil ⟨fun _ => HS, ?_⟩
  refine ds_eff rfl ?_
  refine d_mapUpdate H rfl rfl rfl (by repeat (first | exact Repl.here | apply Repl.there)) ?_
  clear H HS; intro w H
  refine d_nil ⟨(fun hh => Bool.noConfusion hh), ?_⟩
  refine ds_nil ?_
  refine r_0n ?_
  have H1 := St.rows_snoc (v := .slice a' b.length c') (b := b) hvl (H.arr (M := rowsB vs (s.lay page) :: own 5 1 (.slice a' b.length c') b.length (b.map u8v) :: own 22 1 (.slice la' ((s.lay page).length + 1) lk') ((s.lay page).length + 1) (vs ++ [.slice a' b.length c']) :: oheld bl rowsA [] s.lay page (.slice la' ((s.lay page).length + 1) lk') :: hostB p bl bc logv (HostS.wrote page b s) :: omap bc faultsA [] s.coming :: logA logv s.log :: cl hb #[.pointer (some ⟨p, 0, none⟩)] 25 :: cl pb #[.int .i64 page] 3 :: cl bb #[.slice ba b.length bk] 22 :: L) (by repeat (first | exact Arr.nil | exact Arr.stop | refine Arr.cons (by repeat (first | exact Has.here | apply Has.there)) ?_ | refine Arr.skip ?_)))
  have H2 := (H1.arr (M := own 22 1 (.slice la' ((s.lay page).length + 1) lk') ((s.lay page).length + 1) (vs ++ [.slice a' b.length c']) :: rowsB (vs ++ [.slice a' b.length c']) (s.lay page ++ [b]) :: oheld bl rowsA [] s.lay page (.slice la' ((s.lay page).length + 1) lk') :: hostB p bl bc logv (HostS.wrote page b s) :: omap bc faultsA [] s.coming :: logA logv s.log :: cl hb #[.pointer (some ⟨p, 0, none⟩)] 25 :: cl pb #[.int .i64 page] 3 :: cl bb #[.slice ba b.length bk] 22 :: L) (by repeat (first | exact Arr.nil | exact Arr.stop | refine Arr.cons (by repeat (first | exact Has.here | apply Has.there)) ?_ | refine Arr.skip ?_)))
  have hl1 : (s.lay page ++ [b]).length = (s.lay page).length + 1 := by simp
  rw [← hl1] at H2
  have H3 := St.ex_mk (F := fun vs : List Value => all [pur (vs.length = (s.lay page ++ [b]).length ∧ vs.all oneC = true), own 22 1 (.slice la' (s.lay page ++ [b]).length lk') (s.lay page ++ [b]).length vs, rowsB vs (s.lay page ++ [b])]) (vs ++ [.slice a' b.length c']) (St.all_mk _ (H2.pur_mk ⟨by simp [hvl], by simp [hv1, oneC]⟩))
  have H4 := St.oheld_close (A := rowsA) (d := []) (f := s.lay) (k := page) (x := s.lay page ++ [b]) H3
  exact St.host_mk (p := p) (s := HostS.wrote page b s) hth (H4.arr (by repeat (first | exact Arr.nil | exact Arr.stop | refine Arr.cons (by repeat (first | exact Has.here | apply Has.there)) ?_ | refine Arr.skip ?_)))
end
end Go.Sl
