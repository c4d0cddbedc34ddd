/- Parts of the proof of ScriptRaws. -/
import Derived.Test.YtkghejaimhoboaaGreatDoorPr09
import Derived.Laws.Externs
set_option linter.unusedSimpArgs false
set_option linter.unusedVariables false
set_option maxRecDepth 100000
set_option maxHeartbeats 8000000
namespace Go.Proofs.YtkghejaimhoboaaGreatDoor
open Go.RowKit Go.Shelf Go.Proofs.Tryz
theorem ses_Of1(r:RowV)(w:World):Calls prog 225 #[.agg r.vals] w fun e w'=>e=.returned (.int .i64 r.kind)/\Below w.heap.size w w':=by unfold RowV.vals;go_enter func225,ntmps225;go_wp2;go_ret;exact⟨rfl,(Below.refl _ w).alloc nat_le_rfl _⟩
def ofKind(l:List RowV)(k:Int):List RowV:=l.filter fun r=>decide (r.kind=k)
structure PM (w:World)(base m:Nat)(l:List RowV)(G:Int->Option Value):Prop where
 map:IM .i64 w m G
 rows:∀k,RowsAt w base ((G k).getD (.slice none 0 0)) (ofKind l k)
 no:∀k,ofKind l k=[]->G k=none
 apart:∀k k' b,k≠k'->((G k).getD (.slice none 0 0)).ownBlock=some b->((G k').getD (.slice none 0 0)).ownBlock≠some b
theorem PM.below{w w':World}{base m:Nat}{l:List RowV}{G:Int->Option Value}(h:PM w base m l G)(hb:Below w.heap.size w w'):PM w' base m l G:=
 ⟨h.map.below hb,fun k=>ownsRow_below (h.rows k) hb,h.no,h.apart⟩
theorem map_not_row{w:World}{b:Nat}{G:Int->Option Value}{q:IntKind}(h:IM q w b G){e:TypeId}{base size n:Nat}{v:Value}{xs:List Value}(hr:w.ownsRow base e size v n xs):v.ownBlock≠some b:=by
 obtain⟨es,clock,hb,_⟩:=h;obtain⟨_,⟨rfl,_⟩ | ⟨g,cap,cur,rfl,_,hg,_⟩⟩:=hr
 ·simp[Value.ownBlock]
 intro he;simp only[Value.ownBlock,Option.some.injEq]at he;subst he;rw[hb]at hg;cases hg
theorem own_grownBy{w w':World}{base size n:Nat}{e:TypeId}{v:Value}{xs:List Value}{o:Option Nat}(h:w.ownsRow base e size v n xs)(hg:w.grownBy w' o)(hne:∀b,v.ownBlock=some b->o≠some b):w'.ownsRow base e size v n xs:=by
 obtain⟨hl,hx | ⟨g,cap,cur,rfl,hb,hh,hx⟩⟩:=h
 ·exact⟨hl,.inl hx⟩
 exact⟨hl,.inr ⟨g,cap,cur,rfl,hb,(hg.block g (Array.getElem?_eq_some_iff.1 hh).1 (fun he=>hne g rfl he.symm)).trans hh,hx⟩⟩
theorem ofKind_snoc(l:List RowV)(r:RowV)(k:Int):ofKind (l++[r]) k=if r.kind=k then ofKind l k++[r]else ofKind l k:=by unfold ofKind;rw[List.filter_append];by_cases h:r.kind=k<;>simp[h]
theorem PM.put{w w1 w2:World}{base m:Nat}{l:List RowV}{G:Int->Option Value}{r:RowV}{v':Value}(h:PM w base m l G)
  (hown:w1.ownsRow base 136 9 v' ((ofKind l r.kind).length+1) ((ofKind l r.kind).flatMap RowV.cl++r.cl)) (g1:w.grownBy w1 ((G r.kind).getD (.slice none 0 0)).ownBlock)
  (n1:∀k,v'.ownBlock=some k->((G r.kind).getD (.slice none 0 0)).ownBlock=some k\/w.heap.size<=k) (hm:m<w.heap.size)
  (him:IM .i64 w2 m (fun k=>if k=r.kind then some v' else G k)) (hg2:w1.grownBy w2 (some m)):PM w2 base m (l++[r]) (fun k=>if k=r.kind then some v' else G k):=by
 have hm1:IM .i64 w1 m G:=h.map.grown g1 (map_not_row h.map (h.rows r.kind));refine⟨him,fun k=>?_,fun k hk=>?_,fun k k' b hkk hb hb'=>?_⟩
 ·rw[ofKind_snoc];by_cases hk:k=r.kind
  ·subst hk;rw[if_pos rfl,if_pos rfl,Option.getD_some];have:w1.ownsRow base 136 9 v' (ofKind l r.kind++[r]).length ((ofKind l r.kind++[r]).flatMap RowV.cl):=by simpa using hown
   exact own_grownBy this hg2 (fun b hb he=>map_not_row hm1 hown (by cases he;exact hb))
  rw[if_neg hk,if_neg (fun e=>hk e.symm)];refine own_grownBy (own_grownBy (h.rows k) g1 (fun b hb he=>h.apart k r.kind b hk hb he)) hg2 (fun b hb he=>?_);cases he;exact map_not_row h.map (h.rows k) hb
 ·rw[ofKind_snoc]at hk;by_cases hkr:r.kind=k
  ·rw[if_pos hkr]at hk;simp at hk
  rw[if_neg hkr]at hk;try dsimp only
  show(if k=r.kind then _ else _)=_;rw[if_neg (fun e=>hkr e.symm)];exact h.no k hk
 by_cases h1:k=r.kind
 ·rw[if_pos h1,Option.getD_some]at hb;have h2:¬k'=r.kind:=fun e=>hkk (h1.trans e.symm);rw[if_neg h2]at hb';rcases n1 b hb with h3 | h3
  ·exact h.apart r.kind k' b (fun e=>h2 e.symm) h3 hb'
  have:=((h.rows k').lt b hb').2;omega
 rw[if_neg h1]at hb;by_cases h2:k'=r.kind
 ·rw[if_pos h2,Option.getD_some]at hb';rcases n1 b hb' with h3 | h3
  ·exact h.apart k r.kind b h1 hb h3
  have:=((h.rows k).lt b hb).2;omega
 rw[if_neg h2]at hb';exact h.apart k k' b hkk hb hb'
structure PSt (n b:Nat)(r:RowV)(l:List RowV)(G:Int->Option Value)(w W:World):Prop where
 below:Below n w W
 blk:Blk W b r.vals 136
 pm:PM W n n l G
 base:n<W.heap.size
 nb:n<b
 ap:∀k x,((G k).getD (.slice none 0 0)).ownBlock=some x->x<b
theorem PSt.step{n b:Nat}{r:RowV}{l:List RowV}{G:Int->Option Value}{w W W':World}(h:PSt n b r l G w W)(hb:Below W.heap.size W W'):PSt n b r l G w W':=
 ⟨h.below.trans (hb.mono (Nat.le_of_lt h.base)),h.blk.below hb,h.pm.below hb,Nat.lt_of_lt_of_le h.base hb.size,h.nb,h.ap⟩
theorem ses_parted(base:Nat)(v:Value)(l:List RowV)(w:World)(hv:RowsAt w base v l)(hl:l.length<=1000000):
  Calls prog 224 #[v,.func (.func 225) #[] #[]] w fun e w'=>∃m G,e=.returned (.map (some m))/\PM w' w.heap.size m l G/\w.heap.size<=m/\Below w.heap.size w w':=by
 obtain⟨a,cap,rfl⟩:=own_slice hv;have C1:=hid ses_Of1;have HV:=hid hv;clear hv;have hmm:= @run_makeMap prog;go_enter func224,ntmps224;go_wp2;go_loopw [11] (fun i wr=>∃(k:Nat)(G:Int->Option Value),i=.int .i64 k/\k<=l.length/\Hid (PM wr w.heap.size w.heap.size (l.take k) G)/\Hid (Below w.heap.size w wr)) (fun i _=>l.length-(intOf i).toNat)
 case atStart=>exact⟨0,_,rfl,Nat.zero_le _,hid ⟨IM.new w,fun k=>World.ownsRow_nil _ _ _ _,fun _ _=>rfl,fun _ _ _ _ h=>by simp[Value.ownBlock]at h⟩,hid ((Below.refl _ w).alloc nat_le_rfl _)⟩
 case round=>
  obtain⟨k,G,rfl,hk,hpm,hbr⟩:=hrel;rcases Nat.lt_or_ge k l.length with hlt | hge
  ·have dk:decide ((k:Int)<(l.length:Int))=true:=decide_eq_true (by omega);obtain⟨r,hr⟩:∃r,l[k]?=some r:=⟨_,List.getElem?_eq_getElem hlt⟩;obtain⟨g,rfl,hcap,hrow⟩:=own_range RowV.cl RowV.cllen rfl (ownsRow_below HV.out hbr.out) hr;have hrow:=hid hrow;have hts:=hid (show l.take (k+1)=l.take k++[r] by rw[List.take_add_one,hr];rfl);have hr:=hid hr;go_wp2_with (first
    | (refine wpList_load_mid rfl 136 _ rfl g (k*9) rfl r.cl _ hrow.out underlying136 rfl (by kernel_rfl) ?_)
    | (refine wS 136 9 rfl wr.heap.size _ r.cl.toArray rfl rfl (Blk.new wr _ _) rfl rfl r.one ?_;intro w2 hb2 hw2))
   have hB2:=hid (((Below.refl _ wr).alloc nat_le_rfl (.cells #[.int .i64 0,.string ⟨#[]⟩,.int .i64 0,.int .i64 0,.string ⟨#[]⟩,.string ⟨#[]⟩,.int .i64 0,.bool false,.int .i64 0] 136)).trans (hw2.below (by simp) (by simp)));have hbr2:=hid (hbr.out.trans (hB2.mono hbr.out.size));have hpm2:=hid (hpm.out.below hB2.out);have hb2:=hid hb2;clear hw2 hB2;have hst:=hid (show PSt w.heap.size wr.heap.size r (l.take k) G w w2.drew from⟨hbr2.drew,hb2.drew,hpm2.below bel_refl.drew,by have:=hbr.out.size;have:=hb2.lt;simp;omega,hpm.out.map.lt,fun k x hx=>((hpm.out.rows k).lt x hx).2⟩);refine regionQ [(1000,fun w'=>Blk w' wr.heap.size r.vals 136),(12,fun w'=>IM .i64 w' w.heap.size G)] (by kernel_rfl) ⟨hb2.drew,hst.pm.map,trivial⟩ fun KQ hKQ=>?_;try simp only[PT]
   refine tQ [0,1,4,5] ?_;refine lR 2 0 rfl rfl rfl rfl (fun w' hf=>run_load_blk hf 136 underlying136 rfl (by kernel_rfl)) ?_;simp only[PT];refine lR 6 0 rfl rfl rfl rfl (fun w' hf=>run_load_blk hf 136 underlying136 rfl (by kernel_rfl)) ?_;simp only[PT];refine lR 9 0 rfl rfl rfl rfl (fun w' hf=>run_load_blk hf 136 underlying136 rfl (by kernel_rfl)) ?_;simp only[PT];clear hbr hbr2 hpm hpm2 hb2;refine stepQ2 3 10 rfl rfl (by kernel_rfl) (by decide) (by kernel_rfl) (by kernel_rfl) (fun K hK=>?_) (fun K hK=>?_)
   ·try simp only[GO]
    go_simp;refine(C1 r _).mono ?_;rintro e w3 ⟨rfl,hbc⟩;replace hst:=hid (hst.step hbc);clear hbc;refine hK _ _ ⟨⟨fun _=>hst.blk,fun _=>hst.pm.map,trivial⟩,?_⟩;clear hK K;try simp only[PT]
    refine stepQ2 7 10 rfl rfl (by kernel_rfl) (by decide) (by kernel_rfl) (by kernel_rfl) (fun K hK=>?_) (fun K hK=>?_)
    ·try simp only[GO]
     go_simp;refine(C1 r _).mono ?_;rintro e w4 ⟨rfl,hbc⟩;replace hst:=hid (hst.step hbc);clear hbc;refine hK _ _ ⟨⟨fun _=>hst.blk,fun _=>hst.pm.map,trivial⟩,?_⟩;clear hK K;try simp only[PT]
     refine lookQ 8 rfl (by kernel_rfl) (by kernel_rfl) rfl rfl rfl 1 rfl (by kernel_rfl) ((G r.kind).getD (.slice none 0 0)) (fun w' hf=>run_lookup_im 264 133 122 underlying264 underlying133 hf (.slice none 0 0) (by kernel_rfl) r.kind false) ?_;try simp only[PT]
     refine sQ 10 fun K hK=>?_;simp only[GO];try simp only[GO]
     refine wp_slice_one _ rfl eRow (by decide) (by decide) (.agg r.cl.toArray) rfl rfl ?_;have hgb:=hid (Blk.new (w4) r.cl.toArray 136);replace hst:=hid (hst.step ((Below.refl _ (w4)).alloc nat_le_rfl (.cells r.cl.toArray 136)));refine hK _ _ ⟨⟨fun _=>hst.blk,fun _=>hst.pm.map,trivial⟩,?_⟩;clear hK K;try simp only[PT]
     refine sQ 11 fun K hK=>?_;simp only[GO];refine wp_append_grp _ _ rfl eRow (by decide) w.heap.size ((G r.kind).getD (.slice none 0 0)) _ _ rfl (hst.pm.rows r.kind) w4.heap.size r.cl 136 rfl hgb.out rfl r.one (by have:=List.length_filter_le (fun x:RowV=>decide (x.kind=r.kind)) (l.take k);unfold ofKind;simp at this ⊢;omega) (by have:=List.length_filter_le (fun x:RowV=>decide (x.kind=r.kind)) (l.take k);unfold ofKind;simp at this ⊢;omega) (Nat.le_of_lt hst.base) fun v' w5 r5 g5 n5=>?_;have hg5:=hid g5;have him5:=hid (hst.pm.map.grown g5 (map_not_row hst.pm.map (hst.pm.rows r.kind)));have hbb5:=hid (Blk.keep hst.blk (g5.block _ hst.blk.lt (fun he=>by have:=hst.ap r.kind _ he.symm;omega)));refine hK _ _ ⟨⟨fun _=>hbb5.out,fun _=>him5.out,trivial⟩,?_⟩;clear hK K;try simp only[PT]
     refine sQ 12 fun K hK=>?_;simp only[GO];refine wp_update_im _ _ _ 264 rfl 133 122 underlying264 underlying133 him5.out rfl r.kind v' rfl rfl fun w6 him6 hg6=>?_;have hpm6:=hid (hst.pm.put (r:=r) r5 hg5.out n5 hst.base him6 hg6);have hbr5:=hid (hst.below.grown hg5.out (Nat.le_of_lt hst.base) (fun x hx=>((hst.pm.rows r.kind).lt x hx).1));have hbr6:=hid (hbr5.grown hg6 (Nat.le_trans (Nat.le_of_lt hst.base) hg5.size) (fun x hx=>by cases hx;exact Nat.le_refl _));have hbb6:=hid (Blk.keep hbb5.out (hg6.block _ hbb5.lt (fun he=>by have:=hst.nb;simp only[Option.some.injEq]at he;omega)));refine hK _ _ ⟨⟨fun _=>hbb6.out,fun h=>absurd (show true=false from h) (by decide),trivial⟩,?_⟩;clear hK K;try simp only[PT]
     refine dQ (hKQ.out _ _ ?_);clear hKQ KQ;go_wp2;go_roundw
     case rel=>exact⟨k+1,_,by go_num,by omega,by rw[hts.out];exact hpm6,hbr6⟩
     case measure=>simp[intOf];omega
    skip;try simp only[GO]
    refine wp_slice_one _ rfl eRow (by decide) (by decide) (.agg r.cl.toArray) rfl rfl ?_;have hgb:=hid (Blk.new (w3) r.cl.toArray 136);replace hst:=hid (hst.step ((Below.refl _ (w3)).alloc nat_le_rfl (.cells r.cl.toArray 136)));refine hK _ _ ⟨⟨fun _=>hst.blk,fun _=>hst.pm.map,trivial⟩,?_⟩;clear hK K;try simp only[PT]
    refine sQ 7 fun K hK=>?_;simp only[GO];try simp only[GO]
    go_simp;refine(C1 r _).mono ?_;rintro e w4 ⟨rfl,hbc⟩;replace hst:=hid (hst.step hbc);replace hgb:=hid (hgb.below hbc);clear hbc;refine hK _ _ ⟨⟨fun _=>hst.blk,fun _=>hst.pm.map,trivial⟩,?_⟩;clear hK K;try simp only[PT]
    refine lookQ 8 rfl (by kernel_rfl) (by kernel_rfl) rfl rfl rfl 1 rfl (by kernel_rfl) ((G r.kind).getD (.slice none 0 0)) (fun w' hf=>run_lookup_im 264 133 122 underlying264 underlying133 hf (.slice none 0 0) (by kernel_rfl) r.kind false) ?_;try simp only[PT]
    refine sQ 11 fun K hK=>?_;simp only[GO];refine wp_append_grp _ _ rfl eRow (by decide) w.heap.size ((G r.kind).getD (.slice none 0 0)) _ _ rfl (hst.pm.rows r.kind) w3.heap.size r.cl 136 rfl hgb.out rfl r.one (by have:=List.length_filter_le (fun x:RowV=>decide (x.kind=r.kind)) (l.take k);unfold ofKind;simp at this ⊢;omega) (by have:=List.length_filter_le (fun x:RowV=>decide (x.kind=r.kind)) (l.take k);unfold ofKind;simp at this ⊢;omega) (Nat.le_of_lt hst.base) fun v' w5 r5 g5 n5=>?_;have hg5:=hid g5;have him5:=hid (hst.pm.map.grown g5 (map_not_row hst.pm.map (hst.pm.rows r.kind)));have hbb5:=hid (Blk.keep hst.blk (g5.block _ hst.blk.lt (fun he=>by have:=hst.ap r.kind _ he.symm;omega)));refine hK _ _ ⟨⟨fun _=>hbb5.out,fun _=>him5.out,trivial⟩,?_⟩;clear hK K;try simp only[PT]
    refine sQ 12 fun K hK=>?_;simp only[GO];refine wp_update_im _ _ _ 264 rfl 133 122 underlying264 underlying133 him5.out rfl r.kind v' rfl rfl fun w6 him6 hg6=>?_;have hpm6:=hid (hst.pm.put (r:=r) r5 hg5.out n5 hst.base him6 hg6);have hbr5:=hid (hst.below.grown hg5.out (Nat.le_of_lt hst.base) (fun x hx=>((hst.pm.rows r.kind).lt x hx).1));have hbr6:=hid (hbr5.grown hg6 (Nat.le_trans (Nat.le_of_lt hst.base) hg5.size) (fun x hx=>by cases hx;exact Nat.le_refl _));have hbb6:=hid (Blk.keep hbb5.out (hg6.block _ hbb5.lt (fun he=>by have:=hst.nb;simp only[Option.some.injEq]at he;omega)));refine hK _ _ ⟨⟨fun _=>hbb6.out,fun h=>absurd (show true=false from h) (by decide),trivial⟩,?_⟩;clear hK K;try simp only[PT]
    refine dQ (hKQ.out _ _ ?_);clear hKQ KQ;go_wp2;go_roundw
    case rel=>exact⟨k+1,_,by go_num,by omega,by rw[hts.out];exact hpm6,hbr6⟩
    case measure=>simp[intOf];omega
   skip;try simp only[GO]
   refine wp_slice_one _ rfl eRow (by decide) (by decide) (.agg r.cl.toArray) rfl rfl ?_;have hgb:=hid (Blk.new (w2.drew) r.cl.toArray 136);replace hst:=hid (hst.step ((Below.refl _ (w2.drew)).alloc nat_le_rfl (.cells r.cl.toArray 136)));refine hK _ _ ⟨⟨fun _=>hst.blk,fun _=>hst.pm.map,trivial⟩,?_⟩;clear hK K;try simp only[PT]
   refine sQ 3 fun K hK=>?_;simp only[GO];try simp only[GO]
   go_simp;refine(C1 r _).mono ?_;rintro e w3 ⟨rfl,hbc⟩;replace hst:=hid (hst.step hbc);replace hgb:=hid (hgb.below hbc);clear hbc;refine hK _ _ ⟨⟨fun _=>hst.blk,fun _=>hst.pm.map,trivial⟩,?_⟩;clear hK K;try simp only[PT]
   refine sQ 7 fun K hK=>?_;simp only[GO];try simp only[GO]
   go_simp;refine(C1 r _).mono ?_;rintro e w4 ⟨rfl,hbc⟩;replace hst:=hid (hst.step hbc);replace hgb:=hid (hgb.below hbc);clear hbc;refine hK _ _ ⟨⟨fun _=>hst.blk,fun _=>hst.pm.map,trivial⟩,?_⟩;clear hK K;try simp only[PT]
   refine lookQ 8 rfl (by kernel_rfl) (by kernel_rfl) rfl rfl rfl 1 rfl (by kernel_rfl) ((G r.kind).getD (.slice none 0 0)) (fun w' hf=>run_lookup_im 264 133 122 underlying264 underlying133 hf (.slice none 0 0) (by kernel_rfl) r.kind false) ?_;try simp only[PT]
   refine sQ 11 fun K hK=>?_;simp only[GO];refine wp_append_grp _ _ rfl eRow (by decide) w.heap.size ((G r.kind).getD (.slice none 0 0)) _ _ rfl (hst.pm.rows r.kind) w2.heap.size r.cl 136 rfl hgb.out rfl r.one (by have:=List.length_filter_le (fun x:RowV=>decide (x.kind=r.kind)) (l.take k);unfold ofKind;simp at this ⊢;omega) (by have:=List.length_filter_le (fun x:RowV=>decide (x.kind=r.kind)) (l.take k);unfold ofKind;simp at this ⊢;omega) (Nat.le_of_lt hst.base) fun v' w5 r5 g5 n5=>?_;have hg5:=hid g5;have him5:=hid (hst.pm.map.grown g5 (map_not_row hst.pm.map (hst.pm.rows r.kind)));have hbb5:=hid (Blk.keep hst.blk (g5.block _ hst.blk.lt (fun he=>by have:=hst.ap r.kind _ he.symm;omega)));refine hK _ _ ⟨⟨fun _=>hbb5.out,fun _=>him5.out,trivial⟩,?_⟩;clear hK K;try simp only[PT]
   refine sQ 12 fun K hK=>?_;simp only[GO];refine wp_update_im _ _ _ 264 rfl 133 122 underlying264 underlying133 him5.out rfl r.kind v' rfl rfl fun w6 him6 hg6=>?_;have hpm6:=hid (hst.pm.put (r:=r) r5 hg5.out n5 hst.base him6 hg6);have hbr5:=hid (hst.below.grown hg5.out (Nat.le_of_lt hst.base) (fun x hx=>((hst.pm.rows r.kind).lt x hx).1));have hbr6:=hid (hbr5.grown hg6 (Nat.le_trans (Nat.le_of_lt hst.base) hg5.size) (fun x hx=>by cases hx;exact Nat.le_refl _));have hbb6:=hid (Blk.keep hbb5.out (hg6.block _ hbb5.lt (fun he=>by have:=hst.nb;simp only[Option.some.injEq]at he;omega)));refine hK _ _ ⟨⟨fun _=>hbb6.out,fun h=>absurd (show true=false from h) (by decide),trivial⟩,?_⟩;clear hK K;try simp only[PT]
   refine dQ (hKQ.out _ _ ?_);clear hKQ KQ;go_wp2;go_roundw
   case rel=>exact⟨k+1,_,by go_num,by omega,by rw[hts.out];exact hpm6,hbr6⟩
   case measure=>simp[intOf];omega
  obtain rfl:k=l.length:=by omega
  have dk:decide ((l.length:Int)<(l.length:Int))=false:=by simp
  rw[List.take_length]at hpm;go_wp2;go_ret;exact⟨_,_,rfl,hpm.out,Nat.le_refl _,hbr.out⟩
def XS.sub(x:XS)(filter:List UInt8)(qos:Int):RowV:=⟨2,x.o.client,0,0,filter,[],qos,false,0⟩
def XS.inr(x:XS)(id:Int):RowV:=⟨4,x.o.client,0,id,[],[],0,false,0⟩
theorem appR_nil(W:World):(Builtin.append_ #[122,122] 122 #[.slice none 0 0,.slice none 0 0]).run prog W=.ok (.slice none 0 0) W:=by kernel_rfl
theorem grow_nil(w:World):Calls prog 268 #[.slice none 0 0,.int .i64 0] w fun e w'=>e=.returned (.slice none 0 0)/\w=w':=by go_enter func268,ntmps268;go_wp2;go_ret;exact⟨rfl,rfl⟩
theorem concat_nil(g:Nat)(w:World)(h:Blk w g #[.slice none 0 0,.slice none 0 0] 122):
  Calls prog 228 #[.slice (some ⟨g,0,none⟩) 2 2] w fun e w'=>e=.returned (.slice none 0 0)/\w=w':=by
 have CG:=hid grow_nil;have ha:=appR_nil;have c0:w.cell? ⟨g,0,none⟩=some (.slice none 0 0):=h.cell 0;have c1:w.cell? ⟨g,1,none⟩=some (.slice none 0 0):=h.cell 1;have hc:∀k,k<2->w.cell? ⟨g,k,none⟩=some (.slice none 0 0):=fun k hk=>by
  rcases(by omega:k=0\/k=1)with rfl | rfl
  ·exact c0
  exact c1
 have hc:=hid hc;clear c0 c1;go_enter func228,ntmps228;go_wp2;go_loopw [3,5,11] (fun s _ i wr=>∃(k:Nat),s=.int .i64 0/\i=.int .i64 k/\k<=2/\w=wr) (fun _ _ i _=>2-(intOf i).toNat)
 case atStart=>exact⟨0,rfl,rfl,by omega,rfl⟩
 case round=>
  obtain⟨k,rfl,rfl,hk,rfl⟩:=hrel;rcases Nat.lt_or_ge k 2 with hlt | hge
  ·have dk:decide ((k:Int)<2)=true:=decide_eq_true (by omega);have hck:=hc k hlt;go_wp2;go_roundw
   case rel=>exact⟨k+1,rfl,by go_num,by omega,trivial⟩
   case measure=>simp[intOf];omega
  obtain rfl:k=2:=by omega
  go_wp2_with (go_at_call 268;refine(CG _).mono ?_;rintro e w1 ⟨rfl,rfl⟩)
  go_loopw [6,8,27] (fun s _ i wr=>∃(k:Nat),s=.slice none 0 0/\i=.int .i64 k/\k<=2/\w=wr) (fun _ _ i _=>2-(intOf i).toNat)
  case atStart=>exact⟨0,rfl,rfl,by omega,rfl⟩
  case round=>
   obtain⟨k,rfl,rfl,hk,rfl⟩:=hrel;rcases Nat.lt_or_ge k 2 with hlt | hge
   ·have dk:decide ((k:Int)<2)=true:=decide_eq_true (by omega);have hck:=hc k hlt;go_wp2;go_roundw
    case rel=>exact⟨k+1,rfl,by go_num,by omega,trivial⟩
    case measure=>simp[intOf];omega
   obtain rfl:k=2:=by omega
   go_wp2;go_ret;exact⟨rfl,rfl⟩
theorem range_below2{w w':World}{g o:Nat}{cs:List Value}(h:w.rangeAt g o cs)(hg:g<w.heap.size)(hb:Below w.drew.heap.size w.drew w'):w'.rangeAt g o cs:=fun j v hj=>by have h1:=h j v hj;exact(hb.cell (p:=⟨g,o+j,none⟩) hg).trans h1
theorem look_pm{w:World}{m:Nat}{G:Int->Option Value}(h:IM .i64 w m G)(k:Int){v:Value}(hv:(G k).getD (.slice none 0 0)=v):
  (Instr.lookup 264 (.map (some m)) (.int .i64 k) false).run prog w=.ok v w:=by
 rw[run_lookup_im 264 133 122 underlying264 underlying133 h (.slice none 0 0) (by kernel_rfl) k false,<-hv];rfl
def XS.new(win room most subs:Int)(client:List UInt8):XS:=⟨most,subs,⟨client,win,room,0,1,[]⟩,[],[],false,false,0,0,none⟩
theorem ses_Of_new(win room most subs:Int)(client:List UInt8)(base:Nat)(g:Nat)(w:World)(hT:TzAt w)(hv:RowsAt w base (.slice (some ⟨g,0,none⟩) 1 1) [sessV client 0 1])
  (hw:1<=win/\win<=100) (hr:1<=room/\room<=1000) (hm:1<=most/\most<=1000) (hs:1<=subs/\subs<=100) (hc:client.length<=23) (hmay:sessMay (sessV client 0 1)=true):
  Calls prog 170 #[.agg #[.int .i64 win,.int .i64 room,.int .i64 most,.int .i64 subs],.slice (some ⟨g,0,none⟩) 1 1] w fun e w'=>∃S,e=.returned (.tuple #[.pointer (some ⟨S.p,0,none⟩),.int .i64 0])/\
   XB w' w'.heap.size S (XS.new win room most subs client)/\Stp [] S.foot w w':=by
 have hbx:∀(o:Obj),Below w.heap.size w (w.alloc o):=fun o=>(Below.refl _ w).alloc nat_le_rfl o;have CP:=hid (fun o=>ses_parted base (.slice (some ⟨g,0,none⟩) 1 1) [sessV client 0 1] (w.alloc o) (ownsRow_below hv (hbx o)) (by simp));have d1:decide (subs<1)=false:=decide_eq_false (by omega);have d2:decide (100<subs)=false:=decide_eq_false (by omega);have d3:decide (subs<0)=false:=decide_eq_false (by omega);go_enter func170,ntmps170;go_wp2_with fail
 refine(CP _).mono ?_;rintro e w1 ⟨m,G,rfl,hpm,hml,hb1⟩;have hpm:=hid hpm;have hb1:=hid hb1;have HB:=hid hbx;clear hbx CP;obtain⟨a1,c1,hG1⟩:=own_slice (hpm.rows 1);have hk1:ofKind [sessV client 0 1] 1=[sessV client 0 1]:=by simp[ofKind,sessV]
 have hk2:ofKind [sessV client 0 1] 2=[]:=by simp[ofKind,sessV]
 have hk3:ofKind [sessV client 0 1] 3=[]:=by simp[ofKind,sessV]
 have hk4:ofKind [sessV client 0 1] 4=[]:=by simp[ofKind,sessV]
 have hr1:=hpm.rows 1;rw[hG1,hk1]at hr1;rw[hk1]at hG1;replace hr1:w1.ownsRow w.heap.size 136 9 (.slice a1 1 c1) 1 ([sessV client 0 1].flatMap RowV.cl):=ownsRow_mono hr1 (by simp);replace hG1:(G 1).getD (.slice none 0 0)=.slice a1 1 c1:=hG1;obtain⟨g1,rfl,hcap1,hrow1⟩:=own_range RowV.cl RowV.cllen (l:=[sessV client 0 1]) (n:=1) rfl hr1 (k:=0) rfl;have hg1l:=hid (hr1.lt g1 rfl);have hG2:(G 2).getD (.slice none 0 0)=.slice none 0 0:=by rw[hpm.no 2 hk2];rfl
 have hG3:(G 3).getD (.slice none 0 0)=.slice none 0 0:=by rw[hpm.no 3 hk3];rfl
 have hG4:(G 4).getD (.slice none 0 0)=.slice none 0 0:=by rw[hpm.no 4 hk4];rfl
 have hrow1:=hid hrow1;have hr1:=hid hr1;clear hk1 hk2 hk3 hk4;replace hG1:=hid hG1;replace hG2:=hid hG2;replace hG3:=hid hG3;replace hG4:=hid hG4;have hbox:=hid ((Blk.new w #[.int .i64 win,.int .i64 room,.int .i64 most,.int .i64 subs] 25).below hb1.out);go_wp2_with fail
 refine regionQ [(1000,fun w'=>IM .i64 w' m G)] (by kernel_rfl) ⟨hpm.map.below (bel_refl.drew),trivial⟩ fun KQ hKQ=>?_;try simp only[PT]
 refine tQ [0] ?_;refine lookQ 1 rfl (by kernel_rfl) (by kernel_rfl) rfl rfl rfl 0 rfl (by kernel_rfl) _ (fun w' hf=>look_pm hf 1 hG1.out) ?_;try simp only[PT]
 refine tQ [2] ?_;refine lookQ 3 rfl (by kernel_rfl) (by kernel_rfl) rfl rfl rfl 0 rfl (by kernel_rfl) _ (fun w' hf=>look_pm hf 2 hG2.out) ?_;try simp only[PT]
 refine tQ [4] ?_;refine lookQ 5 rfl (by kernel_rfl) (by kernel_rfl) rfl rfl rfl 0 rfl (by kernel_rfl) _ (fun w' hf=>look_pm hf 4 hG4.out) ?_;try simp only[PT]
 refine tQ [6,7,8] ?_;refine dQ (hKQ.out _ _ ?_);clear hKQ KQ;have s0:w1.drew.cell? ⟨w.heap.size,0,none⟩=some (.int .i64 win):=hbox.cell 0;have s1:w1.drew.cell? ⟨w.heap.size,1,none⟩=some (.int .i64 room):=hbox.cell 1;have s2:w1.drew.cell? ⟨w.heap.size,2,none⟩=some (.int .i64 most):=hbox.cell 2;have s3:w1.drew.cell? ⟨w.heap.size,3,none⟩=some (.int .i64 subs):=hbox.cell 3;go_wp2_with fail
 refine(in_New most w1.drew hm.1 hm.2).mono ?_;rintro e w2 ⟨rfl,hin,hb2⟩;have hin:=hid hin;have hb2:=hid hb2;have hpm2:=hid (hpm.map.below (w':=w2) ⟨hb2.os,hb2.tape,hb2.output,hb2.size,hb2.block⟩);have HL3:=look_pm hpm2.out 3 hG3.out;have hbox2:=hid (hbox.drew.below hb2.out);clear s0 s1 s2 s3;have t0:w2.cell? ⟨w.heap.size,0,none⟩=some (.int .i64 win):=hbox2.cell 0;have t1:w2.cell? ⟨w.heap.size,1,none⟩=some (.int .i64 room):=hbox2.cell 1;have t3:w2.cell? ⟨w.heap.size,3,none⟩=some (.int .i64 subs):=hbox2.cell 3;go_wp2_with fail
 clear HL3 t0 t1 t3;have hrow2:Hid (w2.rangeAt g1 0 (sessV client 0 1).cl):=hid (range_below2 hrow1.out hg1l.2 hb2.out);have hB1:=hid ((HB (.cells #[.int .i64 win,.int .i64 room,.int .i64 most,.int .i64 subs] 25)).trans (hb1.mono (by simp)));have hB2:=hid (hB1.drew.trans (hb2.mono (by have:=hB1.size;exact this)));have hT2:=hid (hT.below hB2.drew);refine regionQ [(1000,fun w'=>w'.cell? ⟨w.heap.size,0,none⟩=some (.int .i64 win)),(1000,fun w'=>w'.cell? ⟨w.heap.size,1,none⟩=some (.int .i64 room)),(1000,fun w'=>w'.rangeAt g1 0 (sessV client 0 1).cl),(9,fun w'=>IM .i64 w' m G)] (by kernel_rfl) ⟨hbox2.cell 0,hbox2.cell 1,hrow2.out,hpm2.out,trivial⟩ fun KQ hKQ=>?_;try simp only[PT]
 refine tQ [0] ?_;refine lQ 1 0 ?_;refine tQ [2] ?_;refine lQ 3 1 ?_;refine tQ [4,5] ?_;refine lR 6 2 rfl rfl rfl rfl (v:=.agg ((sessV client 0 1).cl:List Value).toArray) (fun w' hf=>run_loadAt_mid w' _ _ 136 ((sessV client 0 1).cl:List Value) _ hf underlying136 rfl (by kernel_rfl)) ?_;simp only[PT];refine tQ [7] ?_;refine lookQ 8 rfl (by kernel_rfl) (by kernel_rfl) rfl rfl rfl 3 rfl (by kernel_rfl) _ (fun w' hf=>look_pm hf 3 hG3.out) ?_;try simp only[PT]
 refine sQ 9 fun K hK=>?_;simp only[GO];go_simp;refine(out_Of win room client 0 1 w2.drew hT2.out hw hr (by decide) (by decide) hc hmay).mono ?_;rintro e w3 ⟨L,rfl,hO,hN,hS3⟩;have hO:=hid hO;have hN:=hid hN;have hF3:=hid (fun x hx=>(hS3.sub x hx).resolve_left (by simp));have hB3:Hid (Below w2.drew.heap.size w2.drew w3):=hid (hS3.wrote.below nat_le_rfl (by simp));clear hS3;have hbox3:=hid (hbox2.drew.below hB3.out);refine hK _ _ ⟨⟨fun _=>hbox3.cell 0,fun _=>hbox3.cell 1,fun _=>range_below2 hrow2.out (by have:=hg1l.2;have:=hb2.size;simp at this;omega) hB3.out,fun h=>absurd (show true=false from h) (by decide),trivial⟩,?_⟩;clear hK K;try simp only[PT]
 refine tQ [10,11,12,13,14] ?_;refine dQ (hKQ.out _ _ ?_);clear hKQ KQ;have t0:w3.cell? ⟨w.heap.size,0,none⟩=some (.int .i64 win):=hbox3.cell 0;have t1:w3.cell? ⟨w.heap.size,1,none⟩=some (.int .i64 room):=hbox3.cell 1;have t2:w3.cell? ⟨w.heap.size,2,none⟩=some (.int .i64 most):=hbox3.cell 2;have t3:w3.cell? ⟨w.heap.size,3,none⟩=some (.int .i64 subs):=hbox3.cell 3;have hmm:= @run_makeMap prog;go_wp2_with fail
 obtain⟨w4,hw4⟩:∃W,W=((w3.alloc (.map #[] 0)).alloc (.cells #[.pointer (some ⟨L.p,0,none⟩),.int .i64 win,.int .i64 room,.int .i64 most,.int .i64 subs,.pointer (some ⟨w1.heap.size+1,0,none⟩),.map (some w3.heap.size),.bool false,.bool false,.int .i64 0,.int .i64 0,.pointer none] 276)).alloc (.cells #[.slice none 0 0,.slice none 0 0] 122):=⟨_,rfl⟩;have hsz4:w4.heap.size=w3.heap.size+3:=by rw[hw4];simp
 have hB4:Below w3.heap.size w3 w4:=by rw[hw4];exact belw
 have hmap4:WM w4 w3.heap.size []:=by rw[hw4];exact((WM.new w3).alloc _).alloc _
 have hses4:Blk w4 (w3.heap.size+1) #[.pointer (some ⟨L.p,0,none⟩),.int .i64 win,.int .i64 room,.int .i64 most,.int .i64 subs,.pointer (some ⟨w1.heap.size+1,0,none⟩),.map (some w3.heap.size),.bool false,.bool false,.int .i64 0,.int .i64 0,.pointer none] 276:=by rw[hw4];exact(Blk.new_at _ _ _ _ (by simp)).alloc _
 have hsl4:Blk w4 (w3.heap.size+2) #[.slice none 0 0,.slice none 0 0] 122:=by rw[hw4];exact Blk.new_at _ _ _ _ (by simp)
 rw[<-hw4];clear hw4 t0 t1 t2 t3;have q6:w4.cell? ⟨w3.heap.size+1,6,none⟩=some (.map (some w3.heap.size)):=hses4.cell 6;have HLen:=run_len_text (P:=prog) 273 9 3 underlying273 hmap4 3;have hmap4:=hid hmap4;have hses4:=hid hses4;have hB4:=hid hB4;refine(concat_nil _ _ hsl4).mono ?_;rintro e w5 ⟨rfl,rfl⟩;go_wp2_with fail
 go_loopw [101] (fun i wr=>i=.int .i64 0/\w4=wr) (fun _ _=>0)
 case atStart=>exact⟨rfl,rfl⟩
 case round=>
  obtain⟨rfl,rfl⟩:=hrel;go_wp2;go_loopw [120] (fun i wr=>i=.int .i64 0/\w4=wr) (fun _ _=>0)
  case atStart=>exact⟨rfl,rfl⟩
  case round=>
   obtain⟨rfl,rfl⟩:=hrel;go_wp2;go_loopw [135] (fun i wr=>i=.int .i64 0/\w4=wr) (fun _ _=>0)
   case atStart=>exact⟨rfl,rfl⟩
   case round=>
    obtain⟨rfl,rfl⟩:=hrel;go_wp2;try simp only[Exit.noGoto_ret]
    go_returns
    have hsz1:=hB1.size;have hl2:w1.heap.size+1<w2.heap.size:=hin.box.lt;have hsz3:w2.heap.size<=w3.heap.size:=hB3.size;have hg:=hT.lt;have hO4:=ob_rebase2 (hO.below hB4.out) hN.out;have hin4:=(hin.below (Below.refl _ w2).drew).below (hB3.trans (hB4.mono hsz3));refine⟨⟨w3.heap.size+1,L,w1.heap.size+1,w1.heap.size,w3.heap.size,none,fun _=>0⟩,rfl,⟨hses4.out,hO4,hN.out,hin4,SetIs.nil,hmap4.out,trivial,?_,?_,?_,?_⟩,⟨?_,?_⟩⟩
    ·intro b hb hf;have h1:=hF3 b hf;have h2:=hO.lt b hf;simp only[World.size_drew]at h1;simp only[XLay.own,Option.toList_none,List.mem_cons,List.not_mem_nil,or_false]at hb;omega
    ·simp only[XLay.own,Option.toList_none,List.nodup_cons,List.mem_cons,List.not_mem_nil,or_false,not_or,List.nodup_nil,and_true,not_false_eq_true];omega
    ·simp only[XLay.own,Option.toList_none,List.mem_cons,List.not_mem_nil,or_false,not_or];have hg:=hT.lt;have hsz2:=hB2.size;refine⟨?_,?_,?_,?_⟩<;>omega
    ·exact⟨hm,hs,by simp[XS.new],by simp[XS.new];omega,by simp[XS.new];omega,by simp[XS.new]⟩
    ·exact Wrote.of_below (hB2.trans (((Below.refl _ w2).drew.trans (hB3.trans (hB4.mono hsz3))).mono hB2.size))
    intro b hb;right;simp only[XLay.foot,XLay.own,Option.toList_none,List.cons_append,List.nil_append,List.mem_cons]at hb;have hsz2:=hB2.size;rcases hb with hb | hb | hb | hb | hb
    ·omega
    ·omega
    ·omega
    ·omega
    have h1:=hF3 b hb;simp only[World.size_drew]at h1;omega
theorem ses_New(win room most subs:Int)(client:List UInt8)(w:World)(hT:TzAt w)
  (hw:1<=win/\win<=100) (hr:1<=room/\room<=1000) (hm:1<=most/\most<=1000) (hs:1<=subs/\subs<=100) (hc:client.length<=23) (hmay:sessMay (sessV client 0 1)=true):
  Calls prog 167 #[.agg #[.int .i64 win,.int .i64 room,.int .i64 most,.int .i64 subs],.string ⟨client.toArray⟩] w fun e w'=>∃S,e=.returned (.tuple #[.pointer (some ⟨S.p,0,none⟩),.int .i64 0])/\
   XB w' w'.heap.size S (XS.new win room most subs client)/\Stp [] S.foot w w':=by
 have hB:Below w.heap.size w ((w.alloc (.cells #[.int .i64 win,.int .i64 room,.int .i64 most,.int .i64 subs] 25)).alloc (.cells (sessV client 0 1).vals 136)):=by exact belw
 have hRow:RowsAt ((w.alloc (.cells #[.int .i64 win,.int .i64 room,.int .i64 most,.int .i64 subs] 25)).alloc (.cells (sessV client 0 1).vals 136)) w.heap.size (.slice (some ⟨w.heap.size+1,0,none⟩) 1 1) [sessV client 0 1]:=
  ⟨by simp[RowV.cllen],.inr ⟨w.heap.size+1,1,(sessV client 0 1).vals,rfl,by omega,Blk.new_at _ _ _ _ (by simp),by simp,by decide,by simp[RowV.vals],by simp[RowV.cl,RowV.vals]⟩⟩
 have CO:=hid (ses_Of_new win room most subs client w.heap.size (w.heap.size+1) _ (hT.below hB) hRow hw hr hm hs hc hmay);replace hB:=hid hB;clear hRow hmay;unfold sessV RowV.vals at*
 go_enter func167,ntmps167;go_wp2_with (go_at_call 170;refine CO.mono ?_;rintro e w1 ⟨S,rfl,hX,hS⟩)
 go_returns
 exact⟨S,rfl,hX,(Stp.below hB.out).trans hS⟩
end Go.Proofs.YtkghejaimhoboaaGreatDoor
