/- Sl21, WordNum, WordSpec, WordPut, Ins in one text. -/
import Derived.Test.YtjjdjpdmgaipeaaGreatCwPag
import Derived.Lib.SliceRun
import Derived.Shelf.RegionOpenPlain
import Derived.Deep.RegionLaw
import Derived.Laws.IdiomCopy
import Derived.Lib.AppendZeros
import Derived.Lib.Overlaps
import Derived.Test.YtjjdjpdmgaipeaaGreatCwBase
import Derived.Test.YtjjdjpdmgaipeaaGreatProg
import Derived.Lib.Hide
import Derived.Laws.BytesArg
import Derived.WalkSpells
import Derived.WalkLawsBesides
import Derived.Test.YtjjdjpdmgaipeaaGreatCwZa
set_option linter.unusedVariables false
set_option linter.unusedSimpArgs false
set_option maxRecDepth 100000
set_option maxHeartbeats 16000000
open Go.Proofs.Tryz
namespace Go.Proofs.YtjjdjpdmgaipeaaGreat.Sl
open Go.RowKit Pag
def Lst(w:World)(v:Value)(xs:List Int):Prop:=SlV w 22 1 v xs.length (xs.map encU)
theorem Lst.nil(w:World):Lst w (.slice none 0 0) []:=SlV.nil _ _ _
theorem Lst.words{w:World}{v:Value}{xs:List Int}(h:Lst w v xs)(hs:xs.length≤2000000):∃a cap,v=.slice a xs.length cap∧Rs.Words w a xs:=by
 rcases h.2 with⟨h0,a,rfl⟩|⟨g,off,cap,cur,rfl,hg,_,_,_,hc⟩
 ·exact⟨a,0,by rw[h0],fun i hi=>absurd hi (by omega),by omega⟩
 ·refine⟨_,cap,rfl,fun i hi=>⟨g,off,rfl, ?_⟩,by omega⟩;unfold World.cell?;rw[hg];have:=hc i (by omega);rw[List.getElem?_map,Zg hi] at this;exact this
theorem Lst.frame{w w':World}{v:Value}{xs:List Int}(h:Lst w v xs)(hb:∀g,v.ownBlock=some g→w'.heap[g]? =w.heap[g]?):Lst w' v xs:=SlV.keep h hb
theorem Lst.keep{F:Nat→Prop}{w w':World}{v:Value}{xs:List Int}(h:Lst w v xs)(hm:Mod F w w')(hl:∀g,v.ownBlock=some g→g<w.heap.size)(hF:∀g,v.ownBlock=some g→¬F g):Lst w' v xs:=h.frame fun g hg=>hm.block _ (hl g hg) (hF g hg)
structure Place(xs:List Int)(x:Int)(k:Nat):Prop where
 le:k≤xs.length
 lo:∀(j:Nat) (y:Int),j<k→xs[j]? =some y→y<x
 hi:∀(j:Nat) (y:Int),k≤j→xs[j]? =some y→x≤y
def bsRel(w:World)(xs:List Int)(x:Int)(n:Nat)(vi vj:Value)(wr:World):Prop:=
 ∃i j:Nat,i≤j∧j≤n∧vi=.int .i64 i∧vj=.int .i64 j∧(∀(m:Nat) (y:Int),m<i→xs[m]? =some y→y<x)∧(∀(m:Nat) (y:Int),j≤m→xs[m]? =some y→x≤y)∧wr=w
theorem up_at{xs:List Int}(h:xs.Pairwise (·<·)){i j:Nat}(hij:i≤j){x y:Int}(hx:xs[i]? =some x)(hy:xs[j]? =some y):x≤y:=by
 obtain⟨hi,rfl⟩:=List.getElem?_eq_some_iff.1 hx;obtain⟨hj,rfl⟩:=List.getElem?_eq_some_iff.1 hy;rcases Nat.lt_or_ge i j with g|g
 ·exact Int.le_of_lt ((List.pairwise_iff_getElem.1 h) i j hi hj g)
 ·obtain rfl:i=j:=Nat.le_antisymm hij g;exact Int.le_refl _
theorem isNaN(x:Int)(w:World):Calls Tryz.prog 296 #[.int .u32 x] w fun e w'=>e=.returned (.bool false)∧w'=w:=by
 go_enter func296,ntmps296;go_wp2;go_ret;exact⟨rfl,rfl⟩
theorem bsearch{w:World}{a:Option Addr}{cap:Nat}{xs:List Int}(h:Rs.Words w a xs)(x:Int)(hup:xs.Pairwise (·<·))(hs:xs.length≤2000000):
  Calls Tryz.prog 242 #[.slice a xs.length cap,.int .u32 x] w fun e w'=>∃k,Place xs x k∧e=.returned (.tuple #[.int .i64 k,.bool (decide (xs[k]? =some x))])∧w'=w:=by
 have H:=Lh h;have hl:=hs;have Hup:=Lh hup;obtain⟨n,hn⟩:∃n,xs.length=n:=⟨_,rfl⟩;have Hn:=Lh hn;rw[hn] at hl⊢;clear h hn hup hs;go_enter func242,ntmps242;go_wp2;go_loopw [7,8,9] (fun vi vj _ wr=>bsRel w xs x n vi vj wr) (fun vi vj _ _=>(intOf vj).toNat - (intOf vi).toNat)
 case atStart=>exact⟨0,n,Nat.zero_le _,Nat.le_refl _,by go_num,by go_num,fun m y hm _=>absurd hm (Nat.not_lt_zero _),fun m y hm g=>absurd g (by rw[List.getElem?_eq_none (by rw[Hn.out];exact hm)];exact fun e=>(nomatch e)),rfl⟩
 case round=>
  obtain⟨i,j,hij,hjn,rfl,rfl,hlo,hhi,rfl⟩:=hrel;have HLo:=Lh hlo;have HHi:=Lh hhi;clear hlo hhi
  by_cases hlt:i<j
  ·obtain⟨h,hh⟩:∃h,(i+j) / 2=h:=⟨_,rfl⟩;have h1:i≤h:=by omega
   have h2:h<j:=by omega
   have hx:h<xs.length:=by rw[Hn.out];omega
   obtain⟨g,o,rfl,hc⟩:=H.out.cell h hx;have Hx:=Lh (show xs[h]? =some xs[h] from Zg hx);generalize xs[h]=y at*;have hw:((i:Int)+j) / 2=h:=by omega
   clear hx
   by_cases hy:y<x
   ·have hb:Sort.ltInt y x=true:=decide_eq_true hy;go_wp2_with (go_at_call 295;(with_reducible refine(Srt.less _ _ _).mono ?_);rintro e w2 ⟨rfl,rfl⟩);refine⟨⟨h+1,j,by omega,hjn,by go_num,rfl,fun m z hm hz=> ?_,HHi.out,rfl⟩,by simp[intOf];omega⟩;have:=up_at Hup.out (show m≤h by omega) hz Hx.out;omega
   ·have hb:Sort.ltInt y x=false:=decide_eq_false hy;go_wp2_with (go_at_call 295;(with_reducible refine(Srt.less _ _ _).mono ?_);rintro e w2 ⟨rfl,rfl⟩);refine⟨⟨i,h,by omega,by omega,rfl,by go_num,HLo.out,fun m z hm hz=> ?_,rfl⟩,by simp[intOf];omega⟩;have:=up_at Hup.out hm Hx.out hz;omega
  ·obtain rfl:i=j:=by omega
   by_cases hin:i<n
   ·have hx:i<xs.length:=by rw[Hn.out];exact hin
    obtain⟨g,o,rfl,hc⟩:=H.out.cell i hx;have Hx:=Lh (show xs[i]? =some xs[i] from Zg hx);have HP:Hid (Place xs x i):=Lh ⟨Nat.le_of_lt hx,HLo.out,HHi.out⟩;generalize xs[i]=y at*;clear hx
    by_cases hy:y=x
    ·subst hy;have HD:=Lh (decide_eq_true Hx.out);go_wp2;refine bodyPost_ret (v:=.tuple #[.int .i64 i,.bool true]) (by simp[results,Tryz.results242,go_sem, *]) rfl ?_;exact⟨i,HP.out,by rw[HD.out],rfl⟩
    ·have hyb:(y == x)=false:=beq_eq_false_iff_ne.2 hy;have HD:Hid (decide (xs[i]? =some x)=false):=Lh (decide_eq_false (by rw[Hx.out];exact fun e=>hy (Option.some.inj e)));go_wp2_with (go_at_call 296;(with_reducible refine(isNaN _ _).mono ?_);rintro e w2 ⟨rfl,rfl⟩);refine bodyPost_ret (v:=.tuple #[.int .i64 i,.bool false]) (by simp[results,Tryz.results242,go_sem, *]) rfl ?_;exact⟨i,HP.out,by rw[HD.out],rfl⟩
   ·obtain rfl:i=n:=by omega
    have HP:Hid (Place xs x i):=Lh ⟨Nat.le_of_eq Hn.out.symm,HLo.out,HHi.out⟩;have HD:Hid (decide (xs[i]? =some x)=false):=Lh (decide_eq_false (by rw[List.getElem?_eq_none (Nat.le_of_eq Hn.out)];exact fun e=>(nomatch e)));go_wp2;refine bodyPost_ret (v:=.tuple #[.int .i64 i,.bool false]) (by simp[results,Tryz.results242,go_sem, *]) rfl ?_;exact⟨i,HP.out,by rw[HD.out],rfl⟩
theorem delete{w:World}{v:Value}{xs:List Int}(h:Lst w v xs)(k j:Nat)(hj:j=k+1)(hk:k<xs.length)(hs:xs.length≤2000000):
  Calls Tryz.prog 320 #[v,.int .i64 k,.int .i64 j] w fun e w'=>∃v',e=.returned v'∧Lst w' v' (xs.eraseIdx k)∧v'.ownBlock=v.ownBlock∧Mod (fun b=>v.ownBlock=some b) w w':=by
 obtain⟨i0,hi0,hz0,hz1,hz2⟩:=info_parts infoU32;rcases h.2 with⟨h0,_⟩|⟨g,off,cap,cur,rfl,hg,hnc,hcm,hcs,hc⟩
 ·omega
 obtain⟨n,hn⟩:∃n,xs.length=n:=⟨_,rfl⟩;rw[hn] at hk hs hnc hc⊢;obtain⟨news,hnews⟩:∃news,news=(xs.drop j).map encU:=⟨_,rfl⟩;have hlen:news.length=n - j:=by rw[hnews];simp[hn]
 have hcell:∀j,j<n→w.cell? ⟨g,off+j,none⟩=(xs.map encU)[j]? :=fun j hj=>by
  unfold World.cell?;rw[hg];exact hc j (by omega)
 have hsome:∀j,j<n→(w.cell? ⟨g,off+j,none⟩).isSome=true:=fun j hj=>by
  rw[hcell j hj,Zg (by simp[hn];exact hj)];rfl
 have hfree:∀(j:Nat),w.frozen? ⟨g,j,none⟩=false:=fun j=>by
  unfold World.frozen?;rw[hg]
  simp
 obtain⟨A,hA,hsrc⟩:∃A:Addr,(if cap=j then some (⟨g,off,none⟩:Addr) else some ⟨g,off+j,none⟩)=some A∧Hid (∀t u,news[t]? =some u→w.drew.cell? (A.add t)=some u):=by
  by_cases e:cap=j
  ·refine⟨⟨g,off,none⟩,by simp[e],Lh fun t u hu=> ?_⟩;have h0:news.length=0:=by rw[hlen];omega
   rw[List.length_eq_zero_iff.1 h0] at hu;simp at hu
  ·refine⟨⟨g,off+j,none⟩,by simp[e],Lh fun t u hu=> ?_⟩;have ht:t<n - j:=by
    have:=(List.getElem?_eq_some_iff.1 hu).1
    rwa [hlen] at this
   rw[hnews,List.getElem?_map,List.getElem?_drop,←List.getElem?_map,←hcell _ (by omega)] at hu;rw[Addr.add_lit,show off+j+t=off+(j+t) by omega];exact hu
 have s1:Hid (news.length=(n - j)*1):=Lh (by rw[Nat.mul_one];exact hlen);have s2:Hid (∀u∈news,u.oneCell'=true):=Lh fun u hu=>by
  rw[hnews] at hu;obtain⟨x,_,rfl⟩:=List.mem_map.1 hu;rfl
 have s3:Hid (∀t,t<news.length→(w.drew.cell? ⟨g,off+k*1+t,none⟩).isSome=true∧w.drew.frozen? ⟨g,off+k*1+t,none⟩=false):=Lh fun t ht=>by
  rw[hlen] at ht;rw[Nat.mul_one,Nat.add_assoc];exact⟨hsome _ (by omega),hfree _⟩
 obtain⟨W1,hW1⟩:∃W1,W1=w.drew.setCells g (off+k*1) news:=⟨_,rfl⟩;obtain⟨cur1,c1,c2,c3,c4⟩:=heap_setCells_same g 22 news w.drew (off+k*1) cur hg (by rw[hlen];omega);rw[←hW1] at c1;have hcl:∀ty c',(Builtin.clear_ #[23] ty #[.slice (some ⟨g,off+(n - 1),none⟩) 1 c']).run Tryz.prog W1=.ok (.tuple #[]) (W1.setCells g (off+(n - 1)) [.int .u32 0]):=
  fun ty c'=>Lib.run_clear_slice W1 _ _ ty _ Tryz.underlying23 Tryz.zeroValue22 rfl rfl g (off+(n - 1)) 1 _ (by omega) (fun t ht=>by unfold World.cell?;rw[c1];simp[Array.getElem?_eq_getElem (show off+(n - 1)+t<cur1.size by omega)]) (fun t ht=>by unfold World.frozen?;rw[c1];simp)
 obtain⟨cur2,d1,d2,d3,d4⟩:=heap_setCells_same g 22 [.int .u32 0] W1 (off+(n - 1)) cur1 c1 (by simp;omega);have HFin:Hid (Lst (W1.setCells g (off+(n - 1)) [.int .u32 0]) (.slice (some ⟨g,off,none⟩) (n - 1) cap) (xs.eraseIdx k)∧Mod (fun b=>some g=some b) w (W1.setCells g (off+(n - 1)) [.int .u32 0])):=by
  refine Lh ⟨⟨by simp[List.length_eraseIdx,hn,hk],.inr ⟨g,off,cap,cur2, ?_,d1, ?_,hcm,by rw[d2,c2];exact hcs,fun t ht=> ?_⟩⟩, ?_⟩
  ·rw[List.length_eraseIdx,hn,if_pos hk]
  ·rw[List.length_eraseIdx,hn,if_pos hk];omega
  ·rw[List.length_eraseIdx,hn,if_pos hk] at ht;rw[d3 _ (by omega),List.getElem?_map,List.getElem?_eraseIdx]
   by_cases e:t<k
   ·rw[if_pos e,c3 _ (by omega),hc t (by omega),List.getElem?_map]
   ·rw[if_neg e];have:=c4 (t - k) (by rw[hlen];omega);rw[show off+k*1+(t - k)=off+t by omega] at this;rw[this,hnews,List.getElem?_map,List.getElem?_drop,show j+(t - k)=t+1 by omega]
  ·have m1:=mod_setCells g news w.drew (off+k*1);rw[←hW1] at m1;have m2:=mod_setCells g [.int .u32 0] W1 (off+(n - 1));have m0:Mod (fun i=>i=g) w w.drew:=(Mod.refl _ _).drew;exact((m0.same m1).same m2).mono fun i _ hi=>by rw[hi]
 have HW:Hid (W1=w.drew.setCells g (off+k*1) news):=Lh hW1;have hkc:k≤cap:=by omega
 have hkc2:j≤cap:=by omega
 have hjn:j≤n:=by omega
 have hkj:¬((k:Int)=j):=by omega
 have hnk:k+(n - j)=n - 1:=by omega
 have hij:(0:Int)≤j:=by omega
 have hkji:(k:Int)≤j:=by omega
 have hjni:(j:Int)≤n:=by omega
 have mixed:Tryz.prog.follows .mixedOrders=true:=by kernel_rfl
 have hn1:n - (n - 1)=1:=by omega
 have hcm2:cap≤9223372036854775807:=by unfold maxLen at hcm;omega
 clear hW1 c1 c2 c3 c4 d1 d2 d3 d4 hnews hlen hsome hfree hcell hc hg h hn hj;go_enter func320,ntmps320;go_wp2_with fail;go_region_law_o (refine step_append_room rfl (.tmp 22) (.tmp 25) 23 rfl 22 i0 1 Tryz.underlying23 hi0 hz1 g off k cap (by simp[Act.eval,Act.put]) A (n - j) (cap - j) news (by simp[Act.eval,Act.put, *]) s1.out hsrc.out s2.out (by omega) s3.out ?_;rw[←HW.out]);go_wp2;go_ret;exact⟨_,rfl,HFin.out.1,rfl,HFin.out.2⟩
theorem clone{w:World}{v:Value}{xs:List Int}(h:Lst w v xs)(hs:xs.length≤2000000):
  Calls Tryz.prog 85 #[v] w fun e w'=>∃v',e=.returned v'∧Lst w' v' xs∧(∀b,v'.ownBlock=some b→w.heap.size≤b)∧Below w.heap.size w w':=by
 obtain⟨i0,hi0,hz0,hz1,hz2⟩:=info_parts infoU32;have H:=Lh h;rcases h.2 with⟨h0,a,rfl⟩|⟨g,off,cap,cur,rfl,hg,hnc,hcm,hcs,hc⟩
 ·obtain rfl:xs=[]:=List.length_eq_zero_iff.1 h0;clear h h0;cases a with
  |none=>
   go_enter func85,ntmps85;have hq:=fun W=>Lib.run_eql_slice_nil (P:=Tryz.prog) W _ _ none 0 0 0 0 Tryz.underlying23
   go_wp2
   first
    |(go_ret;exact⟨_,rfl,H.out,fun b hb=>(nomatch hb),Below.refl _ _⟩)
    |(refine bodyPost_ret (v:=.slice none 0 0) (by simp[results,Tryz.results85,go_sem, *]) rfl ?_;exact⟨_,rfl,H.out,fun b hb=>(nomatch hb),Below.refl _ _⟩)
  |some a=>
   have hq:=fun W=>Lib.run_eql_slice_nil (P:=Tryz.prog) W _ _ (some a) 0 0 0 0 Tryz.underlying23
   go_enter func85,ntmps85;have HB:Hid (Below w.heap.size w (w.alloc (.cells #[] 22))):=Lh ((Below.refl _ _).alloc (Nat.le_refl _) _);have HL:Hid (Lst (w.alloc (.cells #[] 22)) (.slice (some ⟨w.heap.size,0,none⟩) 0 0) []):=Lh ⟨rfl,.inl ⟨rfl,_,rfl⟩⟩;go_wp2;go_ret;exact⟨_,rfl,HL.out,fun b hb=>by injection hb with hb;exact Nat.le_of_eq hb,HB.out⟩
 ·obtain⟨n,hn⟩:∃n,xs.length=n:=⟨_,rfl⟩;rw[hn] at h hs hnc hc⊢;have hq:=fun W=>Lib.run_eql_slice_nil (P:=Tryz.prog) W _ _ (some ⟨g,off,none⟩) n cap 0 0 Tryz.underlying23
  have hcl:∀j u,(xs.map encU)[j]? =some u→(w.alloc (.cells #[] 22)).cell? ((⟨g,off,none⟩:Addr).add j)=some u:=fun j u hu=>by
   have hj:j<n:=by have:=(List.getElem?_eq_some_iff.1 hu).1;simpa [hn] using this
   rw[Addr.add_lit];unfold World.cell?;rw[Below.heap_alloc _ _ _ (lt_of_block hg),hg];exact(hc j (by omega)).trans hu
  clear h hg hnc hcm hcs hc
  by_cases h0:n=0
  ·subst h0;obtain rfl:xs=[]:=List.length_eq_zero_iff.1 hn;have HB:Hid (Below w.heap.size w (w.alloc (.cells #[] 22))):=Lh ((Below.refl _ _).alloc (Nat.le_refl _) _);have HL:Hid (Lst (w.alloc (.cells #[] 22)) (.slice (some ⟨w.heap.size,0,none⟩) 0 0) []):=Lh ⟨rfl,.inl ⟨rfl,_,rfl⟩⟩;go_enter func85,ntmps85;go_wp2;go_ret;exact⟨_,rfl,HL.out,fun b hb=>by injection hb with hb;exact Nat.le_of_eq hb,HB.out⟩
  ·have HB:Hid (Below w.heap.size w (w.alloc (.cells #[] 22))):=Lh ((Below.refl _ _).alloc (Nat.le_refl _) _);have HN:Hid (SlV (w.alloc (.cells #[] 22)) 22 1 (.slice (some ⟨w.heap.size,0,none⟩) 0 0) 0 []):=Lh ⟨rfl,.inl ⟨rfl,_,rfl⟩⟩;have HC:Hid (∀j u,(xs.map encU)[j]? =some u→(w.alloc (.cells #[] 22)).cell? ((⟨g,off,none⟩:Addr).add j)=some u):=Lh hcl;have HLn:=Lh hn;have hml:n≤maxLen:=by unfold maxLen;omega
   clear hn hcl;go_enter func85,ntmps85;go_wp2_with (at_builtin;refine wpList_append_slv _ rfl _ _ 23 rfl 22 i0 (.int .u32 0) 1 4 Tryz.underlying23 hi0 hz0 hz1 hz2 rfl (by decide) _ 0 [] rfl HN.out ⟨g,off,none⟩ n cap (xs.map encU) rfl (by omega) (by rw[List.length_map,HLn.out,Nat.mul_one]) HC.out (by simp[Value.oneCell']) (by omega) (by omega) ?_;intro v2 w2 hl2 hm2 hb2);go_ret;refine⟨v2,rfl, ?_, ?_, ?_⟩
   ·have:=hl2;rw[Nat.zero_add,List.nil_append,←HLn.out] at this;exact this
   ·intro b hb;have hb3:v2.ownBlock=some w.heap.size∨∃k,v2.ownBlock=some k∧(w.alloc (.cells #[] 22)).heap.size≤k:=hb2;rcases hb3 with g2|⟨k,g2,g3⟩
    ·rw[g2] at hb
     injection hb with hb
     exact Nat.le_of_eq hb
    ·rw[g2] at hb
     injection hb with hb
     simp at g3;omega
   ·refine Mod.below HB.out hm2 (by simp) fun i _ hi=> ?_
    injection hi with hi
    exact Nat.le_of_eq hi
end Go.Proofs.YtjjdjpdmgaipeaaGreat.Sl
namespace Go.Proofs.YtjjdjpdmgaipeaaGreat.Sl
open Go.RowKit Pag
theorem wp_copy_at{P:Program}(w:World){o:Oper}{a:Act}{K:Act→World→Prop}{Q:Exit→Act→World→Prop}(d s:Operand)(t t':TypeId)
  (ho:o.op=.call { callee:=.builtin .copy,args:= #[d,s],argTypes:= #[t,t'] }) (v u:Value) (hd:a.eval d=v) (hs:a.eval s=u) {v':Value} {w':World}
  (hr:(Builtin.copy_ #[t,t'] o.type #[v,u]).run P w=.ok v' w') (h:K (a.put o.dst v') w'):o.wp P a w K Q:=by
 unfold Oper.wp execOp;simp only[ho,resolve,invoke,builtin,Sem.run_bind,Sem.run_pure,Result.andThen_ok,List.map_toArray,List.map_cons,List.map_nil,hd,hs,hr];exact h
theorem wpList_copy_at{P:Program}(w:World){ops:Array Oper}{rest:List Oper}{o:Oper}{a:Act}{Q:Exit→Act→World→Prop}(hgd:o.guard=none)(d s:Operand)(t t':TypeId)
  (ho:o.op=.call { callee:=.builtin .copy,args:= #[d,s],argTypes:= #[t,t'] }) (v u:Value) (hd:a.eval d=v) (hs:a.eval s=u) {v':Value} {w':World}
  (hr:(Builtin.copy_ #[t,t'] o.type #[v,u]).run P w=.ok v' w') (h:wpList P ops Q rest (a.put o.dst v') w'):wpList P ops Q (o::rest) a w:=
 wpList_plain hgd fun _ hK=>wp_copy_at w d s t t' ho v u hd hs hr (hK _ _ h)
theorem step_copy_at{P:Program}{ops:Array Oper}{o:Oper}{a:Act}{w:World}{K:Act→World→Prop}{Q:Exit→Act→World→Prop}{E:Prop}
  (hg:o.guard=none) (d x:Operand) (dT sT:TypeId) (hop:o.op=Op.call { callee:=Callee.builtin Builtin.copy,args:= #[d,x],argTypes:= #[dT,sT] })
  (v u:Value) (hd:a.eval d=v) (hx:a.eval x=u) {v':Value} {w':World} (hr:(Builtin.copy_ #[dT,sT] o.type #[v,u]).run P w=.ok v' w') (hK:K (a.put o.dst v') w'):
  if Region.wanted o (yielded ops a.tmps)=true then Oper.wp P o a w K Q else E:=by
 have hw:Region.wanted o (yielded ops a.tmps)=true:=by simp[Region.wanted,hg]
 rw[if_pos hw];exact wp_copy_at w d x dT sT hop v u hd hx hr hK
def InsPost(w:World)(v:Value)(xs:List Int)(k:Nat)(x:Int)(e:Ending)(w':World):Prop:=
 ∃v',e=.returned v'∧Lst w' v' (xs.take k++x::xs.drop k)∧Mod (fun b=>v.ownBlock=some b) w w'∧∀b,v'.ownBlock=some b→v.ownBlock=some b∨w.heap.size≤b
theorem one_cell{w:World}{vb:Nat}{x:Int}(hv:w.heap[vb]? =some (.cells #[.int .u32 x] 22 (0,0))):∀j u,[Value.int .u32 x][j]? =some u→w.cell? ((⟨vb,0,none⟩:Addr).add j)=some u:=fun j u hu=>by
 rw[Addr.add_lit,Nat.zero_add];unfold World.cell?;rw[hv]
 simpa using hu
theorem insert_end{w:World}{v:Value}{xs:List Int}(h:Lst w v xs)(x:Int)(hs:xs.length≤2000000)(vb:Nat)(hv:w.heap[vb]? =some (.cells #[.int .u32 x] 22 (0,0))):
  Calls Tryz.prog 243 #[v,.int .i64 xs.length,.slice (some ⟨vb,0,none⟩) 1 1] w (InsPost w v xs xs.length x):=by
 obtain⟨i0,hi0,hz0,hz1,hz2⟩:=info_parts infoU32;have H:=Lh h;have HC:=Lh (one_cell hv);obtain⟨n,hn⟩:∃n,xs.length=n:=⟨_,rfl⟩;have HF:Hid (∀v' w',SlV w' 22 1 v' (xs.length+1) (xs.map encU++[.int .u32 x])→Mod (fun k=>v.ownBlock=some k) w w'→(v'.ownBlock=v.ownBlock∨∃k,v'.ownBlock=some k∧w.heap.size≤k)→InsPost w v xs xs.length x (.returned v') w'):=Lh fun v' w' h1 h2 h3=>by
  refine⟨v',rfl, ?_,h2,fun b hb=> ?_⟩
  ·unfold Lst;rw[List.take_length,List.drop_length,List.length_append,List.map_append];exact h1
  ·rcases h3 with g|⟨k,g1,g2⟩
   ·exact .inl (g▸hb)
   ·rw[g1] at hb;injection hb with hb;exact .inr (hb▸g2)
 generalize InsPost w v xs xs.length x=PQ at*;unfold Lst at H;obtain⟨a,cap,rfl⟩:=h.form;have hnc:n≤cap:=by
  rcases h.2 with⟨h0,_,_⟩|⟨g,off,cap',cur,e,hg,hnc,_⟩
  ·omega
  ·simp only[Value.slice.injEq] at e;omega
 have hcap:cap≤9223372036854775807:=by
  rcases h.2 with⟨h0,_,e⟩|⟨g,off,cap',cur,e,hg,_,hcm,_⟩
  ·simp only[Value.slice.injEq] at e;omega
  ·simp only[Value.slice.injEq] at e;unfold maxLen at hcm;omega
 rw[hn] at H HF hs⊢;clear h hv;have hml:n+1≤maxLen:=by unfold maxLen;omega
 have hby:(n+1)*4≤140737488355328:=by omega
 have HLn:=Lh hn;have HX:Hid ((xs.map encU).length=n*1):=Lh (by rw[List.length_map,hn,Nat.mul_one]);clear hn;generalize xs.map encU=cs at*;cases a with
 |none=>
  go_enter func243,ntmps243;go_wp2_with (at_builtin;refine wpList_append_slv _ rfl _ _ 23 rfl 22 i0 (.int .u32 0) 1 4 Tryz.underlying23 hi0 hz0 hz1 hz2 rfl (by decide) _ n cs rfl H.out ⟨vb,0,none⟩ 1 1 [.int .u32 x] rfl (by omega) rfl HC.out (by simp[Value.oneCell']) hml hby ?_;intro v2 w2 hl2 hm2 hb2)
  all_goals exact HF.out v2 w2 hl2 hm2 hb2
 |some a=>
  obtain⟨g,off,sp⟩:=a;go_enter func243,ntmps243;go_wp2_with (at_builtin;refine wpList_append_slv _ rfl _ _ 23 rfl 22 i0 (.int .u32 0) 1 4 Tryz.underlying23 hi0 hz0 hz1 hz2 rfl (by decide) _ n cs rfl H.out ⟨vb,0,none⟩ 1 1 [.int .u32 x] rfl (by omega) rfl HC.out (by simp[Value.oneCell']) hml hby ?_;intro v2 w2 hl2 hm2 hb2)
  all_goals exact HF.out v2 w2 hl2 hm2 hb2
theorem insert_shift{w:World}{g off cap:Nat}{cur:Array Value}{xs:List Int}(hg:w.heap[g]? =some (.cells cur 22 (0,0)))(hcm:cap≤maxLen)(hcs:off+cap*1≤cur.size)(hc:∀j,j<xs.length*1→cur[off+j]? =(xs.map encU)[j]?)
  (x:Int) (k:Nat) (hk:k<xs.length) (hroom:xs.length+1≤cap) (hs:xs.length≤2000000) (vb:Nat) (hv:w.heap[vb]? =some (.cells #[.int .u32 x] 22 (0,0))) (hvg:vb≠g):
  Calls Tryz.prog 243 #[.slice (some ⟨g,off,none⟩) xs.length cap,.int .i64 k,.slice (some ⟨vb,0,none⟩) 1 1] w (InsPost w (.slice (some ⟨g,off,none⟩) xs.length cap) xs k x):=by
 obtain⟨i0,hi0,hz0,hz1,hz2⟩:=info_parts infoU32;have hsz:(Tryz.prog.info? 22).map (·.size)=some 1:=by rw[hi0];simp[hz1]
 obtain⟨n,hn⟩:∃n,xs.length=n:=⟨_,rfl⟩;rw[hn] at hk hroom hs hc⊢;obtain⟨news,hnews⟩:∃news,news=(xs.drop k).map encU:=⟨_,rfl⟩;have hlen:news.length=n - k:=by rw[hnews];simp[hn]
 have hcell:∀j,j<n→w.cell? ⟨g,off+j,none⟩=(xs.map encU)[j]? :=fun j hj=>by
  unfold World.cell?;rw[hg];exact hc j (by omega)
 have hsome:∀j,j<n+1→(w.cell? ⟨g,off+j,none⟩).isSome=true:=fun j hj=>by
  unfold World.cell?;rw[hg];simp[Array.getElem?_eq_getElem (show off+j<cur.size by omega)]
 have hfree:∀(j:Nat),w.frozen? ⟨g,j,none⟩=false:=fun j=>by
  unfold World.frozen?;rw[hg]
  simp
 have hsa:w.shape? vb=some (22,1):=by unfold World.shape?;rw[hv];rfl
 have hsb:w.shape? g=some (22,cur.size):=by unfold World.shape?;rw[hg]
 have hfv:∀j,w.frozen? ⟨vb,j,none⟩=false:=fun j=>by unfold World.frozen?;rw[hv];simp
 have hov:∀lb cb,(callFunc 297 #[.slice (some ⟨vb,0,none⟩) 1 1,.slice (some ⟨g,off+(k+1),none⟩) lb cb]).run Tryz.prog w=.ok (.value (.bool false)) w:=fun lb cb=>by
  rw[run_callFunc_extern func297 (by kernel_rfl) (by kernel_rfl) (by kernel_rfl) (e:=Extern.SlicesOverlaps.overlaps #[23,23] #[4]) (by kernel_rfl),
   Lib.run_overlaps_apart w 23 4 22 Tryz.underlying23 1 Tryz.sizeOf22 ⟨vb,0,none⟩ ⟨g,off+(k+1),none⟩ 1 1 lb cb hvg _ _ _ _ hsa hsb (by omega) (hfv _) (hfv _)]
  rfl
 have hsrc:∀t u,news[t]? =some u→w.cell? ⟨g,off+k+t,none⟩=some u:=fun t u hu=>by
  have ht:t<n - k:=by rw[←hlen];exact(List.getElem?_eq_some_iff.1 hu).1
  rw[hnews,List.getElem?_map,List.getElem?_drop,←List.getElem?_map,←hcell _ (by omega)] at hu;rw[Nat.add_assoc];exact hu
 have h1c:∀u∈news,u.oneCell'=true:=fun u hu=>by
  rw[hnews] at hu;obtain⟨x,_,rfl⟩:=List.mem_map.1 hu;rfl
 have hcp1:∀ty dc sc,(Builtin.copy_ #[23,23] ty #[.slice (some ⟨g,off+(k+1),none⟩) (n - k) dc,.slice (some ⟨g,off+k,none⟩) (n+1 - k) sc]).run Tryz.prog w.drew=.ok (goInt news.length) (w.drew.setCells g (off+(k+1)) news):=fun ty dc sc=>
  run_copy_cells w.drew _ _ ty 22 g (off+(k+1)) (n - k) dc ⟨g,off+k,none⟩ (n+1 - k) sc news Tryz.underlying23 hsz (by rw[hlen];simp only[Nat.min_def];split<;>omega)
   (fun j v hj=>by rw[Addr.add_lit];exact hsrc j v hj)
   (fun j hj=>by rw[Nat.add_assoc];exact hsome _ (by omega)) (fun j hj=>hfree _) h1c
 obtain⟨W1,hW1⟩:∃W1,W1=w.drew.setCells g (off+(k+1)) news:=⟨_,rfl⟩;obtain⟨cur1,c1,c2,c3,c4⟩:=heap_setCells_same g 22 news w.drew (off+(k+1)) cur hg (by rw[hlen];omega);have m1:=mod_setCells g news w.drew (off+(k+1));rw[←hW1] at c1 m1 hcp1;have hv1:W1.heap[vb]? =some (.cells #[.int .u32 x] 22 (0,0)):=(m1.block _ (lt_of_block hv) hvg).trans hv;have hcp2:∀ty dc,(Builtin.copy_ #[23,23] ty #[.slice (some ⟨g,off+k,none⟩) (n+1 - k) dc,.slice (some ⟨vb,0,none⟩) 1 1]).run Tryz.prog W1=.ok (goInt 1) (W1.setCells g (off+k) [.int .u32 x]):=fun ty dc=>
  run_copy_cells W1 _ _ ty 22 g (off+k) (n+1 - k) dc ⟨vb,0,none⟩ 1 1 [.int .u32 x] Tryz.underlying23 hsz (by simp only[Nat.min_def,List.length_singleton];split<;>omega)
   (one_cell hv1) (fun j hj=>by unfold World.cell?;rw[c1];simp at hj;simp[hj,Array.getElem?_eq_getElem (show off+k<cur1.size by omega)]) (fun j hj=>by unfold World.frozen?;rw[c1];simp) (by simp[Value.oneCell'])
 have hset:W1.setCells g (off+k) [.int .u32 x]=W1.setCell ⟨g,off+k,none⟩ (.int .u32 x):=by simp[World.setCells]
 have d1:=heap_setCell_same W1 g (off+k) cur1 22 (.int .u32 x) c1;have HFin:Hid (InsPost w (.slice (some ⟨g,off,none⟩) n cap) xs k x (.returned (.slice (some ⟨g,off,none⟩) (n+1) cap)) (W1.setCells g (off+k) [.int .u32 x])):=by
  have hL:(xs.take k++x::xs.drop k).length=n+1:=by simp[hn];omega
  have hT:(xs.take k).length=k:=by rw[List.length_take];omega
  refine Lh ⟨_,rfl,⟨by simp,.inr ⟨g,off,cap,_,by rw[hL],by rw[hset];exact d1,by rw[hL];exact hroom,hcm,by rw[Array.size_setIfInBounds,c2];exact hcs,fun t ht=> ?_⟩⟩, ?_,fun b hb=>.inl hb⟩
  ·rw[hL] at ht;rw[Array.getElem?_setIfInBounds,List.getElem?_map];rcases Nat.lt_trichotomy t k with e|e|e
   ·rw[if_neg (by omega),c3 _ (by omega),hc t (by omega),List.getElem?_map,List.getElem?_append_left (by omega),List.getElem?_take_of_lt e]
   ·subst e;rw[if_pos rfl,if_pos (by omega),List.getElem?_append_right (by omega),hT,Nat.sub_self];rfl
   ·rw[if_neg (by omega)];have:=c4 (t - (k+1)) (by rw[hlen];omega);rw[show off+(k+1)+(t - (k+1))=off+t by omega] at this;rw[this,hnews,List.getElem?_map,List.getElem?_append_right (by omega),hT,show t - k=(t - (k+1))+1 by omega];rfl
  ·have m2:=mod_setCells g [.int .u32 x] W1 (off+k);have m0:Mod (fun i=>i=g) w w.drew:=(Mod.refl _ _).drew;exact((m0.same m1).same m2).mono fun i _ hi=>by rw[hi];rfl
 have hz2:¬((k:Int)=n):=by omega
 have mixed:Tryz.prog.follows .mixedOrders=true:=by kernel_rfl
 have hw1:IntKind.i64.wrap ((k:Int)+1)=(k:Int)+1:=by rw[IntKind.wrap_i64];omega
 have hb1:(0:Int)≤(k:Int)+1:=by omega
 have hin:k≤n:=by omega
 have htn:((k:Int)+1).toNat=k+1:=by omega
 have hb2:¬(cap=k+1):=by omega
 have hb3:(k:Int)≤(n:Int)+1:=by omega
 have hb4:¬(cap=k):=by omega
 have hc63:cap≤9223372036854775807:=by unfold maxLen at hcm;omega
 generalize InsPost w (.slice (some ⟨g,off,none⟩) n cap) xs k x=PQ at*;clear hW1 c1 c2 c3 c4 d1 hset m1 hnews hlen hsome hfree hcell hc hg hn hsrc h1c hv1 hv hfv hsa hsb;go_enter func243,ntmps243;go_wp2_with (simp only[hov]);go_region_law_o (refine step_copy_at rfl _ _ 23 23 rfl _ _ (by simp[Act.eval,Act.put]) (by simp[Act.eval,Act.put]) (hcp1 _ _ _) ?_);go_wp2_with (at_builtin;refine wpList_copy_at _ rfl _ _ 23 23 rfl _ _ rfl rfl (hcp2 _ _) ?_);exact HFin.out
theorem run_append_zeros{P:Program}(w:World)(t tn ty e:TypeId)(i:TypeInfo)(z:Value)(k kn:IntKind)(ht:P.underlying t=some (.slice e))(htn:P.underlying tn=some (.int kn))(hi:P.info? e=some i)(hz:i.zero=some z)
  (base:Option Addr) (sLen sCap:Nat) (olds:List Value) (hold:(Builtin.firstCells i.size sLen (.slice base sLen sCap)).run P w.drew=.ok olds.toArray w.drew)
  (n:Nat) (h0:0<n) (hs:0<i.size) (hg:sCap<sLen+n) (h63:((sLen+n:Nat):Int)≤9223372036854775807) (hfit:Builtin.nextslicecap (sLen+n) sCap*i.bytes≤281474976710656) (h48:n*i.bytes≤281474976710656):
  (Builtin.append_ #[t,tn] ty #[.slice base sLen sCap,.int k n]).run P w=
   .ok (.slice (some ⟨w.heap.size,0,none⟩) (sLen+n) (grownCap w (sLen+n) sCap e)) (w.drew.alloc (.cells (olds.toArray++Builtin.zeroCells z.cells n++Builtin.zeroCells z.cells (grownCap w (sLen+n) sCap e - (sLen+n))) e)):=by
 have hn:n≠0:=by omega
 have hnr:¬(sLen+n≤sCap):=by omega
 have hw:IntKind.i64.wrap (n:Int)=n:=by rw[IntKind.wrap_i64];omega
 have h63':¬(9223372036854775807<((sLen:Int)+(n:Int))):=by omega
 have h63n:¬(9223372036854775807<(n:Int)):=by omega
 have h48':¬(281474976710656<Builtin.nextslicecap (sLen+n) sCap*i.bytes):=by omega
 have h48i:¬(281474976710656<(n:Int)*(i.bytes:Int)):=by
  rw[←Int.natCast_mul];omega
 have hneg:¬((n:Int)<0):=by omega
 have hns:¬(n*i.size=0):=Nat.mul_ne_zero hn (by omega);simp[Builtin.append_,run_underlying ht,run_underlying htn,sizeOf,typeInfo,zeroValue,hi,hz,asInt,asIntOf,hw,hn,hnr,hneg,hns,h63',h63n,h48',h48i,Question.forced,hold,newRow,grownCap]
theorem insert_grow{w:World}{g off cap:Nat}{cur:Array Value}{xs:List Int}(hg:w.heap[g]? =some (.cells cur 22 (0,0)))(hcm:cap≤maxLen)(hcs:off+cap*1≤cur.size)(hc:∀j,j<xs.length*1→cur[off+j]? =(xs.map encU)[j]?)
  (x:Int) (k:Nat) (hk:k<xs.length) (hnc:xs.length≤cap) (hroom:cap<xs.length+1) (hs:xs.length≤2000000) (vb:Nat) (hv:w.heap[vb]? =some (.cells #[.int .u32 x] 22 (0,0))):
  Calls Tryz.prog 243 #[.slice (some ⟨g,off,none⟩) xs.length cap,.int .i64 k,.slice (some ⟨vb,0,none⟩) 1 1] w (InsPost w (.slice (some ⟨g,off,none⟩) xs.length cap) xs k x):=by
 obtain⟨i0,hi0,hz0,hz1,hz2⟩:=info_parts infoU32;have hsz:(Tryz.prog.info? 22).map (·.size)=some 1:=by rw[hi0];simp[hz1]
 obtain⟨n,hn⟩:∃n,xs.length=n:=⟨_,rfl⟩;rw[hn] at hk hnc hroom hs hc⊢;obtain rfl:cap=n:=by omega
 obtain⟨news,hnews⟩:∃news,news=(xs.drop k).map encU:=⟨_,rfl⟩;have hlen:news.length=cap - k:=by rw[hnews];simp[hn]
 have hcell:∀j,j<cap→w.cell? ⟨g,off+j,none⟩=(xs.map encU)[j]? :=fun j hj=>by
  unfold World.cell?;rw[hg];exact hc j (by omega)
 have hold:(Builtin.firstCells i0.size k (.slice (some ⟨g,off,none⟩) k cap)).run Tryz.prog w.drew=.ok ((xs.take k).map encU).toArray w.drew:=by
  rw[hz1];exact run_firstCells_some w.drew 1 k ⟨g,off,none⟩ k cap _ (by simp[hn];omega) (fun j v hj=>by
   have hjk:j<k:=by have:=(List.getElem?_eq_some_iff.1 hj).1;simp[hn] at this;omega
   rw[Addr.add_lit];refine(hcell j (by omega)).trans ?_;rw[List.getElem?_map] at hj⊢;rw[List.getElem?_take_of_lt hjk] at hj;exact hj)
 have hrun:=fun ty=>run_append_zeros (P:=Tryz.prog) w 23 3 ty 22 i0 _ .i64 .i64 Tryz.underlying23 Tryz.underlying3 hi0 hz0 (some ⟨g,off,none⟩) k cap _ hold (cap+1 - k) (by omega) (by omega) (by omega) (by omega) (growslice_fits (by omega) (by rw[hz2];omega)) (by rw[hz2];omega)
 rw[show k+(cap+1 - k)=cap+1 by omega] at hrun;have hge:=grownCap_ge w (cap+1) cap 22;have hgm:=grownCap_le_maxLen w (cap+1) cap 22 (by unfold maxLen;omega);generalize grownCap w (cap+1) cap 22=gc at*;obtain⟨E,hE⟩:∃E,((xs.take k).map encU).toArray++Builtin.zeroCells (Value.int .u32 0).cells (cap+1 - k)++Builtin.zeroCells (Value.int .u32 0).cells (gc - (cap+1))=E:=⟨_,rfl⟩;rw[hE] at hrun;have hEs:E.size=gc:=by
  rw[←hE];simp only[Array.size_append,size_zeroCells,List.size_toArray,List.length_map,List.length_take];have:(Value.int IntKind.u32 0).cells.size=1:=rfl;rw[this];omega
 have hEg:∀t,t<k→E[t]? =(xs.map encU)[t]? :=fun t ht=>by
  rw[←hE,Array.append_assoc,Array.getElem?_append_left (by simp[hn];omega)];simp[List.getElem?_take_of_lt ht]
 obtain⟨q,hq⟩:∃q,w.heap.size=q:=⟨_,rfl⟩;have hgl:=lt_of_block hg;have hvl:=lt_of_block hv;obtain⟨W0,hW0⟩:∃W0,W0=w.drew.alloc (.cells E 22):=⟨_,rfl⟩;rw[hq] at hrun hgl hvl;rw[←hW0] at hrun;have c0:W0.heap[q]? =some (.cells E 22 (0,0)):=by rw[hW0,←hq];exact heap_alloc_new w.drew _
 have hbel0:Below q w W0:=by rw[hW0,←hq];exact(Below.refl _ _).drew.alloc (Nat.le_refl _) _
 have hcp2:∀ty dc,(Builtin.copy_ #[23,23] ty #[.slice (some ⟨q,k,none⟩) (cap+1 - k) dc,.slice (some ⟨vb,0,none⟩) 1 1]).run Tryz.prog W0=.ok (goInt 1) (W0.setCells q k [.int .u32 x]):=fun ty dc=>
  run_copy_cells W0 _ _ ty 22 q k (cap+1 - k) dc ⟨vb,0,none⟩ 1 1 [.int .u32 x] Tryz.underlying23 hsz (by simp only[Nat.min_def,List.length_singleton];split<;>omega)
   (one_cell ((hbel0.block _ hvl).trans hv)) (fun j hj=>by unfold World.cell?;rw[c0];simp at hj;simp[hj,Array.getElem?_eq_getElem (show k<E.size by omega)]) (fun j hj=>by unfold World.frozen?;rw[c0];simp) (by simp[Value.oneCell'])
 have hset:W0.setCells q k [.int .u32 x]=W0.setCell ⟨q,k,none⟩ (.int .u32 x):=by simp[World.setCells]
 have c1:=heap_setCell_same W0 q k E 22 (.int .u32 x) c0;obtain⟨W1,hW1⟩:∃W1,W1=W0.setCells q k [.int .u32 x]:=⟨_,rfl⟩;rw[←hW1] at hcp2;rw[←hset,←hW1] at c1;have hbel1:Below q w W1:=by
  rw[hW1];refine Mod.below hbel0 (mod_setCells q _ W0 k) (Nat.le_of_lt (lt_of_block c0)) fun i _ hi=> ?_
  exact Nat.le_of_eq hi.symm
 have hsrc:∀t u,news[t]? =some u→W1.drew.cell? ((⟨g,off+k,none⟩:Addr).add t)=some u:=fun t u hu=>by
  have ht:t<cap - k:=by rw[←hlen];exact(List.getElem?_eq_some_iff.1 hu).1
  rw[hnews,List.getElem?_map,List.getElem?_drop,←List.getElem?_map,←hcell _ (by omega)] at hu;rw[Addr.add_lit,Nat.add_assoc];exact(hbel1.cell (p:=⟨g,off+(k+t),none⟩) hgl).trans hu
 have h1c:∀u∈news,u.oneCell'=true:=fun u hu=>by
  rw[hnews] at hu;obtain⟨x,_,rfl⟩:=List.mem_map.1 hu;rfl
 have hcp1:∀ty dc sc,(Builtin.copy_ #[23,23] ty #[.slice (some ⟨q,k+1,none⟩) (cap - k) dc,.slice (some ⟨g,off+k,none⟩) (cap - k) sc]).run Tryz.prog W1.drew=.ok (goInt news.length) (W1.drew.setCells q (k+1) news):=fun ty dc sc=>
  run_copy_cells W1.drew _ _ ty 22 q (k+1) (cap - k) dc ⟨g,off+k,none⟩ (cap - k) sc news Tryz.underlying23 hsz (by rw[hlen];simp only[Nat.min_def];split<;>omega)
   hsrc
   (fun j hj=>by
    rw[hlen] at hj
    show(W1.cell? _).isSome=true
    unfold World.cell?;rw[c1];simp[Array.getElem?_eq_getElem (show k+1+j<(E.setIfInBounds k (.int .u32 x)).size by rw[Array.size_setIfInBounds,hEs];omega)])
   (fun j hj=>by show W1.frozen? _=false;unfold World.frozen?;rw[c1];simp) h1c
 obtain⟨cur2,d1,d2,d3,d4⟩:=heap_setCells_same q 22 news W1.drew (k+1) _ c1 (by rw[Array.size_setIfInBounds,hlen];omega);have hbel2:Below q w (W1.drew.setCells q (k+1) news):=by
  refine Mod.below hbel1.drew (mod_setCells q news W1.drew (k+1)) (Nat.le_of_lt (lt_of_block c1)) fun i _ hi=> ?_
  exact Nat.le_of_eq hi.symm
 have HFin:Hid (InsPost w (.slice (some ⟨g,off,none⟩) cap cap) xs k x (.returned (.slice (some ⟨q,0,none⟩) (cap+1) gc)) (W1.drew.setCells q (k+1) news)):=by
  have hL:(xs.take k++x::xs.drop k).length=cap+1:=by simp[hn];omega
  have hT:(xs.take k).length=k:=by rw[List.length_take];omega
  refine Lh ⟨_,rfl,⟨by simp,.inr ⟨q,0,gc,cur2,by rw[hL],d1,by rw[hL];exact hge,hgm,by rw[d2,Array.size_setIfInBounds,hEs];omega,fun t ht=> ?_⟩⟩, ?_,fun b hb=> ?_⟩
  ·rw[hL] at ht;rw[Nat.zero_add,List.getElem?_map];rcases Nat.lt_trichotomy t k with e|e|e
   ·rw[d3 _ (by omega),Array.getElem?_setIfInBounds,if_neg (by omega),hEg t e,List.getElem?_map,List.getElem?_append_left (by omega),List.getElem?_take_of_lt e]
   ·subst e;rw[d3 _ (by omega),Array.getElem?_setIfInBounds,if_pos rfl,if_pos (by omega),List.getElem?_append_right (by omega),hT,Nat.sub_self];rfl
   ·have:=d4 (t - (k+1)) (by rw[hlen];omega);rw[show k+1+(t - (k+1))=t by omega] at this;rw[this,hnews,List.getElem?_map,List.getElem?_append_right (by omega),hT,show t - k=(t - (k+1))+1 by omega];rfl
  ·subst hq;exact Mod.of_below hbel2 _
  ·injection hb with hb
   exact .inr (Nat.le_of_eq (hq.trans hb))
 have hz2:¬((k:Int)=cap):=by omega
 have mixed:Tryz.prog.follows .mixedOrders=true:=by kernel_rfl
 have hw1:IntKind.i64.wrap ((k:Int)+1)=(k:Int)+1:=by rw[IntKind.wrap_i64];omega
 have hb1:(0:Int)≤(k:Int)+1:=by omega
 have hin:k≤cap:=by omega
 have htn:((k:Int)+1).toNat=k+1:=by omega
 have hb2:¬(gc=k+1):=by omega
 have hb3:(k:Int)≤(cap:Int)+1:=by omega
 have hb4:¬(gc=k):=by omega
 have hb5:¬(cap=k):=by omega
 have hsub:(cap:Int)+1 - k=((cap+1 - k:Nat):Int):=by omega
 have hc63:gc≤9223372036854775807:=by unfold maxLen at hgm;omega
 generalize InsPost w (.slice (some ⟨g,off,none⟩) cap cap) xs k x=PQ at*;clear hW0 hW1 c0 c1 d1 d2 d3 d4 hset hnews hlen hcell hold hc hg hn hsrc h1c hv hE hEs hEg hbel0 hbel1 hbel2 hq;go_enter func243,ntmps243;go_wp2_with (at_builtin;refine Lib.wpList_append_run _ rfl _ _ _ _ rfl _ _ rfl rfl _ _ (hrun _) ?_);go_region_law_o (refine step_copy_at rfl _ _ 23 23 rfl _ _ (by simp[Act.eval,Act.put]) (by simp[Act.eval,Act.put]) (hcp1 _ _ _) ?_);go_wp2;exact HFin.out
theorem insert{w:World}{v:Value}{xs:List Int}(h:Lst w v xs)(x:Int)(k:Nat)(hk:k≤xs.length)(hs:xs.length≤2000000)(vb:Nat)(hv:w.heap[vb]? =some (.cells #[.int .u32 x] 22 (0,0)))(hvg:v.ownBlock≠some vb):
  Calls Tryz.prog 243 #[v,.int .i64 k,.slice (some ⟨vb,0,none⟩) 1 1] w (InsPost w v xs k x):=by
 by_cases e:k=xs.length
 ·rw[e];exact insert_end h x hs vb hv
 ·rcases h.2 with⟨h0,a,rfl⟩|⟨g,off,cap,cur,rfl,hg,hnc,hcm,hcs,hc⟩
  ·omega
  ·by_cases hroom:xs.length+1≤cap
   ·exact insert_shift hg hcm hcs hc x k (by omega) hroom hs vb hv fun e=>hvg (by rw[e];rfl)
   ·exact insert_grow hg hcm hcs hc x k (by omega) hnc (by omega) hs vb hv
end Go.Proofs.YtjjdjpdmgaipeaaGreat.Sl
namespace Go.Proofs.YtjjdjpdmgaipeaaGreat.Word
open Go.RowKit
def getV:List Int→Int
 | []=>0
 |x::xs=>x+256*getV xs
theorem getV_snoc(l:List Int)(y:Int):getV (l++[y])=getV l+y*256 ^ l.length:=by
 induction l with
 |nil=>simp[getV]
 |cons x xs ih=>
  simp only[List.cons_append,getV,ih,List.length_cons,Int.pow_succ];rw[Int.mul_add,Int.add_assoc,Int.mul_left_comm,Int.mul_comm 256 (256 ^ xs.length)]
theorem getV_bd(l:List Int)(h:∀x,x∈l→0≤x∧x<256):0≤getV l∧getV l<256 ^ l.length:=by
 induction l with
 |nil=>simp[getV]
 |cons x xs ih=>
  have h1:=h x (by simp);have h2:=ih fun y hy=>h y (by simp[hy])
  simp only[getV,List.length_cons,Int.pow_succ];omega
theorem or_join(k:Nat)(a y:Int)(hk:k<4)(a0:0≤a)(a1:a<256 ^ k)(y0:0≤y)(y1:y<256):
  bits .or .u32 a (y % 4294967296*2 ^ (8*k) % 4294967296)=a+y*256 ^ k:=by
 have e:y % 4294967296*2 ^ (8*k) % 4294967296=y*2 ^ (8*k):=by
  have:k=0∨k=1∨k=2∨k=3:=by omega
  rcases this with rfl|rfl|rfl|rfl<;>simp<;>omega
 have e2:(256:Int) ^ k=2 ^ (8*k):=by rw[Int.pow_mul];rfl
 rw[e,e2];rw[e2] at a1;obtain⟨a,rfl⟩:=Int.eq_ofNat_of_zero_le a0;obtain⟨y,rfl⟩:=Int.eq_ofNat_of_zero_le y0;have hp:((2:Int) ^ (8*k))=((2 ^ (8*k):Nat):Int):=by simp
 rw[hp] at a1⊢;have a1':a<2 ^ (8*k):=by exact_mod_cast a1
 rw[←Int.natCast_mul,u32_or_nat a (y*2 ^ (8*k))]
 ·have hj:=nat_join (8*k) (y*2 ^ (8*k)) a (Nat.mul_mod_left _ _) a1';rw[Nat.or_comm,hj,←Int.natCast_add,Nat.add_comm]
 ·have:k=0∨k=1∨k=2∨k=3:=by omega
  rcases this with rfl|rfl|rfl|rfl<;>simp at a1'<;>omega
 ·have:k=0∨k=1∨k=2∨k=3:=by omega
  rcases this with rfl|rfl|rfl|rfl<;>simp<;>omega
theorem take_succ_nums(s:ByteArray)(k:Nat)(hk:k<s.size):(nums s).take (k+1)=(nums s).take k++[((s[k]'hk).toNat:Int)]:=by
 have hl:k<(nums s).length:=by rw[nums_length];exact hk
 rw[List.take_succ_eq_append_getElem hl]
 congr 2
 have:=nums_get s k hk;rw[this,List.getD,Zg hl];rfl
theorem get_next(s:ByteArray)(k:Nat)(x:Int)(hk:k<s.size)(h4:s.size≤4)(hx:x=getV ((nums s).take k)):
  bits .or .u32 x (((s[k]'hk).toNat:Int) % 4294967296*2 ^ (8*k) % 4294967296)=getV ((nums s).take (k+1)):=by
 have hb:=getV_bd ((nums s).take k) fun y hy=>nums_bd s y (List.mem_of_mem_take hy)
 have hl:((nums s).take k).length=k:=by rw[List.length_take,nums_length];omega
 rw[hl] at hb;rw[take_succ_nums s k hk,getV_snoc,hl,←hx];rw[←hx] at hb;have hy:=(s[k]'hk).toNat_lt;exact or_join k x _ (by omega) hb.1 hb.2 (by omega) (by omega)
theorem getV_take_bd(s:ByteArray)(k:Nat)(h4:s.size≤4):0≤getV ((nums s).take k)∧getV ((nums s).take k)≤4294967295:=by
 have hb:=getV_bd ((nums s).take k) fun y hy=>nums_bd s y (List.mem_of_mem_take hy)
 have hl:((nums s).take k).length≤4:=by rw[List.length_take,nums_length];omega
 generalize ((nums s).take k).length=n at hb hl;have:n=0∨n=1∨n=2∨n=3∨n=4:=by omega
 rcases this with rfl|rfl|rfl|rfl|rfl<;>simp at hb<;>omega
end Go.Proofs.YtjjdjpdmgaipeaaGreat.Word
namespace Go.Proofs.YtjjdjpdmgaipeaaGreat.Word
open Go.RowKit
def one(c:Bool):Int:=if c then 1 else 0
def divu(a b:Int):Int:=if b=0 then 4294967295 else a / b
def remu(a b:Int):Int:=if b=0 then a else a % b
def opv(fn a b:Int):Int:=
 match fn with
 |1=>(a+b) % 4294967296
 |2=>(a - b) % 4294967296
 |3=>a*b % 4294967296
 |4=>divu a b
 |5=>remu a b
 |6=>bits .and .u32 a b
 |7=>bits .or .u32 a b
 |8=>bits .xor .u32 a b
 |9=>a*2 ^ (b % 32).toNat % 4294967296
 |10=>a / 2 ^ (b % 32).toNat
 |11=>wrap32 a / 2 ^ (b % 32).toNat % 4294967296
 |12=>one (decide (wrap32 a<wrap32 b))
 |13=>one (decide (a<b))
 |14=>one (a == b)
 |_=>0
end Go.Proofs.YtjjdjpdmgaipeaaGreat.Word
namespace Go.Proofs.YtjjdjpdmgaipeaaGreat.Word
open Go.RowKit
theorem text(b len cap:Nat)(xs:List Int)(hlen:xs.length=len)(w:World)(hc:∀i,i<len→w.cell? ⟨b,0+i,none⟩=some (.int .u8 (xs.getD i 0))):
  Calls Tryz.prog 348 #[.slice (some ⟨b,0,none⟩) len cap] w fun e w'=>e=.returned (.string (strOfNums xs))∧w=w':=by
 have h:=run_convert_bytes_arg (P:=Tryz.prog) w 30 5 Tryz.underlying30 Tryz.underlying5 b 0 len cap xs hlen hc 9 Tryz.underlying9;clear hc;go_enter func348,ntmps348;go_wp2;go_ret;exact⟨rfl,rfl⟩
def putL(v:Int):List Int:=[v % 256,v / 256 % 256,v / 65536 % 256,v / 16777216]
def putS(v:Int)(n:Nat):ByteArray:=strOfNums ((putL v).take n)
end Go.Proofs.YtjjdjpdmgaipeaaGreat.Word
namespace Go.Proofs.YtjjdjpdmgaipeaaGreat
open Go.RowKit Word
structure Ins where
 op:Int
 d:Int
 a:Int
 b:Int
 imm:Int
namespace Ins
structure ok(x:Ins):Prop where
 o0:0≤x.op
 o1:x.op≤255
 d0:0≤x.d
 d1:x.d≤255
 a0:0≤x.a
 a1:x.a≤255
 b0:0≤x.b
 b1:x.b≤255
 i0:0≤x.imm
 i1:x.imm≤4294967295
def val(x:Ins):Value:=.agg #[.int .u8 x.op,.int .u8 x.d,.int .u8 x.a,.int .u8 x.b,.int .u32 x.imm]
def nix:Ins:=⟨0,0,0,0,0⟩
def usesV(op:Int):Int:=
 if 1≤op∧op≤14 then 7
 else if op=17∨op=19∨op=22∨op=23∨op=24∨op=25∨op=26∨op=29∨op=30∨op=33∨op=34 then 11
 else if op=32∨op=41 then 9
 else if op=35∨op=36∨op=43∨op=44∨op=45∨op=46 then 14
 else if op=40∨op=50 then 8
 else if op=42 then 2
 else 0
theorem usesV_bd(op:Int):0≤usesV op∧usesV op≤255:=by
 unfold usesV
 repeat' split
 all_goals exact⟨by omega,by omega⟩
def hasV(op bit:Int):Bool:=bits .and .u8 (usesV op) bit != 0
def fitV(n:Int)(uses:Bool):Bool:=n == 0||(uses&&decide (n<16))
def mayV(x:Ins):Bool:=usesV x.op != 0&&fitV x.d (hasV x.op 1)&&fitV x.a (hasV x.op 2)&&fitV x.b (hasV x.op 4)&&(hasV x.op 8||x.imm == 0)
theorem fit_lt{n:Int}{u:Bool}(h:fitV n u=true)(h0:0≤n):n<16:=by
 unfold fitV at h;simp only[Bool.or_eq_true,Bool.and_eq_true,decide_eq_true_eq,beq_iff_eq] at h;omega
structure small(x:Ins):Prop where
 d0:0≤x.d
 d1:x.d<16
 a0:0≤x.a
 a1:x.a<16
 b0:0≤x.b
 b1:x.b<16
theorem may_small{x:Ins}(h:mayV x=true)(hx:x.ok):x.small:=by
 unfold mayV at h;simp only[Bool.and_eq_true] at h;exact⟨hx.d0,fit_lt h.1.1.1.2 hx.d0,hx.a0,fit_lt h.1.1.2 hx.a0,hx.b0,fit_lt h.1.2 hx.b0⟩
def encL(x:Ins):List Int:=[x.op,x.d+16*x.a,x.b,0]++putL x.imm
def encE(x:Ins):Int:=if mayV x then 0 else 2
def encS(x:Ins):ByteArray:=if mayV x then strOfNums (encL x) else ByteArray.empty
def decI(s:ByteArray):Ins:=⟨(nums s).getD 0 0,(nums s).getD 1 0 % 16,(nums s).getD 1 0 / 16,(nums s).getD 2 0,getV ((nums s).drop 4)⟩
def decB(s:ByteArray):Bool:=s.size == 8&&(nums s).getD 3 0 == 0&&mayV (decI s)
theorem encL_len(x:Ins):(encL x).length=8:=rfl
end Ins
end Go.Proofs.YtjjdjpdmgaipeaaGreat
