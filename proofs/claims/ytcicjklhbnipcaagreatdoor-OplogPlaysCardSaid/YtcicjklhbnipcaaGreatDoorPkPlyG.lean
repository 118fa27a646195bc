/-
  Laid texts.
-/
import Derived.Test.YtcicjklhbnipcaaGreatDoorPkPlyF
set_option maxHeartbeats 16000000
set_option maxRecDepth 1000000
set_option linter.unusedVariables false
set_option linter.unusedSimpArgs false
namespace Go.Proofs.YtcicjklhbnipcaaGreatDoor
section
open Go.RowKit Go.Maps
def ins(x:ByteArray×Int):List (ByteArray×Int)→List (ByteArray×Int)
 |[]=>[x]
 |y::r=>if In.before y.1 x.1 then y::ins x r else x::y::r
theorem ins_put{x:ByteArray×Int}: ∀ {d:List (ByteArray×Int)},(∀ p∈d,In.same p.1 x.1=false)→ins x d=In.put x d
 |[],_=>rfl
 |y::r,h=>by
  have h1:=h y (.head _)
  have hne:y.1≠x.1:=fun e=>by rw[In.same_iff.2 e] at h1;cases h1
  have ih:=ins_put (d:=r) fun p hp=>h p (.tail _ hp)
  show(if In.before y.1 x.1 then y::ins x r else x::y::r)=if In.before x.1 y.1 then x::y::r else y::In.put x r
  rcases In.before_total hne with hb|hb
  ·have hn:In.before x.1 y.1=false:=by
    cases hc:In.before x.1 y.1 with
    |false=>rfl
    |true=>have:=In.before_trans hb hc;rw[In.before_irrefl] at this;cases this
   rw[if_pos hb,hn,if_neg nofun,ih]
  ·have hn:In.before y.1 x.1=false:=by
    cases hc:In.before y.1 x.1 with
    |false=>rfl
    |true=>have:=In.before_trans hb hc;rw[In.before_irrefl] at this;cases this
   rw[hn,if_neg nofun,if_pos hb]
theorem ins_at{x:ByteArray×Int}: ∀ (d:List (ByteArray×Int)),ins x d=d.take (d.takeWhile fun p=>In.before p.1 x.1).length++x::d.drop (d.takeWhile fun p=>In.before p.1 x.1).length
 |[]=>rfl
 |y::r=>by
  have ih:=ins_at (x:=x) r
  show(if In.before y.1 x.1 then y::ins x r else x::y::r)=_
  rw[List.takeWhile_cons]
  cases hb:In.before y.1 x.1 with
  |true=>rw[if_pos rfl,if_pos rfl,ih];rfl
  |false=>rw[if_neg nofun,if_neg nofun];rfl
section
variable {w w' w0:World}
theorem add_at(g q m:Nat):(⟨g,q,none⟩:Addr).add m=⟨g,q+m,none⟩:=by
 unfold Addr.add
 split
 ·rename_i h;subst h;rfl
 ·rfl
theorem less_before: ∀ a b:List UInt8,Op.bytesLess a b=bytesBefore a b
 |[],[]=>rfl
 |[],_::_=>rfl
 |_::_,[]=>rfl
 |a::r,b::t=>by
  show(decide (a<b)||(a==b&&Op.bytesLess r t))=(decide (a<b)||(a==b&&bytesBefore r t))
  rw[less_before r t]
theorem before_go{a b:ByteArray}{v:Bool}(h:In.before a b=v):Op.bytesLess a.toList b.toList=v:=by rw[less_before,ByteArray.toList_eq,ByteArray.toList_eq];exact h
theorem entC_take: ∀ (d:List (ByteArray×Int)) (k:Nat),entC (d.take k)=(entC d).take (k*2)
 |[],k=>by cases k<;> rfl
 |p::r,0=>rfl
 |p::r,k+1=>by
  rw[List.take_succ_cons]
  unfold entC at*
  rw[List.flatMap_cons,List.flatMap_cons]
  have:=entC_take r k
  unfold entC at this
  rw[this,show(k+1)*2=k*2+2 by omega]
  rfl
theorem entC_drop: ∀ (d:List (ByteArray×Int)) (k:Nat),entC (d.drop k)=(entC d).drop (k*2)
 |[],k=>by cases k<;> rfl
 |p::r,0=>rfl
 |p::r,k+1=>by
  rw[List.drop_succ_cons,entC_drop r k,show(k+1)*2=k*2+2 by omega]
  unfold entC
  rw[List.flatMap_cons]
  rfl
theorem entC_one: ∀ d:List (ByteArray×Int),(entC d).all (·.oneCell')=true
 |[]=>rfl
 |p::r=>by
  have:=entC_one r
  unfold entC at this ⊢
  rw[List.flatMap_cons,List.all_append,this]
  rfl
theorem rwith_any(z:NodV)(h:NmAt z w0)(nm:ByteArray)(id:Int):Calls Tryz.prog 186 #[.agg z.cells.toArray,.agg #[.string nm,.int .i64 id]] w0 (Renamed z.1 (ins (nm,id) z.1.names) w0):=by
 have hM:=St.start w0 []
 have hln:=h.len
 have HH:=qh h.has
 have HK:=qh h.ok
 obtain⟨va,vc,hv,hva⟩:=slV_open h.ok
 clear h
 obtain⟨⟨zi,zd,zl,zh,zb,zn⟩,zp⟩:=z
 unfold NodV.cells
 simp only at hv hva hln ⊢
 rw[hv]
 have HC:=qh (show va=none→zn.length=0∧vc=0 from fun h=>by
  rcases zp with _|⟨g1,cap1⟩
  ·have h1:=HK.out.2
   unfold slV at hv
   injection hv with _ _ h3
   exact⟨h1,h3.symm⟩
  ·obtain⟨h1,-⟩:=hva g1 cap1 rfl
   rw[h1] at h
   cases h)
 have HD:=qh (show ∀ ad,va=some ad→ ∃ g,ad=⟨g,0,none⟩∧ ∀ j u,(entC zn)[j]? =some u→w0.cell? ⟨g,j,none⟩=some u from fun ad h=>by
  rcases zp with _|⟨g1,cap1⟩
  ·unfold slV at hv
   injection hv with h3
   rw[←h3] at h
   cases h
  ·obtain⟨h1,-⟩:=hva g1 cap1 rfl
   rw[h1] at h
   cases h
   exact⟨g1,rfl,fun j u hj=>Res.cell (HH.out (g1,true,.pre (entC zn) 127 (cap1*2)) (.head _)) hj⟩)
 have hvl:zn.length≤vc:=by
  rcases zp with _|⟨g1,cap1⟩
  ·have h1:=HK.out.2
   simp only at h1
   omega
  ·obtain⟨-,h2⟩:=hva g1 cap1 rfl
   have:=HK.out.2.1
   rw[h2]
   exact this
 clear hv
 obtain⟨R0,hR0⟩: ∃ R0,(zn.takeWhile fun p=>In.before p.1 nm).length=R0:=⟨_,rfl⟩
 have HR0:=qh hR0
 clear hR0
 go_enter Tryz.func186,Tryz.ntmps186
 try(refine qW ?_;clear hM;intros;rename_i hM)
 ((refine qMk ?_);clear hM;intro w bk_2 hM)
 try(refine qW ?_;clear hM;intros;rename_i hM)
 ((refine qMk ?_);clear hM;intro w bk_1 hM)
 (repeat(first|(refine qW ?_;intros;rename_i hM)|(refine qMk ?_;clear hM;intro w bk hM)))
 go_loopw [6] (fun i wr=> ∃ k:Nat,k≤zn.length∧i= .int .i64 k∧Hid (k+((zn.drop k).takeWhile fun p=>In.before p.1 nm).length=R0)∧St w0 [] wr [(bk,true,Res.cells [.int .i64 0,.bool false,.int .i64 0,.int .i64 0,.string ⟨#[]⟩,.slice none 0 0] 124),(bk_1,true,Res.cells [.string nm,.int .i64 id] 127),(bk_2,true,Res.cells [.int .i64 zi,.bool zd,.int .i64 zl,.int .i64 zh,.string zb,.slice va zn.length vc] 124)]) (fun i _=>zn.length - (intOf i).toNat)
 case atStart=>exact⟨0,by omega,rfl,qh (by rw[List.drop_zero,Nat.zero_add];exact HR0.out),hM⟩
 case round=>
  clear hM
  obtain⟨k,hk,rfl,HF,hM⟩:=hrel
  by_cases hlt:k<zn.length
  ·obtain⟨p,hp⟩:=get_at hlt
   have k1:(k:Int)<(zn.length:Int):=by omega
   obtain⟨g1,cap1,rfl⟩: ∃ g1 cap1,zp=some (g1,cap1):=by
    rcases zp with _|⟨g1,cap1⟩
    ·exact absurd HK.out.2 (by simp only;omega)
    ·exact⟨g1,cap1,rfl⟩
   have hgv:=(hva g1 cap1 rfl).1
   have r1:=ent_row HH.out hp
   have c0:w0.cell? ⟨g1,k*2,none⟩=some (.string p.1):=r1 0 _ rfl
   have hd:zn.drop k=p::zn.drop (k+1):=by rw[List.drop_eq_getElem_cons hlt,(List.getElem?_eq_some_iff.1 hp).2]
   have HF':=HF.out
   rw[hd,List.takeWhile_cons] at HF'
   cases he:In.before p.1 nm with
   |true=>
    have q1:=before_go he
    rw[he,if_pos rfl,List.length_cons] at HF'
    have HE:=qh (show k+1+((zn.drop (k+1)).takeWhile fun p=>In.before p.1 nm).length=R0 by omega)
    clear HF' HF hd he hp r1
    (repeat(first|(refine qW ?_;intros;rename_i hM)|(refine qMk ?_;clear hM;intro w bk hM)))
    (try simp only[Exit.then])
    (refine⟨?_,qio⟩;repeat(first|exact⟨⟨k+1,by omega,rfl,HE,hM⟩,rfl⟩|apply Exists.intro))
   |false=>
    have q1:=before_go he
    rw[he,if_neg nofun,List.length_nil] at HF'
    have HE:=qh (show k=R0 by omega)
    clear HF' HF hd he hp r1
    (repeat(first|(refine qW ?_;intros;rename_i hM)|(refine qMk ?_;clear hM;intro w bk hM)))
    refine St.slcTo rfl rfl rfl rfl rfl Tryz.underlying122 (sz:=2) (by kernel_rfl) (by omega) ?_
    (refine qq ?_)
    change St w0 [] _ (_::_::_::slL none (entC []) 127 2) at hM
    refine St.appendAny (s:=none) (n:=0) (xs:=[]) (news:=entC (zn.take k)) rfl hM rfl rfl rfl rfl rfl (by kernel_rfl) qsf ⟨rfl,rfl⟩ (fun h=>by have:=HC.out h;omega) (by rw[entC_len,List.length_take];omega) (fun ad h j u hj=>by
     obtain⟨g,rfl,hc⟩:=HD.out ad h
     rw[add_at,Nat.zero_add]
     refine hM.old (hc j u ?_)
     rw[entC_take,List.getElem?_take] at hj
     split at hj
     ·exact hj
     ·cases hj) (entC_one _) (by rw[maxLen_val];omega) (by omega) (fun _=> .inr rfl) ?_
    clear hM;intro w s1 hM hk1 _ _
    simp only[List.nil_append,Nat.zero_add] at hM hk1 ⊢
    have HK1:=qh hk1
    obtain⟨ua,uc,hu,-⟩:=slV_open hk1
    clear hk1
    rw[hu]
    (refine qq ?_)
    (repeat(first|(refine qW ?_;intros;rename_i hM)|(refine qMk ?_;clear hM;intro w bk hM)))
    rw[←hu]
    refine St.append (s:=s1) (n:=k) (xs:=entC (zn.take k)) rfl hM rfl rfl rfl rfl rfl (by kernel_rfl) qsf HK1.out rfl (hM.news qm) rfl (by rw[maxLen_val];omega) (by omega) (fun h=>by cases h) ?_
    clear hM;intro w s2 hM hk2 _
    simp only[Res.known] at hM hk2
    have HK2:=qh hk2
    obtain⟨ub,ud,hu2,-⟩:=slV_open hk2
    clear hk2
    rw[hu2]
    clear hgv
    (refine qq ?_)
    (repeat(first|(refine qW ?_;intros;rename_i hM)|(refine qMk ?_;clear hM;intro w bk hM)))
    rw[←hu2]
    refine St.appendAny (s:=s2) (n:=k+1) (xs:=entC (zn.take k)++[.string nm,.int .i64 id]) (news:=entC (zn.drop k)) rfl hM rfl rfl rfl rfl rfl (by kernel_rfl) qsf HK2.out (fun h=>by
     have h1:va=none:=by
      split at h
      ·exact h
      ·exact Option.map_eq_none_iff.1 h
     have:=HC.out h1
     omega) (by rw[entC_len,List.length_drop]) (fun ad h j u hj=>by
     rw[entC_drop,List.getElem?_drop] at hj
     have hb:=(List.getElem?_eq_some_iff.1 hj).1
     rw[entC_len] at hb
     rw[if_neg (by omega)] at h
     obtain⟨ad0,h1,rfl⟩:=Option.map_eq_some_iff.1 h
     obtain⟨g,rfl,hc⟩:=HD.out ad0 h1
     rw[add_at,add_at,Nat.zero_add]
     exact hM.old (hc _ u hj)) (entC_one _) (by rw[maxLen_val];omega) (by omega) (fun h=>by cases h) ?_
    clear hM;intro w s3 hM hk3 _ _
    have e1:entC (zn.take k)++[.string nm,.int .i64 id]++entC (zn.drop k)=entC (ins (nm,id) zn):=by
     rw[ins_at,show(zn.takeWhile fun p=>In.before p.1 (nm,id).1).length=k from HR0.out.trans HE.out.symm]
     unfold entC
     rw[List.flatMap_append,List.flatMap_cons,List.append_assoc]
    have e2:k+1+(zn.length - k)=(ins (nm,id) zn).length:=by
     rw[ins_at,show(zn.takeWhile fun p=>In.before p.1 (nm,id).1).length=k from HR0.out.trans HE.out.symm,List.length_append,List.length_cons,List.length_take,List.length_drop]
     omega
    rw[e1] at hM hk3
    rw[e2] at hk3
    rw[e2]
    have HK3:=qh hk3
    obtain⟨uf,ug,hu3,-⟩:=slV_open hk3
    clear hk3 e1 e2
    rw[hu3]
    (refine qq ?_)
    (repeat(first|(refine qW ?_;intros;rename_i hM)|(refine qMk ?_;clear hM;intro w bk hM)))
    (refine qf ?_)
    refine⟨s3, ?_,HK3.out,hM.forget.forget.forget.forget⟩
    unfold NodV.cells
    show _=Ending.returned (.agg #[_,_,_,_,_,slV s3 (ins (nm,id) zn).length])
    rw[hu3]
    rfl
  ·have k0:¬((k:Int)<(zn.length:Int)):=by omega
   obtain rfl:k=zn.length:=by omega
   have HF':=HF.out
   rw[List.drop_length] at HF'
   have HE:=qh (show zn.length=R0 from HF')
   clear hlt hk HF HF'
   (repeat(first|(refine qW ?_;intros;rename_i hM)|(refine qMk ?_;clear hM;intro w bk hM)))
   change St w0 [] _ (_::_::_::slL none (entC []) 127 2) at hM
   refine St.appendAny (s:=none) (n:=0) (xs:=[]) (news:=entC (zn.take zn.length)) rfl hM rfl rfl rfl rfl rfl (by kernel_rfl) qsf ⟨rfl,rfl⟩ (fun h=>by have:=HC.out h;omega) (by rw[entC_len,List.length_take];omega) (fun ad h j u hj=>by
    obtain⟨g,rfl,hc⟩:=HD.out ad h
    rw[add_at,Nat.zero_add]
    refine hM.old (hc j u ?_)
    rw[entC_take,List.getElem?_take] at hj
    split at hj
    ·exact hj
    ·cases hj) (entC_one _) (by rw[maxLen_val];omega) (by omega) (fun _=> .inr rfl) ?_
   clear hM;intro w s1 hM hk1 _ _
   simp only[List.nil_append,Nat.zero_add] at hM hk1 ⊢
   have HK1:=qh hk1
   obtain⟨ua,uc,hu,-⟩:=slV_open hk1
   clear hk1
   rw[hu]
   (refine qq ?_)
   (repeat(first|(refine qW ?_;intros;rename_i hM)|(refine qMk ?_;clear hM;intro w bk hM)))
   rw[←hu]
   refine St.append (s:=s1) (n:=zn.length) (xs:=entC (zn.take zn.length)) rfl hM rfl rfl rfl rfl rfl (by kernel_rfl) qsf HK1.out rfl (hM.news qm) rfl (by rw[maxLen_val];omega) (by omega) (fun h=>by cases h) ?_
   clear hM;intro w s2 hM hk2 _
   simp only[Res.known] at hM hk2
   have HK2:=qh hk2
   obtain⟨ub,ud,hu2,-⟩:=slV_open hk2
   clear hk2
   rw[hu2]
   (refine qq ?_)
   (repeat(first|(refine qW ?_;intros;rename_i hM)|(refine qMk ?_;clear hM;intro w bk hM)))
   rw[←hu2]
   refine St.appendAny (s:=s2) (n:=zn.length+1) (xs:=entC (zn.take zn.length)++[.string nm,.int .i64 id]) (news:=entC (zn.drop zn.length)) rfl hM rfl rfl rfl rfl rfl (by kernel_rfl) qsf HK2.out (fun h=>by
    have h1:va=none:=by
     split at h
     ·exact h
     ·exact Option.map_eq_none_iff.1 h
    have:=HC.out h1
    omega) (by rw[entC_len,List.length_drop];omega) (fun ad h j u hj=>by
    rw[entC_drop,List.getElem?_drop] at hj
    have hb:=(List.getElem?_eq_some_iff.1 hj).1
    rw[entC_len] at hb
    rw[if_neg (by omega)] at h
    obtain⟨ad0,h1,rfl⟩:=Option.map_eq_some_iff.1 h
    obtain⟨g,rfl,hc⟩:=HD.out ad0 h1
    rw[add_at,add_at,Nat.zero_add]
    exact hM.old (hc _ u hj)) (entC_one _) (by rw[maxLen_val];omega) (by omega) (fun h=>by cases h) ?_
   clear hM;intro w s3 hM hk3 _ _
   have e1:entC (zn.take zn.length)++[.string nm,.int .i64 id]++entC (zn.drop zn.length)=entC (ins (nm,id) zn):=by
    rw[ins_at,show(zn.takeWhile fun p=>In.before p.1 (nm,id).1).length=zn.length from HR0.out.trans HE.out.symm]
    unfold entC
    rw[List.flatMap_append,List.flatMap_cons,List.append_assoc]
   have e2:zn.length+1+0=(ins (nm,id) zn).length:=by
    rw[ins_at,show(zn.takeWhile fun p=>In.before p.1 (nm,id).1).length=zn.length from HR0.out.trans HE.out.symm,List.length_append,List.length_cons,List.length_take,List.length_drop]
    omega
   rw[e1] at hM hk3
   rw[e2] at hk3
   rw[e2]
   have HK3:=qh hk3
   obtain⟨uf,ug,hu3,-⟩:=slV_open hk3
   clear hk3 e1 e2
   rw[hu3]
   (refine qq ?_)
   (repeat(first|(refine qW ?_;intros;rename_i hM)|(refine qMk ?_;clear hM;intro w bk hM)))
   (refine qf ?_)
   refine⟨s3, ?_,HK3.out,hM.forget.forget.forget.forget⟩
   unfold NodV.cells
   show _=Ending.returned (.agg #[_,_,_,_,_,slV s3 (ins (nm,id) zn).length])
   rw[hu3]
   rfl
end
end
section
open Go.RowKit Go.Maps
section
variable {w w' w0:World}{zs:List NodV}{x:RX}{q nx:Int}
abbrev rfind(zs:List NodV)(id:Int):Option NodV:=zs.find? fun z=>z.1.id==id
theorem rplace_none(h:RRaw x q nx zs w0){dir:Int}{s:ByteArray}(hf:rfind zs dir=none):An 183 #[.pointer (some ⟨x.g,0,none⟩),.int .i64 dir,.string s] w0 (.tuple #[nodZ,.int .i64 3]):=by
 have hM:=St.start w0 []
 have HC:=qh (show ∀ W,Below w0.heap.size w0 W→An 182 #[.pointer (some ⟨x.g,0,none⟩),.int .i64 dir] W (.tuple #[nodZ,.bool false]) from fun W hb=>by
  have C:=rget_any (h.below hb) dir
  rw[show(zs.find? fun z=>z.1.id==dir)=none from hf] at C
  exact C)
 unfold nodZ at HC
 clear h hf
 go_enter Tryz.func183,Tryz.ntmps183
 (refine qw ?_;intros;rename_i hM)
 (refine qCB (HC.out _ hM.to_below) hM ?_;clear hM;intro w' hM)
 exact qwf
def placeN(z:NodV)(s:ByteArray):Int:=if z.1.dir then(if In.isName s then 0 else 1) else 12
theorem rplace_some(h:RRaw x q nx zs w0){dir:Int}{s:ByteArray}(hs:s.size≤1000000000){z:NodV}(hf:rfind zs dir=some z):An 183 #[.pointer (some ⟨x.g,0,none⟩),.int .i64 dir,.string s] w0 (.tuple #[.agg z.cells.toArray,.int .i64 (placeN z s)]):=by
 have hM:=St.start w0 []
 have HC:=qh (show ∀ W,Below w0.heap.size w0 W→An 182 #[.pointer (some ⟨x.g,0,none⟩),.int .i64 dir] W (.tuple #[.agg z.cells.toArray,.bool true]) from fun W hb=>by
  have C:=rget_any (h.below hb) dir
  rw[show(zs.find? fun z=>z.1.id==dir)=some z from hf] at C
  exact C)
 have HI:=qh (fun W:World=>rIsName_any s W hs)
 obtain⟨va,vc,hv,-⟩:=slV_open (h.names z (List.mem_of_find?_eq_some hf))
 clear h hf hs
 obtain⟨⟨zi,zd,zl,zh,zb,zn⟩,zp⟩:=z
 unfold NodV.cells at HC ⊢
 simp only at hv HC ⊢
 rw[hv] at HC ⊢
 clear hv
 unfold placeN
 simp only
 cases zd with
 |false=>
  go_enter Tryz.func183,Tryz.ntmps183
  (refine qw ?_;intros;rename_i hM)
  (refine qCB (HC.out _ hM.to_below) hM ?_;clear hM;intro w' hM)
  exact qwf
 |true=>
  cases hN:In.isName s with
  |false=>
   rw[hN] at HI
   clear hN
   go_enter Tryz.func183,Tryz.ntmps183
   (refine qw ?_;intros;rename_i hM)
   (refine qCB (HC.out _ hM.to_below) hM ?_;clear hM;intro w' hM)
   (refine qw ?_;intros;rename_i hM)
   (refine qCB (HI.out _) hM ?_;clear hM;intro w' hM)
   exact qwf
  |true=>
   rw[hN] at HI
   clear hN
   go_enter Tryz.func183,Tryz.ntmps183
   (refine qw ?_;intros;rename_i hM)
   (refine qCB (HC.out _ hM.to_below) hM ?_;clear hM;intro w' hM)
   (refine qw ?_;intros;rename_i hM)
   (refine qCB (HI.out _) hM ?_;clear hM;intro w' hM)
   exact qwf
end
end
section
open Go.RowKit Go.Maps
section
variable {w w' w0:World}{zs:List NodV}{x:RX}{q nx:Int}
def rfindR(zs:List NodV)(dir:Int)(s:ByteArray):Int×Int:=
 match rfind zs dir with
 |none=>(0,3)
 |some z=>if placeN z s=0 then(if In.leads z.1.names s=0 then(0,3) else(In.leads z.1.names s,0)) else(0,placeN z s)
theorem rFind_any(h:RRaw x q nx zs w0)(hl: ∀ z∈zs,z.1.names.length≤1000000){dir:Int}{s:ByteArray}(hs:s.size≤1000000000):An 145 #[.pointer (some ⟨x.g,0,none⟩),.int .i64 dir,.string s] w0 (.tuple #[.int .i64 (rfindR zs dir s).1,.int .i64 (rfindR zs dir s).2]):=by
 have hM:=St.start w0 []
 unfold rfindR
 cases hf:rfind zs dir with
 |none=>
  have HC:=qh (fun (W:World) (hb:Below w0.heap.size w0 W)=>rplace_none (s:=s) (h.below hb) hf)
  unfold nodZ at HC
  clear h hf hs hl
  simp only
  go_enter Tryz.func145,Tryz.ntmps145
  (refine qw ?_;intros;rename_i hM)
  (refine qCB (HC.out _ hM.to_below) hM ?_;clear hM;intro w' hM)
  exact qwf
 |some z=>
  have hz:=List.mem_of_find?_eq_some hf
  have HC:=qh (fun (W:World) (hb:Below w0.heap.size w0 W)=>rplace_some (s:=s) (h.below hb) hs hf)
  have HLD:=qh (fun (W:World) (hb:Below w0.heap.size w0 W)=>rleads_any z (h.nm hl hz |>.below hb) s)
  obtain⟨va,vc,hv,-⟩:=slV_open (h.names z hz)
  clear h hf hs hl hz
  simp only
  generalize placeN z s=c at*
  generalize In.leads z.1.names s=i at*
  obtain⟨⟨zi,zd,zl,zh,zb,zn⟩,zp⟩:=z
  unfold NodV.cells at HC HLD
  simp only at hv HC HLD ⊢
  rw[hv] at HC HLD
  clear hv
  by_cases hc:c=0
  ·subst hc
   rw[if_pos rfl]
   by_cases hi:i=0
   ·subst hi
    rw[if_pos rfl]
    go_enter Tryz.func145,Tryz.ntmps145
    (refine qw ?_;intros;rename_i hM)
    (refine qCB (HC.out _ hM.to_below) hM ?_;clear hM;intro w' hM)
    (refine qw ?_;intros;rename_i hM)
    (refine qCB (HLD.out _ hM.to_below) hM ?_;clear hM;intro w' hM)
    exact qwf
   ·have q1:(i==0)=false:=qne.2 hi
    rw[if_neg hi]
    clear hi
    go_enter Tryz.func145,Tryz.ntmps145
    (refine qw ?_;intros;rename_i hM)
    (refine qCB (HC.out _ hM.to_below) hM ?_;clear hM;intro w' hM)
    (refine qw ?_;intros;rename_i hM)
    (refine qCB (HLD.out _ hM.to_below) hM ?_;clear hM;intro w' hM)
    exact qwf
  ·have q1:(c != 0)=true:=bne_iff_ne.2 hc
   rw[if_neg hc]
   clear hc
   go_enter Tryz.func145,Tryz.ntmps145
   (refine qw ?_;intros;rename_i hM)
   (refine qCB (HC.out _ hM.to_below) hM ?_;clear hM;intro w' hM)
   exact qwf
end
end
section
open Go.RowKit Go.Maps
section
variable {w w' w0 w1 w2:World}{F G:List Nat}{L L' M M':List Ent}{zs:List NodV}{x:RX}{q nx:Int}
theorem St.backG(h:St w0 F w L)(hs:Swap L M M' L')(h':St w G w' M')(hG: ∀ k∈G,∃ r,(k,true,r)∈M)(hgr:Grow w (keysOf M) (keysOf M')):St w0 F w' L':=by
 obtain⟨A,B,rfl,rfl⟩:=hs.split
 have hnd:=h.nd
 simp only[List.map_append,List.nodup_append] at hnd
 obtain⟨n1,⟨n2,n3,n4⟩,n5⟩:=hnd
 have hGM: ∀ k∈G,k∈keysOf M:=fun k hk=>by
  obtain⟨r,hr⟩:=hG k hk
  exact List.mem_map_of_mem (f:=(·.1)) hr
 have hkeep: ∀ x,x∈A∨x∈B→x.1<w.heap.size∧x.1∉keysOf M:=fun x hx=>by
  refine⟨h.lt (by rcases hx with h|h<;> simp[h]),fun hm=> ?_⟩
  rcases hx with hx|hx
  ·exact n5 x.1 (List.mem_map_of_mem hx) x.1 (by rw[List.mem_append];exact .inl hm) rfl
  ·exact n4 x.1 hm x.1 (List.mem_map_of_mem hx) rfl
 refine⟨h.only.then h'.only (fun k hk=> ?_),fun x hx=> ?_, ?_,fun x hx hx1=> ?_⟩
 ·obtain⟨r,hr⟩:=hG k hk
  exact h.own (k,true,r) (by simp[hr]) rfl
 ·simp only[List.mem_append] at hx
  rcases hx with hx|hx|hx
  ·rw[h'.only.block x.1 (hkeep x (.inl hx)).1 (fun hm=>(hkeep x (.inl hx)).2 (hGM _ hm))]
   exact h.holds x (by simp[hx])
  ·exact h'.holds x hx
  ·rw[h'.only.block x.1 (hkeep x (.inr hx)).1 (fun hm=>(hkeep x (.inr hx)).2 (hGM _ hm))]
   exact h.holds x (by simp[hx])
 ·simp only[List.map_append,List.nodup_append]
  have hne: ∀ x,x∈A∨x∈B→ ∀ y∈M',x.1≠y.1:=fun x hx y hy e=>by
   rcases hgr y.1 (List.mem_map_of_mem hy) with h1|h1
   ·exact(hkeep x hx).2 (e▸h1)
   ·have:=(hkeep x hx).1
    omega
  refine⟨n1,⟨h'.nd,n3,fun a ha b hb=> ?_⟩,fun a ha b hb=> ?_⟩
  ·obtain⟨y,hy,rfl⟩:=List.mem_map.1 ha
   obtain⟨x,hx,rfl⟩:=List.mem_map.1 hb
   exact(hne x (.inr hx) y hy).symm
  ·obtain⟨x,hx,rfl⟩:=List.mem_map.1 ha
   rcases List.mem_append.1 hb with hb|hb
   ·obtain⟨y,hy,rfl⟩:=List.mem_map.1 hb
    exact hne x (.inl hx) y hy
   ·exact n5 x.1 (List.mem_map_of_mem hx) b (by rw[List.mem_append];exact .inr hb)
 ·simp only[List.mem_append] at hx
  rcases hx with hx|hx|hx
  ·exact h.own x (by simp[hx]) hx1
  ·rcases h'.own x hx hx1 with h1|h1
   ·obtain⟨r,hr⟩:=hG _ h1
    exact h.own (x.1,true,r) (by simp[hr]) rfl
   ·exact .inr (Nat.le_trans h.only.size h1)
  ·exact h.own x (by simp[hx]) hx1
theorem RRaw.of{y:RX}{q' nx':Int}(hA:At (rL y q' nx' zs) w)(sl:NodOK y.s zs)(names: ∀ z∈zs,SlOK z.2 z.1.names.length (entC z.1.names) 2)(len:zs.length≤1000000):RRaw y q' nx' zs w:=⟨hA,sl,names,len⟩
theorem RRaw.st(h:RRaw x q nx zs w):St w [x.g] w (rL x q nx zs):=by
 refine⟨Only.refl _ w,h.at_.has,h.at_.nd,fun y hy h1=> ?_⟩
 unfold rL at hy
 rcases List.mem_cons.1 hy with rfl|hy
 ·exact .inl (.head _)
 ·obtain⟨z,-,rfl⟩:=List.mem_map.1 hy
  cases h1
theorem RTo.mk'{g:Nat}{s:Option (Nat×Nat)}{K:List Nat}(h:RRaw ⟨g,s⟩ q nx zs w')(ho:Only [g] w0 w')(hg:Grow w0 K (keysOf (rL ⟨g,s⟩ q nx zs))):RTo g s q nx zs K w0 w':=by
 refine⟨h,⟨ho,h.at_.has,h.at_.nd,fun y hy h1=> ?_⟩,hg⟩
 unfold rL at hy
 rcases List.mem_cons.1 hy with rfl|hy
 ·exact .inl (.head _)
 ·obtain⟨z,-,rfl⟩:=List.mem_map.1 hy
  cases h1
theorem RTo.refl(h:RRaw x q nx zs w0):RTo x.g x.s q nx zs (keysOf (rL x q nx zs)) w0 w0:=RTo.mk' h (Only.refl _ _) (Grow.refl _ _)
theorem RTo.below{g:Nat}{s:Option (Nat×Nat)}{K:List Nat}(h:RTo g s q nx zs K w0 w)(hb:Below w.heap.size w w'):RTo g s q nx zs K w0 w':=
 RTo.mk' (h.raw.below hb) (h.st.only.below (hb.mono h.st.only.size)) h.grow
theorem RTo.trans{g:Nat}{s s':Option (Nat×Nat)}{K:List Nat}{q' nx':Int}{zs':List NodV}(h:RTo g s q nx zs K w0 w1)(h':RTo g s' q' nx' zs' (keysOf (rL ⟨g,s⟩ q nx zs)) w1 w2):RTo g s' q' nx' zs' K w0 w2:=
 RTo.mk' h'.raw (h.st.only.trans h'.st.only) (h.grow.trans h'.grow h.st.only.size)
theorem RTo.same(h:RRaw x q nx zs w0)(hb:Below w0.heap.size w0 w'):RTo x.g x.s q nx zs (keysOf (rL x q nx zs)) w0 w':=(RTo.refl h).below hb
def rLF(x:RX)(q nx:Int)(zs:List NodV):List Ent:=rE x q nx zs.length::(nodL x.s zs++(zs.flatMap NodV.ents).map unflag)
theorem keys_rLF:keysOf (rLF x q nx zs)=keysOf (rL x q nx zs):=by
 unfold rLF rL
 show x.g::keysOf _=x.g::keysOf _
 rw[keys_unflag,keys_app,keys_unflag,keys_app]
theorem At.unF(h:At (rLF x q nx zs) w):At (rL x q nx zs) w:=by
 refine⟨fun y hy=> ?_,by rw[←keys_rLF];exact h.nd⟩
 unfold rL at hy
 rcases List.mem_cons.1 hy with rfl|hy
 ·exact h.has _ (.head _)
 ·obtain⟨z,hz,rfl⟩:=List.mem_map.1 hy
  rcases List.mem_append.1 hz with hz|hz
  ·exact h.has z (.tail _ (List.mem_append_left _ hz))
  ·exact h.has (unflag z) (.tail _ (List.mem_append_right _ (List.mem_map_of_mem hz)))
theorem keys_rL:keysOf (rL x q nx zs)=x.g::(keysOf (nodL x.s zs)++keysOf (zs.flatMap NodV.ents)):=by
 unfold rL
 show x.g::keysOf _=_
 rw[keys_unflag,keys_app]
theorem RTo.fin{g:Nat}{s:Option (Nat×Nat)}{K:List Nat}(h:St w0 [g] w' (rLF ⟨g,s⟩ q nx zs))(hg:g∈K)(hgr:Grow w0 K (keysOf (zs.flatMap NodV.ents)))(sl:NodOK s zs)(names: ∀ z∈zs,SlOK z.2 z.1.names.length (entC z.1.names) 2)(len:zs.length≤1000000):RTo g s q nx zs K w0 w':=by
 refine RTo.mk' (RRaw.of (At.unF h.whole) sl names len) h.only fun k hk=> ?_
 rw[keys_rL] at hk
 rcases List.mem_cons.1 hk with rfl|hk
 ·exact .inl hg
 ·rcases List.mem_append.1 hk with hk|hk
  ·obtain⟨y,hy,rfl⟩:=List.mem_map.1 hk
   rcases h.own y (.tail _ (List.mem_append_left _ hy)) (slL_flag _ _ _ _ y hy) with h1|h1
   ·rcases List.mem_singleton.1 h1 with e
    exact .inl (e▸hg)
   ·exact .inr h1
  ·exact hgr k hk
theorem rputF_any(h:RRaw x q nx zs w0)(hid:Ids zs)(z0:NodV)(hz0:SlOK z0.2 z0.1.names.length (entC z0.1.names) 2)(hE:Has z0.ents w0)(h3: ∀ z∈zs,z.1.id≠z0.1.id→ ∀ k∈keysOf z.ents,k∉keysOf z0.ents)(hg:x.g∉keysOf z0.ents):
  Calls Tryz.prog 185 #[.pointer (some ⟨x.g,0,none⟩),.agg z0.cells.toArray] w0 fun e w'=>e= .returned (.tuple #[])∧ ∃ s',NodOK s' (rset zs z0)∧St w0 [x.g] w' (rLF ⟨x.g,s'⟩ q nx (rset zs z0))∧Grow w0 (keysOf (rL x q nx zs)++keysOf z0.ents) (keysOf ((rset zs z0).flatMap NodV.ents)):=by
 refine(rset_any h.set0 h.sl h.names h.len z0 hz0).mono ?_
 rintro e w' ⟨rfl,s',hok,hst⟩
 refine⟨rfl,s',hok, ?_,fun k hk=> ?_⟩
 ·have hap:=h.apart
  rw[keys_app] at hap
  have hA:At ((rset zs z0).flatMap NodV.ents) w0:=⟨fun y hy=>by
   obtain⟨z,hz,hy2⟩:=List.mem_flatMap.1 hy
   rcases mem_rset hz with e|⟨hz,-⟩
   ·rw[e] at hy2
    exact hE y hy2
   ·exact h.ents.has y (List.mem_flatMap.2 ⟨z,hz,hy2⟩),rset_nd h.ents.nd hid h3⟩
  have hj:=hst.join hA (fun k hk hm=>by
   rcases List.mem_singleton.1 hm with rfl
   obtain⟨z,hz,hk2⟩:=keys_mem hk
   rcases mem_rset hz with e|⟨hz,-⟩
   ·rw[e] at hk2
    exact hg hk2
   ·exact hap (List.mem_append_right _ (mem_keys hz hk2))) (fun y hy=>by
   rcases List.mem_cons.1 hy with rfl|hy
   ·rfl
   ·exact slL_flag _ _ _ _ y hy)
  exact hj
 ·obtain⟨z,hz,hk2⟩:=keys_mem hk
  rcases mem_rset hz with e|⟨hz,-⟩
  ·rw[e] at hk2
   exact .inl (List.mem_append_right _ hk2)
  ·refine .inl (List.mem_append_left _ ?_)
   rw[keys_rL]
   exact .tail _ (List.mem_append_right _ (mem_keys hz hk2))
theorem rputN_any{z0:NodV}(hA:At (z0.ents++rL x q nx zs) w0)(sl:NodOK x.s zs)(names: ∀ z∈zs,SlOK z.2 z.1.names.length (entC z.1.names) 2)(len:zs.length≤1000000)(hid:Ids zs)(hz0:SlOK z0.2 z0.1.names.length (entC z0.1.names) 2):
  Calls Tryz.prog 185 #[.pointer (some ⟨x.g,0,none⟩),.agg z0.cells.toArray] w0 fun e w'=>e= .returned (.tuple #[])∧ ∃ s',NodOK s' (rset zs z0)∧St w0 [x.g] w' (rLF ⟨x.g,s'⟩ q nx (rset zs z0))∧Grow w0 (keysOf (z0.ents++rL x q nx zs)) (keysOf ((rset zs z0).flatMap NodV.ents)):=by
 have hnd:=hA.nd
 rw[keys_app] at hnd
 obtain⟨-,-,n3⟩:=List.nodup_append.1 hnd
 have hR:RRaw x q nx zs w0:=RRaw.of (hA.sub (List.sublist_append_right _ _)) sl names len
 refine(rputF_any hR hid z0 hz0 (fun y hy=>hA.has y (List.mem_append_left _ hy)) (fun z hz _ k hk hm=>n3 k hm k ?_ rfl) (fun hm=>n3 _ hm _ ?_ rfl)).mono ?_
 ·rw[keys_rL]
  exact .tail _ (List.mem_append_right _ (mem_keys hz hk))
 ·rw[keys_rL]
  exact .head _
 ·rintro e w' ⟨rfl,s',a1,a2,a3⟩
  refine⟨rfl,s',a1,a2,fun k hk=> ?_⟩
  rcases a3 k hk with h1|h1
  ·left
   rw[keys_app]
   rcases List.mem_append.1 h1 with h1|h1
   ·exact List.mem_append_right _ h1
   ·exact List.mem_append_left _ h1
  ·exact .inr h1
theorem ents_apart: ∀ {zs:List NodV},(keysOf (zs.flatMap NodV.ents)).Nodup→Ids zs→ ∀ {z y:NodV},z∈zs→y∈zs→z.1.id≠y.1.id→ ∀ k∈keysOf z.ents,k∉keysOf y.ents
 |[],_,_,_,_,hz,_,_,_,_=>nomatch hz
 |a::r,h1,h2,z,y,hz,hy,hne,k,hk=>by
  rw[List.flatMap_cons,keys_app] at h1
  obtain⟨a1,a2,a3⟩:=List.nodup_append.1 h1
  obtain⟨b1,b2⟩:=List.pairwise_cons.1 h2
  intro hm
  rcases List.mem_cons.1 hz with e1|hz2
  ·rcases List.mem_cons.1 hy with e2|hy2
   ·exact hne (by rw[e1,e2])
   ·rw[e1] at hk
    exact a3 k hk k (mem_keys hy2 hm) rfl
  ·rcases List.mem_cons.1 hy with e2|hy2
   ·rw[e2] at hm
    exact a3 k hm k (mem_keys hz2 hk) rfl
   ·exact ents_apart a2 b2 hz2 hy2 hne k hk hm
theorem rputO_any(h:RRaw x q nx zs w0)(hid:Ids zs){z:NodV}(hz:z∈zs)(n:NodeD)(hi:n.id=z.1.id)(hn:n.names=z.1.names):
  Calls Tryz.prog 185 #[.pointer (some ⟨x.g,0,none⟩),.agg (NodV.cells (n,z.2)).toArray] w0 fun e w'=>e= .returned (.tuple #[])∧ ∃ s',NodOK s' (rset zs (n,z.2))∧St w0 [x.g] w' (rLF ⟨x.g,s'⟩ q nx (rset zs (n,z.2)))∧Grow w0 (keysOf (rL x q nx zs)) (keysOf ((rset zs (n,z.2)).flatMap NodV.ents)):=by
 have hents:NodV.ents (n,z.2)=z.ents:=by unfold NodV.ents;simp only[hn]
 refine(rputF_any h hid (n,z.2) (by simp only[hn];exact h.names z hz) (by rw[hents];exact fun y hy=>h.ents.has y (List.mem_flatMap.2 ⟨z,hz,hy⟩)) (fun y hy hne k hk=>by rw[hents];exact ents_apart h.ents.nd hid hy hz (by rw[←hi];exact hne) k hk) (by
  rw[hents]
  intro hm
  refine h.apart ?_
  rw[keys_app]
  exact List.mem_append_right _ (mem_keys hz hm))).mono ?_
 rintro e w' ⟨rfl,s',a1,a2,a3⟩
 refine⟨rfl,s',a1,a2,fun k hk=> ?_⟩
 rcases a3 k hk with h1|h1
 ·left
  rcases List.mem_append.1 h1 with h1|h1
  ·exact h1
  ·rw[hents] at h1
   rw[keys_rL]
   exact .tail _ (List.mem_append_right _ (mem_keys hz h1))
 ·exact .inr h1
structure RP (g:Nat) (s:Option (Nat×Nat)) (q nx:Int) (zs:List NodV) (K:List Nat) (w0:World):Prop where
 sl:NodOK s zs
 names: ∀ z∈zs,SlOK z.2 z.1.names.length (entC z.1.names) 2
 len:zs.length≤1000000
 grow:Grow w0 K (keysOf (rL ⟨g,s⟩ q nx zs))
section
variable {g:Nat}{s:Option (Nat×Nat)}{K:List Nat}{L':List Ent→List Ent}{L:List Ent}{z0:NodV}
theorem RP.start(h:RRaw x q nx zs w0):RP x.g x.s q nx zs (keysOf (rL x q nx zs)) w0:=⟨h.sl,h.names,h.len,Grow.refl _ _⟩
theorem RP.raw(h:RP g s q nx zs K w0)(hA:At (rL ⟨g,s⟩ q nx zs) w):RRaw ⟨g,s⟩ q nx zs w:=⟨hA,h.sl,h.names,h.len⟩
theorem RP.next(h:RP g s q nx zs K w0)(q' nx':Int):RP g s q' nx' zs K w0:=⟨h.sl,h.names,h.len,by have:=h.grow;rw[keys_rL] at this ⊢;exact this⟩
theorem RP.to(h:RP g s q nx zs K w0)(hA:At (rL ⟨g,s⟩ q nx zs) w)(ho:Only [g] w0 w):RTo g s q nx zs K w0 w:=RTo.mk' (h.raw hA) ho h.grow
theorem rputX_any(h:RP g s q nx zs K w0)(hM:St w0 [g] w L)(hs: ∀ M',Swap L (z0.ents++rL ⟨g,s⟩ q nx zs) M' (L' M'))(hid:Ids zs)(hz0:SlOK z0.2 z0.1.names.length (entC z0.1.names) 2):
  Calls Tryz.prog 185 #[.pointer (some ⟨g,0,none⟩),.agg z0.cells.toArray] w fun e w'=>e= .returned (.tuple #[])∧ ∃ s',St w0 [g] w' (L' (rLF ⟨g,s'⟩ q nx (rset zs z0)))∧RP g s' q nx (rset zs z0) K w0:=by
 obtain⟨A,B,hL,hL'⟩:=(hs []).split
 have hA:At (z0.ents++rL ⟨g,s⟩ q nx zs) w:=hM.part (by rw[hL];exact Part.past Part.here)
 have hfr: ∀ k∈keysOf z0.ents,w0.heap.size≤k:=fun k hk=>by
  obtain⟨y,hy,rfl⟩:=List.mem_map.1 hk
  rcases hM.own y (by rw[hL];simp[hy]) (slL_flag _ _ _ _ y hy) with h1|h1
  ·rcases List.mem_singleton.1 h1 with e
   have hnd:=hA.nd
   rw[keys_app] at hnd
   exact absurd e ((List.nodup_append.1 hnd).2.2 _ hk g (by rw[keys_rL];exact .head _))
  ·exact h1
 refine(rputN_any hA h.sl h.names h.len hid hz0).mono ?_
 rintro e w' ⟨rfl,s',a1,a2,a3⟩
 have hge: ∃ r,(g,true,r)∈z0.ents++rL ⟨g,s⟩ q nx zs:=⟨_,List.mem_append_right _ (by unfold rL rE;exact .head _)⟩
 have hgr:Grow w (keysOf (z0.ents++rL ⟨g,s⟩ q nx zs)) (keysOf (rLF ⟨g,s'⟩ q nx (rset zs z0))):=fun k hk=>by
  rw[keys_rLF,keys_rL] at hk
  rcases List.mem_cons.1 hk with rfl|hk
  ·left
   obtain⟨r,hr⟩:=hge
   exact List.mem_map_of_mem (f:=(·.1)) hr
  ·rcases List.mem_append.1 hk with hk|hk
   ·obtain⟨y,hy,rfl⟩:=List.mem_map.1 hk
    rcases a2.own y (.tail _ (List.mem_append_left _ hy)) (slL_flag _ _ _ _ y hy) with h1|h1
    ·rcases List.mem_singleton.1 h1 with e
     left
     obtain⟨r,hr⟩:=hge
     rw[show y.1=g from e]
     exact List.mem_map_of_mem (f:=(·.1)) hr
    ·exact .inr h1
   ·exact a3 k hk
 refine⟨rfl,s', ?_,a1,fun z hz=> ?_,Nat.le_trans (rset_len _ _) h.len,fun k hk=> ?_⟩
 ·exact hM.backG (hs _) a2 (fun k hk=>by rcases List.mem_singleton.1 hk with rfl;exact hge) hgr
 ·rcases mem_rset hz with rfl|⟨hz,-⟩
  ·exact hz0
  ·exact h.names z hz
 ·rw[←keys_rLF] at hk
  rcases hgr k hk with h1|h1
  ·rw[keys_app] at h1
   rcases List.mem_append.1 h1 with h1|h1
   ·exact .inr (hfr k h1)
   ·exact h.grow k h1
  ·exact .inr (Nat.le_trans hM.only.size h1)
theorem rputY_any(h:RP g s q nx zs K w0)(hM:St w0 [g] w L)(hs: ∀ M',Swap L (rL ⟨g,s⟩ q nx zs) M' (L' M'))(hid:Ids zs){z:NodV}(hz:z∈zs){n:NodeD}(hi:n.id=z.1.id)(hn:n.names=z.1.names):
  Calls Tryz.prog 185 #[.pointer (some ⟨g,0,none⟩),.agg (NodV.cells (n,z.2)).toArray] w fun e w'=>e= .returned (.tuple #[])∧ ∃ s',St w0 [g] w' (L' (rLF ⟨g,s'⟩ q nx (rset zs (n,z.2))))∧RP g s' q nx (rset zs (n,z.2)) K w0:=by
 obtain⟨A,B,hL,hL'⟩:=(hs []).split
 have hA:At (rL ⟨g,s⟩ q nx zs) w:=hM.part (by rw[hL];exact Part.past Part.here)
 refine(rputO_any (h.raw hA) hid hz n hi hn).mono ?_
 rintro e w' ⟨rfl,s',a1,a2,a3⟩
 have hge: ∃ r,(g,true,r)∈rL ⟨g,s⟩ q nx zs:=⟨_,by unfold rL rE;exact .head _⟩
 have hgr:Grow w (keysOf (rL ⟨g,s⟩ q nx zs)) (keysOf (rLF ⟨g,s'⟩ q nx (rset zs (n,z.2)))):=fun k hk=>by
  rw[keys_rLF,keys_rL] at hk
  rcases List.mem_cons.1 hk with rfl|hk
  ·left
   obtain⟨r,hr⟩:=hge
   exact List.mem_map_of_mem (f:=(·.1)) hr
  ·rcases List.mem_append.1 hk with hk|hk
   ·obtain⟨y,hy,rfl⟩:=List.mem_map.1 hk
    rcases a2.own y (.tail _ (List.mem_append_left _ hy)) (slL_flag _ _ _ _ y hy) with h1|h1
    ·rcases List.mem_singleton.1 h1 with e
     left
     obtain⟨r,hr⟩:=hge
     rw[show y.1=g from e]
     exact List.mem_map_of_mem (f:=(·.1)) hr
    ·exact .inr h1
   ·exact a3 k hk
 refine⟨rfl,s', ?_,a1,fun y hy=> ?_,Nat.le_trans (rset_len _ _) h.len,fun k hk=> ?_⟩
 ·exact hM.backG (hs _) a2 (fun k hk=>by rcases List.mem_singleton.1 hk with rfl;exact hge) hgr
 ·rcases mem_rset hy with rfl|⟨hy,-⟩
  ·simp only[hn]
   exact h.names z hz
  ·exact h.names y hy
 ·rw[←keys_rLF] at hk
  rcases hgr k hk with h1|h1
  ·exact h.grow k h1
  ·exact .inr (Nat.le_trans hM.only.size h1)
theorem St.unF(h:St w0 F w L)(hs:Swap L (rLF ⟨g,s⟩ q nx zs) (rL ⟨g,s⟩ q nx zs) M):St w0 F w M:=by
 obtain⟨A,B,rfl,rfl⟩:=hs.split
 have hA:At (rL ⟨g,s⟩ q nx zs) w:=At.unF (h.part (Part.past Part.here))
 refine⟨h.only,fun y hy=> ?_, ?_,fun y hy h1=> ?_⟩
 ·simp only[List.mem_append] at hy
  rcases hy with hy|hy|hy
  ·exact h.holds y (by simp[hy])
  ·exact hA.has y hy
  ·exact h.holds y (by simp[hy])
 ·have:=h.nd
  change (keysOf _).Nodup at this
  rw[keys_app,keys_app,keys_rLF] at this
  show(keysOf _).Nodup
  rw[keys_app,keys_app]
  exact this
 ·simp only[List.mem_append] at hy
  rcases hy with hy|hy|hy
  ·exact h.own y (by simp[hy]) h1
  ·unfold rL at hy
   rcases List.mem_cons.1 hy with rfl|hy
   ·exact h.own (rE ⟨g,s⟩ q nx zs.length) (by unfold rLF;simp) rfl
   ·obtain⟨z,-,rfl⟩:=List.mem_map.1 hy
    cases h1
  ·exact h.own y (by simp[hy]) h1
end
/-! ### as a plain table -/
theorem ids_rset(z0:NodV){zs:List NodV}(h:Ids zs):Ids (rset zs z0):=by
 induction zs with
 |nil=>exact List.Pairwise.nil
 |cons z r ih=>
  obtain⟨b1,b2⟩:=List.pairwise_cons.1 h
  have i2:=ih b2
  have hr:rset (z::r) z0=(if z.1.id=z0.1.id then(if 0<z0.1.links∨0<z0.1.holds then [z0] else []) else [z])++rset r z0:=by unfold rset;rw[List.flatMap_cons]
  rw[hr]
  by_cases he:z.1.id=z0.1.id
  ·rw[if_pos he]
   split
   ·refine List.pairwise_cons.2 ⟨fun y hy=> ?_,i2⟩
    rcases mem_rset hy with rfl|⟨hy,hne⟩
    ·exfalso
     rw[rset_far (fun y hy e=>b1 y hy (he.trans e.symm))] at hy
     exact b1 _ hy he
    ·exact fun e=>hne e.symm
   ·exact i2
  ·rw[if_neg he]
   refine List.pairwise_cons.2 ⟨fun y hy=> ?_,i2⟩
   rcases mem_rset hy with rfl|⟨hy,hne⟩
   ·exact he
   ·exact b1 y hy
def In.rput(l:List NodeD)(n:NodeD):List NodeD:=if 0<n.links∨0<n.holds then In.set l n else In.del l n.id
theorem rput_nodes(zs:List NodV)(z0:NodV):(rset zs z0).map (·.1)=In.rput (zs.map (·.1)) z0.1:=rset_nodes z0 zs
theorem rfind_map(id:Int): ∀ zs:List NodV,In.find (zs.map (·.1)) id=(rfind zs id).map (·.1)
 |[]=>rfl
 |z::r=>by
  have ih:=rfind_map id r
  unfold In.find rfind at ih ⊢
  rw[List.map_cons,List.find?_cons,List.find?_cons,ih]
  cases z.1.id==id<;> rfl
theorem rfind_mem{zs:List NodV}{id:Int}{z:NodV}(h:rfind zs id=some z):z∈zs∧z.1.id=id:=⟨List.mem_of_find?_eq_some h,by have:=List.find?_some h;simpa using this⟩
theorem ids_of{zs:List NodV}(h:In.asc (zs.map (·.1))):Ids zs:=by
 unfold In.asc at h
 rw[List.pairwise_map] at h
 exact h.imp fun h=>by omega
structure RIs (x:RX) (t:TabD) (zs:List NodV) (w:World):Prop where
 raw:RRaw x t.quota (t.last+1) zs w
 nodes:zs.map (·.1)=t.nodes
def RDid(x:RX)(t:TabD)(zs:List NodV)(t':TabD)(w w':World):Prop:= ∃ s' zs',zs'.map (·.1)=t'.nodes∧RTo x.g s' t'.quota (t'.last+1) zs' (keysOf (rL x t.quota (t.last+1) zs)) w w'
theorem RIs.below{t:TabD}(h:RIs x t zs w)(hb:Below w.heap.size w w'):RIs x t zs w':=⟨h.raw.below hb,h.nodes⟩
theorem RDid.same{t:TabD}(h:RIs x t zs w)(hb:Below w.heap.size w w'):RDid x t zs t w w':=⟨x.s,zs,h.nodes,RTo.same h.raw hb⟩
section
variable {t:TabD}{N:Nat}
theorem RIs.ids(h:RIs x t zs w)(I:In.Inv N t):Ids zs:=ids_of (by rw[h.nodes];exact I.asc)
theorem RIs.mem(h:RIs x t zs w){z:NodV}(hz:z∈zs):z.1∈t.nodes:=by rw[←h.nodes];exact List.mem_map_of_mem hz
theorem RIs.find(h:RIs x t zs w)(id:Int):In.find t.nodes id=(rfind zs id).map (·.1):=by rw[←h.nodes];exact rfind_map id zs
theorem names_le{l:List NodeD}{n:NodeD}(h:n∈l):n.names.length≤In.tot l:=In.le_sum (f:=fun n=>n.names.length) h
theorem RIs.nl(h:RIs x t zs w)(I:In.Inv N t)(hN:N≤900000): ∀ z∈zs,z.1.names.length≤1000000:=fun z hz=>by
 have:=names_le (h.mem hz)
 have:=I.tot
 omega
theorem RIs.dl(h:RIs x t zs w)(I:In.Inv N t): ∀ z∈zs,z.1.data.size≤1048576:=fun z hz=>I.data _ (h.mem hz)
theorem RIs.sum(h:RIs x t zs w)(I:In.Inv N t):((In.sum (zs.map (·.1)):Nat):Int)=t.used:=by rw[h.nodes,I.used]
end
end
end
section
open Go.RowKit Go.Maps
namespace In
theorem rput_alive{l:List NodeD}{n:NodeD}(h:0<n.links∨0<n.holds):rput l n=set l n:=by unfold rput;rw[if_pos h]
theorem rput_dead{l:List NodeD}{n:NodeD}(h:¬(0<n.links∨0<n.holds)):rput l n=del l n.id:=by unfold rput;rw[if_neg h]
theorem del_set(n:NodeD): ∀ l:List NodeD,del (set l n) n.id=del l n.id
 |[]=>rfl
 |m::r=>by
  have ih:=del_set n r
  unfold del set at ih ⊢
  rw[List.map_cons,List.filter_cons,List.filter_cons,ih]
  by_cases h:m.id=n.id
  ·simp[h]
  ·simp[h]
section
variable {t:TabD}{N:Nat}
theorem ins_with{δ:Int→Int}{x:Int}(I:InvD δ x N t){d:NodeD}(hd:d∈t.nodes){s:ByteArray}(hl:leads d.names s=0)(id:Int):ins (s,id) d.names=with_ d.names s id:=by
 have h1:=has_of_leads (pos_names I hd) hl
 unfold with_
 rw[without_none h1]
 refine ins_put fun p hp=> ?_
 cases hs:same p.1 s with
 |false=>rfl
 |true=>exact absurd ⟨p,hp,hs⟩ h1
theorem rput_with(I:Inv N t){dir:Int}{d:NodeD}(hd:find t.nodes dir=some d){s:ByteArray}(hl:leads d.names s=0)(id:Int):rput t.nodes (d.setNames (ins (s,id) d.names))=(nameIn t dir s id).nodes:=by
 rw[ins_with I (find_some hd).1 hl]
 have ha:=(I.alive d (find_some hd).1 (by have:=(I.pos d (find_some hd).1).1;omega)).1
 unfold nameIn
 rw[at_some hd]
 exact rput_alive ha
theorem rput_without(I:Inv N t){dir:Int}{d:NodeD}(hd:find t.nodes dir=some d)(s:ByteArray):rput t.nodes (d.setNames (without d.names s))=(nameOut t dir s).nodes:=by
 have ha:=(I.alive d (find_some hd).1 (by have:=(I.pos d (find_some hd).1).1;omega)).1
 unfold nameOut
 rw[at_some hd]
 exact rput_alive ha
theorem rput_links{dir:Int}{n:NodeD}(hn:find t.nodes dir=some n)(h0:0≤n.links):rput t.nodes (n.setLinks (n.links+1))=(linksUp t dir).nodes:=by
 unfold linksUp
 rw[at_some hn]
 exact rput_alive (.inl (show 0<n.links+1 by omega))
theorem rput_holds{dir:Int}{n:NodeD}(hn:find t.nodes dir=some n)(h0:0≤n.holds):rput t.nodes (n.setHolds (n.holds+1))=(holdsUp t dir).nodes:=by
 unfold holdsUp
 rw[at_some hn]
 exact rput_alive (.inr (show 0<n.holds+1 by omega))
theorem rput_gone{n:NodeD}{k:Int}{o:NodeD}(ho:find t.nodes k=some o)(hk:n.id=k)(hl:0≤n.links)(hh:0≤n.holds):rput t.nodes n=(gone (setN t n) k).nodes:=by
 have hf:find (setN t n).nodes k=some n:=by rw[find_turn ho hk,if_pos rfl]
 unfold gone
 rw[at_some hf]
 by_cases h:0<n.links∨0<n.holds
 ·rw[rput_alive h]
  have:(n.links==0&&n.holds==0)=false:=by
   rw[Bool.and_eq_false_iff]
   rcases h with h|h
   ·left;rw[beq_eq_false_iff_ne];omega
   ·right;rw[beq_eq_false_iff_ne];omega
  rw[this,if_neg nofun]
  rfl
 ·rw[rput_dead h]
  have:(n.links==0&&n.holds==0)=true:=by
   rw[Bool.and_eq_true,beq_iff_eq,beq_iff_eq]
   omega
  rw[this,if_pos rfl]
  show del t.nodes n.id=del (set t.nodes n) k
  rw[←hk,del_set]
theorem rput_loses(I:Inv N t){dir:Int}{d:NodeD}(hd:find t.nodes dir=some d){s:ByteArray}{k:Int}(hk:leads d.names s=k){n o:NodeD}(hn:find t.nodes k=some o)(hne:k≠dir)(hno:n=o.setLinks (o.links - 1))(hl:0≤n.links):rput (nameOut t dir s).nodes n=(loses t dir s).nodes:=by
 have om:=(find_some hn).1
 have hf:find (nameOut t dir s).nodes k=some o:=by rw[find_nameOut hd,if_neg hne];exact hn
 have hh:=(I.holds o om).1
 unfold loses linksDown
 rw[at_some hd,hk,at_some hf,←hno]
 exact rput_gone hf (by rw[hno];exact(find_some hn).2) hl (by rw[hno];exact hh)
theorem links_pos(I:Inv N t){dir:Int}{d:NodeD}(hd:find t.nodes dir=some d)(hdd:d.dir=true){s:ByteArray}(hl:leads d.names s≠0){o:NodeD}(ho:find t.nodes (leads d.names s)=some o)(hod:o.dir=false):1≤o.links:=by
 obtain⟨om,oi⟩:=find_some ho
 obtain⟨dm,di⟩:=find_some hd
 have h1:=I.links o om
 have h2:1≤cnt t.nodes o.id:=by
  have:cntN d.names o.id≤cnt t.nodes o.id:=le_sum (f:=fun n=>cntN n.names o.id) dm
  have h3:0<cntN d.names o.id:=by
   unfold cntN
   rw[List.countP_pos_iff]
   exact⟨_,leads_some hl,by simp[oi]⟩
  omega
 have h3:(0:Int)≤rootI o.id:=by unfold rootI;split<;> omega
 omega
theorem gone_q(id:Int):(gone t id).quota=t.quota∧(gone t id).last=t.last:=by unfold gone;split<;> exact⟨rfl,rfl⟩
theorem loses_q(dir:Int)(s:ByteArray):(loses t dir s).quota=t.quota∧(loses t dir s).last=t.last:=by
 unfold loses
 obtain⟨h1,h2⟩:=gone_q (t:=linksDown (nameOut t dir s) (leads (at_ t dir).names s)) (leads (at_ t dir).names s)
 exact⟨h1,h2⟩
end
end In
end
section
open Go.RowKit Go.Maps
namespace In
section
variable {t:TabD}
theorem placeE_none{dir:Int}{s:ByteArray}(h:find t.nodes dir=none):placeE t dir s=3:=by unfold placeE getE;rw[h];rfl
theorem placeE_some{dir:Int}{s:ByteArray}{d:NodeD}(h:find t.nodes dir=some d):placeE t dir s=if d.dir then(if isName s then 0 else 1) else 12:=by
 unfold placeE getE
 rw[h]
 cases hd:d.dir<;> simp[hd]
theorem make_none{dir:Int}{s:ByteArray}{b:Bool}(h:find t.nodes dir=none):make t dir s b=(0,3,t):=by
 unfold make makeE emptyE
 rw[placeE_none h]
 rfl
theorem make_bad{dir:Int}{s:ByteArray}{b:Bool}(h:placeE t dir s≠0):make t dir s b=(0,placeE t dir s,t):=by
 have q:(placeE t dir s==0)=false:=qne.2 h
 unfold make makeE emptyE
 simp[q]
theorem make_old{dir:Int}{s:ByteArray}{b:Bool}{d:NodeD}(hd:find t.nodes dir=some d)(h:placeE t dir s=0)(hl:leads d.names s≠0):make t dir s b=(0,4,t):=by
 have q:(leads d.names s==0)=false:=qne.2 hl
 unfold make makeE emptyE
 simp[h,at_some hd,q]
theorem make_full{dir:Int}{s:ByteArray}{b:Bool}{d:NodeD}(hd:find t.nodes dir=some d)(h:placeE t dir s=0)(hl:leads d.names s=0)(h2:4096≤t.nodes.length):make t dir s b=(0,5,t):=by
 have q:(4096:Int)≤(t.nodes.length:Int):=by omega
 unfold make makeE emptyE
 simp[h,at_some hd,hl,q]
theorem make_space{dir:Int}{s:ByteArray}{b:Bool}{d:NodeD}(hd:find t.nodes dir=some d)(h:placeE t dir s=0)(hl:leads d.names s=0)(h2:¬4096≤t.nodes.length)(h3:t.quota - t.used<64):make t dir s b=(0,6,t):=by
 have q:¬(4096:Int)≤(t.nodes.length:Int):=by omega
 unfold make makeE emptyE
 simp[h,at_some hd,hl,q,h3]
theorem make_yes{dir:Int}{s:ByteArray}{b:Bool}{d:NodeD}(hd:find t.nodes dir=some d)(h:placeE t dir s=0)(hl:leads d.names s=0)(h2:¬4096≤t.nodes.length)(h3:¬t.quota - t.used<64):make t dir s b=(t.last+1,0,makeT t dir s b):=by
 have q:¬(4096:Int)≤(t.nodes.length:Int):=by omega
 unfold make makeE emptyE
 simp[h,at_some hd,hl,q,h3]
end
end In
section
variable {w w' w0:World}{F:List Nat}{L M:List Ent}{zs:List NodV}{x:RX}{t:TabD}{N:Nat}{q nx:Int}
theorem rL_open{va:Option Addr}{vc:Nat}(hv:slV x.s zs.length= .slice va zs.length vc)(q nx:Int):rL x q nx zs=(x.g,true,.cells [.int .i64 q,.int .i64 nx,.slice va zs.length vc] 146)::(nodL x.s zs++zs.flatMap NodV.ents).map unflag:=by unfold rL rE;rw[hv]
theorem r_all{x:RX}{t:TabD}{zs:List NodV}{w0:World}(h:RIs x t zs w0): ∃ g xs va vc U,x=⟨g,xs⟩∧slV xs zs.length= .slice va zs.length vc∧(nodL xs zs++zs.flatMap NodV.ents).map unflag=U∧St w0 [g] w0 ((g,true,Res.cells [.int .i64 t.quota,.int .i64 (t.last+1),.slice va zs.length vc] 146)::U)∧Hid (RP g xs t.quota (t.last+1) zs (keysOf (rL ⟨g,xs⟩ t.quota (t.last+1) zs)) w0)∧
  Hid (∀ nx,rL ⟨g,xs⟩ t.quota nx zs=((g,true,Res.cells [.int .i64 t.quota,.int .i64 (nx),.slice va zs.length vc] 146)::U))∧Hid (∀ W:World,At ((g,true,Res.cells [.int .i64 t.quota,.int .i64 (t.last+1),.slice va zs.length vc] 146)::U) W→RIs ⟨g,xs⟩ t zs W)∧Hid (∀ W:World,At ((g,true,Res.cells [.int .i64 t.quota,.int .i64 (t.last+1),.slice va zs.length vc] 146)::U) W→Only [g] w0 W→RDid ⟨g,xs⟩ t zs t w0 W):=by
 obtain⟨g,xs⟩:=x
 obtain⟨va,vc,hv,-⟩:=slV_open h.raw.sl
 have HOP:=fun nx=>rL_open (x:=⟨g,xs⟩) (zs:=zs) hv t.quota nx
 have hM:St w0 [g] w0 (rL ⟨g,xs⟩ t.quota (t.last+1) zs):=h.raw.st
 have HRP:=RP.start h.raw
 rw[HOP] at hM
 exact⟨g,xs,va,vc,_,rfl,hv,rfl,hM,qh HRP,qh HOP,qh fun W hA=>⟨RRaw.of (by rw[HOP];exact hA) h.raw.sl h.raw.names h.raw.len,h.nodes⟩,qh fun W hA ho=>⟨xs,zs,h.nodes,HRP.to (by rw[HOP];exact hA) ho⟩⟩
theorem NodV.open{z:NodV}{wa:Option Addr}{wc:Nat}(h:slV z.2 z.1.names.length= .slice wa z.1.names.length wc):z.cells=[.int .i64 z.1.id,.bool z.1.dir,.int .i64 z.1.links,.int .i64 z.1.holds,.string z.1.data,.slice wa z.1.names.length wc]:=by unfold NodV.cells;rw[h]
theorem placeN_E(h:RIs x t zs w){dir:Int}{z:NodV}(hf:rfind zs dir=some z)(s:ByteArray):placeN z s=In.placeE t dir s:=by
 rw[In.placeE_some (d:=z.1) (by rw[h.find dir,hf];rfl)]
 rfl
theorem rMake_any(h:RIs x t zs w0)(I:In.Inv N t)(hN:N≤900000)(dir:Int)(s:ByteArray)(isDir:Bool)(hs:s.size≤1000000000):
  Calls Tryz.prog 141 #[.pointer (some ⟨x.g,0,none⟩),.int .i64 dir,.string s,.bool isDir] w0 fun e w'=>e= .returned (.tuple #[.int .i64 (In.make t dir s isDir).1,.int .i64 (In.make t dir s isDir).2.1])∧RDid x t zs (In.make t dir s isDir).2.2 w0 w':=by
 cases hf:rfind zs dir with
 |none=>
  have hM:=St.start w0 []
  have HC:=qh (fun (W:World) (hb:Below w0.heap.size w0 W)=>rplace_none (s:=s) (h.raw.below hb) hf)
  unfold nodZ at HC
  have HR:=qh (fun (W:World) (hb:Below w0.heap.size w0 W)=>RDid.same h hb)
  rw[In.make_none (by rw[h.find dir,hf];rfl)]
  clear h hf hs I
  simp only
  go_enter Tryz.func141,Tryz.ntmps141
  (refine qw ?_;intros;rename_i hM)
  (refine qCB (HC.out _ hM.to_below) hM ?_;clear hM;intro w' hM)
  (refine qw ?_;intros;rename_i hM)
  (refine qf ?_)
  exact⟨rfl,HR.out _ hM.to_below⟩
 |some z=>
  have hz:=(rfind_mem hf).1
  have hd:In.find t.nodes dir=some z.1:=by rw[h.find dir,hf];rfl
  (obtain⟨g,xs,va,vc,U,rfl,hv,hU,hM,HRP,HOP,HAT,HB⟩:=r_all h)
  obtain⟨wa,wc,hwv,-⟩:=slV_open (h.raw.names z hz)
  have HP:=qh (fun (W:World) (hA:At ((g,true,Res.cells [.int .i64 t.quota,.int .i64 (t.last+1),.slice va zs.length vc] 146)::U) W)=>rplace_some (s:=s) (HAT.out W hA).raw hs hf)
  have HLD:=qh (fun (W:World) (hA:At ((g,true,Res.cells [.int .i64 t.quota,.int .i64 (t.last+1),.slice va zs.length vc] 146)::U) W)=>rleads_any z ((HAT.out W hA).raw.nm (h.nl I hN) hz) s)
  have HWI:=qh (fun (W:World) (hA:At ((g,true,Res.cells [.int .i64 t.quota,.int .i64 (t.last+1+1),.slice va zs.length vc] 146)::U) W)=>rwith_any z (((HRP.out.next t.quota (t.last+1+1)).raw (by rw[HOP.out];exact hA)).nm (h.nl I hN) hz) s (t.last+1))
  have HUS:=qh (fun (W:World) (hA:At ((g,true,Res.cells [.int .i64 t.quota,.int .i64 (t.last+1),.slice va zs.length vc] 146)::U) W)=>rUsed_any (HAT.out W hA).raw (h.dl I))
  rw[h.sum I] at HUS
  rw[NodV.open hwv] at HP HLD HWI
  rw[placeN_E h hf s] at HP
  have hql:=I.q1
  have hq0:=I.q0
  have hlast:=I.last
  have hused:=I.cap
  have hu0:0≤t.used:=by rw[I.used];exact Int.natCast_nonneg _
  have hlen:=h.raw.len
  have HNL:=qh (show zs.length=t.nodes.length by rw[←h.nodes,List.length_map])
  (have HH:=qh h;have HI:=qh I;clear h I hv hU)
  generalize hc:In.placeE t dir s=c at HP
  generalize hi:In.leads z.1.names s=i at HLD
  go_enter Tryz.func141,Tryz.ntmps141
  (refine qw ?_;intros;rename_i hM)
  (refine qCB (HP.out _ (hM.part qpt)) hM ?_;clear hM;intro w' hM)
  (refine qw ?_;intros;rename_i hM)
  by_cases hc0:c=0
  ·subst hc0
   (refine qw ?_;intros;rename_i hM)
   (refine qCB (HLD.out _ (hM.part qpt)) hM ?_;clear hM;intro w' hM)
   have hip:i=0∨0<i:=by
    rw[←hi]
    by_cases h0:In.leads z.1.names s=0
    ·exact .inl h0
    ·right
     obtain⟨n,hn⟩:=HI.out.leads _ (In.find_some hd).1 _ (In.leads_some h0)
     obtain⟨n1,n2⟩:=In.find_some hn
     have:=(HI.out.pos n n1).1
     simp only at n2
     omega
   rcases hip with hi0|hi0
   ·subst hi0
    by_cases h4:4096≤zs.length
    ·have k4:(4096:Int)≤(zs.length:Int):=by omega
     have HE:=qh (In.make_full (b:=isDir) hd hc hi (by rw[←HNL.out];exact h4))
     clear hc hi h4
     (refine qw ?_;intros;rename_i hM)
     ((refine qf ?_);(rw[HE.out]);exact⟨rfl,HB.out _ (hM.part qpt) hM.only⟩)
    ·have k4:decide ((4096:Int)≤(zs.length:Int))=false:=decide_eq_false (by omega)
     have HL4:=qh (show zs.length<4096 by omega)
     have hw64:IntKind.i64.wrap (t.used+64)=t.used+64:=wrap_in _ (by omega)
     by_cases h6:t.quota - t.used<64
     ·have HE:=qh (In.make_space (b:=isDir) hd hc hi (by rw[←HNL.out];exact h4) h6)
      have k6:t.quota<t.used+64:=by omega
      clear hc hi h4 h6
      (refine qw ?_;intros;rename_i hM)
      (refine qCB (HUS.out _ (hM.part qpt)) hM ?_;clear hM;intro w' hM)
      (refine qw ?_;intros;rename_i hM)
      ((refine qf ?_);(rw[HE.out]);exact⟨rfl,HB.out _ (hM.part qpt) hM.only⟩)
     ·have HE:=qh (In.make_yes (b:=isDir) hd hc hi (by rw[←HNL.out];exact h4) h6)
      have k6:decide (t.quota<t.used+64)=false:=decide_eq_false (by omega)
      have hw1:IntKind.i64.wrap (t.last+1+1)=t.last+1+1:=wrap_in _ (by omega)
      have hi':=hi
      clear hc hi h4 h6
      (refine qw ?_;intros;rename_i hM)
      (refine qCB (HUS.out _ (hM.part qpt)) hM ?_;clear hM;intro w' hM)
      (refine qw ?_;intros;rename_i hM)
      (refine qK3 (fun R hR=> ?_))
      refine(HWI.out _ (hM.part qpt)).mono ?_
      rintro e w' ⟨p',rfl,hok,hst⟩;refine hR.out _ _ ?_;clear hR R
      replace hM:=hM.madeM hst (slL_flag _ _ _ _)
      clear hst
      rw[←HOP.out] at hM
      replace hM:=(St.perm hM List.perm_middle).forget
      (refine qq ?_)
      (refine qw ?_;intros;rename_i hM)
      (refine qK3 (fun R hR=> ?_))
      have hp:RP g xs t.quota (t.last+1+1) zs (keysOf (rL ⟨g,xs⟩ t.quota (t.last+1) zs)) w0:=HRP.out.next _ _
      refine(rputX_any hp hM qsf (HH.out.ids HI.out) hok).mono ?_
      rintro e w' ⟨rfl,s1,hM1,hp1⟩;refine hR.out _ _ ?_;clear hR R hM
      have hM:=hM1
      clear hM1
      obtain⟨vb,vd,hvb,-⟩:=slV_open hp1.sl
      have hl1:=rset_len ((z.1.setNames (ins (s,t.last+1) z.1.names),p'):NodV) zs
      have HNO:=qh (rput_nodes zs ((z.1.setNames (ins (s,t.last+1) z.1.names),p'):NodV))
      unfold rLF rE at hM
      simp only at hM
      rw[hvb] at hM
      generalize rset zs ((z.1.setNames (ins (s,t.last+1) z.1.names),p'):NodV)=zs1 at*
      (refine qq ?_)
      (refine qw ?_;intros;rename_i hM)
      rw[←hvb]
      refine St.append (s:=s1) (n:=zs1.length) (xs:=zs1.flatMap NodV.cells) rfl hM rfl rfl rfl rfl rfl (by kernel_rfl) qsf hp1.sl rfl (hM.news qm) rfl (by rw[maxLen_val];omega) (by omega) (fun h=>by cases h) ?_
      clear hM;intro w s2 hM hk2 _
      have e1:zs1.flatMap NodV.cells++[.int .i64 (t.last+1),.bool isDir,.int .i64 1,.int .i64 0,.string ⟨#[]⟩,.slice none 0 0]=(zs1++[((⟨t.last+1,isDir,1,0,ByteArray.empty,[]⟩,none):NodV)]).flatMap NodV.cells:=by rw[←nodC_snoc];rfl
      have e2:zs1.length+1=(zs1++[((⟨t.last+1,isDir,1,0,ByteArray.empty,[]⟩,none):NodV)]).length:=by simp
      have e3:(zs1++[((⟨t.last+1,isDir,1,0,ByteArray.empty,[]⟩,none):NodV)]).flatMap NodV.ents=zs1.flatMap NodV.ents:=by rw[List.flatMap_append,List.flatMap_singleton];exact List.append_nil _
      simp only[Res.known] at hM hk2
      rw[e1] at hM hk2
      rw[e2] at hk2
      rw[e2]
      have HP2:=qh (show ∀ y∈zs1++[((⟨t.last+1,isDir,1,0,ByteArray.empty,[]⟩,none):NodV)],SlOK y.2 y.1.names.length (entC y.1.names) 2 from fun y hy=>by
       rcases List.mem_append.1 hy with hy|hy
       ·exact hp1.names y hy
       ·rcases List.mem_singleton.1 hy with rfl
        exact⟨rfl,rfl⟩)
      have HL2:=qh (show(zs1++[((⟨t.last+1,isDir,1,0,ByteArray.empty,[]⟩,none):NodV)]).length≤1000000 by have:=HL4.out;rw[←e2];omega)
      have HN2:=qh (show(zs1++[((⟨t.last+1,isDir,1,0,ByteArray.empty,[]⟩,none):NodV)]).map (·.1)=(In.makeT t dir s isDir).nodes by
       rw[List.map_append,HNO.out,HH.out.nodes]
       show In.rput t.nodes (z.1.setNames (ins (s,t.last+1) z.1.names))++_=(In.nameIn t dir s (t.last+1)).nodes++_
       rw[In.rput_with HI.out hd hi']
       rfl)
      have HGR:=qh (show Grow w0 (keysOf (rL ⟨g,xs⟩ t.quota (t.last+1) zs)) (keysOf ((zs1++[((⟨t.last+1,isDir,1,0,ByteArray.empty,[]⟩,none):NodV)]).flatMap NodV.ents)) from fun k hk=>by
       rw[e3] at hk
       exact hp1.grow k (by rw[keys_rL];exact .tail _ (List.mem_append_right _ hk)))
      have HK2:=qh hk2
      have HE3:=qh e3
      clear e1 e2 e3 hk2
      generalize zs1++[((⟨t.last+1,isDir,1,0,ByteArray.empty,[]⟩,none):NodV)]=zs2 at*
      obtain⟨ub,ud,hu2,-⟩:=slV_open HK2.out
      rw[hu2]
      (refine qq ?_)
      (refine qw ?_;intros;rename_i hM)
      rename World=>w
      (refine qf ?_)
      rw[HE.out]
      refine⟨rfl,s2,zs2,HN2.out, ?_⟩
      have hM2:St w0 [g] w (rLF ⟨g,s2⟩ t.quota (t.last+1+1) zs2):=by
       unfold rLF rE
       simp only
       rw[hu2,HE3.out]
       exact hM.forget
      exact RTo.fin hM2 (by rw[keys_rL];exact .head _) HGR.out HK2.out HP2.out HL2.out
   ·have HE:=qh (In.make_old (b:=isDir) hd hc (by rw[hi];omega))
    (refine qw ?_;intros;rename_i hM)
    ((refine qf ?_);(rw[HE.out]);exact⟨rfl,HB.out _ (hM.part qpt) hM.only⟩)
  ·have q1:(c != 0)=true:=bne_iff_ne.2 hc0
   have HE:=qh (show In.make t dir s isDir=(0,c,t) by rw[In.make_bad (by rw[hc];exact hc0),hc])
   clear hc hc0
   rw[q1]
   (refine qw ?_;intros;rename_i hM)
   ((refine qf ?_);(rw[HE.out]);exact⟨rfl,HB.out _ (hM.part qpt) hM.only⟩)
end
end
section
open Go.RowKit Go.Maps
namespace In
section
variable {t:TabD}
theorem getE_none{id:Int}{b:Bool}(h:find t.nodes id=none):getE t id b=3:=by unfold getE;rw[h]
theorem getE_some{id:Int}{b:Bool}{n:NodeD}(h:find t.nodes id=some n):getE t id b=if n.dir==b then 0 else 12:=by unfold getE;rw[h]
theorem emptyE_bad{dir:Int}{s:ByteArray}(h:placeE t dir s≠0):emptyE t dir s=placeE t dir s:=by
 have q:(placeE t dir s==0)=false:=qne.2 h
 unfold emptyE
 rw[q]
 rfl
theorem emptyE_at{dir:Int}{s:ByteArray}{d:NodeD}(hd:find t.nodes dir=some d)(h:placeE t dir s=0):emptyE t dir s=if leads d.names s=0 then 0 else 4:=by
 unfold emptyE
 rw[h,at_some hd]
 by_cases hl:leads d.names s=0
 ·rw[hl];rfl
 ·rw[if_neg hl,qne.2 hl];rfl
theorem link_bad{id dir:Int}{s:ByteArray}{e:Int}(he:e≠0)(h:linkE t id dir s=e):link t id dir s=(e,t):=by
 unfold link
 rw[h,qne.2 he]
 rfl
theorem link_yes{id dir:Int}{s:ByteArray}(h:linkE t id dir s=0):link t id dir s=(0,linkT t id dir s):=by
 unfold link
 rw[h]
 rfl
theorem linkE_file{id dir:Int}{s:ByteArray}{n:NodeD}(hn:find t.nodes id=some n)(hd:n.dir=false):linkE t id dir s=emptyE t dir s:=by
 unfold linkE
 rw[getE_some hn,hd]
 rfl
end
end In
section
variable {w w' w0:World}{F:List Nat}{L M:List Ent}{zs:List NodV}{x:RX}{t:TabD}{N:Nat}{q nx:Int}
theorem rget_none(h:RRaw x q nx zs w0){id:Int}(hf:rfind zs id=none):An 182 #[.pointer (some ⟨x.g,0,none⟩),.int .i64 id] w0 (.tuple #[nodZ,.bool false]):=by
 have C:=rget_any h id
 rw[show(zs.find? fun z=>z.1.id==id)=none from hf] at C
 exact C
theorem rget_some(h:RRaw x q nx zs w0){id:Int}{z:NodV}(hf:rfind zs id=some z):An 182 #[.pointer (some ⟨x.g,0,none⟩),.int .i64 id] w0 (.tuple #[.agg z.cells.toArray,.bool true]):=by
 have C:=rget_any h id
 rw[show(zs.find? fun z=>z.1.id==id)=some z from hf] at C
 exact C
theorem St.rot{F:List Nat}{L M:List Ent}{e:Ent}(h:St w0 F w (M++(e::L))):St w0 F w (e::(M++L)):=h.perm List.perm_middle
theorem St.rot2{F:List Nat}{L M:List Ent}{e f:Ent}(h:St w0 F w (f::(M++(e::L)))):St w0 F w (f::e::(M++L)):=h.perm (List.perm_middle.cons f)
theorem St.rot3{F:List Nat}{L M:List Ent}{e f k:Ent}(h:St w0 F w (k::f::(M++(e::L)))):St w0 F w (k::f::e::(M++L)):=h.perm ((List.perm_middle.cons f).cons k)
theorem RIs.lead{dir:Int}{d:NodeD}{s:ByteArray}(I:In.Inv N t)(hd:In.find t.nodes dir=some d):In.leads d.names s=0∨0<In.leads d.names s:=by
 by_cases h0:In.leads d.names s=0
 ·exact .inl h0
 ·right
  obtain⟨n,hn⟩:=I.leads _ (In.find_some hd).1 _ (In.leads_some h0)
  obtain⟨n1,n2⟩:=In.find_some hn
  have:=(I.pos n n1).1
  simp only at n2
  omega
theorem rset_keep{z z0:NodV}(hz:z∈zs)(hne:z.1.id≠z0.1.id):z∈rset zs z0:=by
 unfold rset
 refine List.mem_flatMap.2 ⟨z,hz, ?_⟩
 rw[if_neg hne]
 exact .head _
theorem rLink_any(h:RIs x t zs w0)(I:In.Inv N t)(hN:N≤900000)(id dir:Int)(s:ByteArray)(hs:s.size≤1000000000):
  Calls Tryz.prog 189 #[.pointer (some ⟨x.g,0,none⟩),.int .i64 id,.int .i64 dir,.string s] w0 fun e w'=>e= .returned (.int .i64 (In.link t id dir s).1)∧RDid x t zs (In.link t id dir s).2 w0 w':=by
 cases hf:rfind zs id with
 |none=>
  have hM:=St.start w0 []
  have HC:=qh (fun (W:World) (hb:Below w0.heap.size w0 W)=>rget_none (h.raw.below hb) hf)
  unfold nodZ at HC
  have HR:=qh (fun (W:World) (hb:Below w0.heap.size w0 W)=>RDid.same h hb)
  rw[In.link_bad (e:=3) (by decide) (by unfold In.linkE;rw[In.getE_none (by rw[h.find id,hf];rfl)];rfl)]
  clear h hf hs I
  simp only
  go_enter Tryz.func189,Tryz.ntmps189
  (refine qw ?_;intros;rename_i hM)
  (refine qCB (HC.out _ hM.to_below) hM ?_;clear hM;intro w' hM)
  (refine qw ?_;intros;rename_i hM)
  (refine qf ?_)
  exact⟨rfl,HR.out _ hM.to_below⟩
 |some y=>
  have hy:=(rfind_mem hf).1
  have hn:In.find t.nodes id=some y.1:=by rw[h.find id,hf];rfl
  (obtain⟨g,xs,va,vc,U,rfl,hv,hU,hM,HRP,HOP,HAT,HB⟩:=r_all h)
  obtain⟨ya,yc,hyv,-⟩:=slV_open (h.raw.names y hy)
  have HG:=qh (fun (W:World) (hA:At ((g,true,Res.cells [.int .i64 t.quota,.int .i64 (t.last+1),.slice va zs.length vc] 146)::U) W)=>rget_some (HAT.out W hA).raw hf)
  rw[NodV.open hyv] at HG
  cases hyd:y.1.dir with
  |true=>
   have HE:=qh (In.link_bad (t:=t) (id:=id) (dir:=dir) (s:=s) (e:=12) (by decide) (by unfold In.linkE;rw[In.getE_some hn,hyd];rfl))
   rw[hyd] at HG
   (have HH:=qh h;have HI:=qh I;clear h I hv hU)
   go_enter Tryz.func189,Tryz.ntmps189
   (refine qw ?_;intros;rename_i hM)
   (refine qCB (HG.out _ (hM.part qpt)) hM ?_;clear hM;intro w' hM)
   (refine qw ?_;intros;rename_i hM)
   ((refine qf ?_);(rw[HE.out]);exact⟨rfl,HB.out _ (hM.part qpt) hM.only⟩)
  |false=>
   rw[hyd] at HG
   cases hfd:rfind zs dir with
   |none=>
    have HE:=qh (In.link_bad (t:=t) (id:=id) (dir:=dir) (s:=s) (e:=3) (by decide) (by rw[In.linkE_file hn hyd,In.emptyE_bad (by rw[In.placeE_none (by rw[h.find dir,hfd];rfl)];decide),In.placeE_none (by rw[h.find dir,hfd];rfl)]))
    have HP:=qh (fun (W:World) (hA:At ((g,true,Res.cells [.int .i64 t.quota,.int .i64 (t.last+1),.slice va zs.length vc] 146)::U) W)=>rplace_none (s:=s) (HAT.out W hA).raw hfd)
    unfold nodZ at HP
    (have HH:=qh h;have HI:=qh I;clear h I hv hU)
    go_enter Tryz.func189,Tryz.ntmps189
    (refine qw ?_;intros;rename_i hM)
    (refine qCB (HG.out _ (hM.part qpt)) hM ?_;clear hM;intro w' hM)
    (refine qw ?_;intros;rename_i hM)
    (refine qCB (HP.out _ (hM.part qpt)) hM ?_;clear hM;intro w' hM)
    (refine qw ?_;intros;rename_i hM)
    ((refine qf ?_);(rw[HE.out]);exact⟨rfl,HB.out _ (hM.part qpt) hM.only⟩)
   |some z=>
    have hz:=(rfind_mem hfd).1
    have hd:In.find t.nodes dir=some z.1:=by rw[h.find dir,hfd];rfl
    obtain⟨wa,wc,hwv,-⟩:=slV_open (h.raw.names z hz)
    have HP:=qh (fun (W:World) (hA:At ((g,true,Res.cells [.int .i64 t.quota,.int .i64 (t.last+1),.slice va zs.length vc] 146)::U) W)=>rplace_some (s:=s) (HAT.out W hA).raw hs hfd)
    have HLD:=qh (fun (W:World) (hA:At ((g,true,Res.cells [.int .i64 t.quota,.int .i64 (t.last+1),.slice va zs.length vc] 146)::U) W)=>rleads_any z ((HAT.out W hA).raw.nm (h.nl I hN) hz) s)
    have HWI:=qh (fun (W:World) (hA:At ((g,true,Res.cells [.int .i64 t.quota,.int .i64 (t.last+1),.slice va zs.length vc] 146)::U) W)=>rwith_any z ((HAT.out W hA).raw.nm (h.nl I hN) hz) s id)
    rw[NodV.open hwv] at HP HLD HWI
    rw[placeN_E h hfd s] at HP
    have hyl:0≤y.1.links∧y.1.links≤4000000:=by
     have h1:=I.links y.1 (h.mem hy)
     have h2:=In.cnt_le t.nodes y.1.id
     have h3:=I.tot
     unfold In.rootI at h1
     split at h1<;> omega
    (have HH:=qh h;have HI:=qh I;clear h I hv hU)
    generalize hc:In.placeE t dir s=c at HP
    generalize hi:In.leads z.1.names s=i at HLD
    go_enter Tryz.func189,Tryz.ntmps189
    (refine qw ?_;intros;rename_i hM)
    (refine qCB (HG.out _ (hM.part qpt)) hM ?_;clear hM;intro w' hM)
    (refine qw ?_;intros;rename_i hM)
    (refine qCB (HP.out _ (hM.part qpt)) hM ?_;clear hM;intro w' hM)
    (refine qw ?_;intros;rename_i hM)
    by_cases hc0:c=0
    ·subst hc0
     (refine qw ?_;intros;rename_i hM)
     (refine qCB (HLD.out _ (hM.part qpt)) hM ?_;clear hM;intro w' hM)
     have hip:i=0∨0<i:=by rw[←hi];exact RIs.lead HI.out hd
     rcases hip with hi0|hi0
     ·subst hi0
      have HE:=qh (In.link_yes (t:=t) (id:=id) (dir:=dir) (s:=s) (by rw[In.linkE_file hn hyd,In.emptyE_at hd hc,if_pos hi]))
      have hzd:z.1.dir=true:=by
       obtain⟨d,h1,h2,-⟩:=In.placeE_ok hc
       rw[hd] at h1
       cases h1
       exact h2
      have hne:id≠dir:=fun e=>by
       rw[e,hd] at hn
       rw[Option.some.inj hn,hyd] at hzd
       cases hzd
      have hw1:IntKind.i64.wrap (y.1.links+1)=y.1.links+1:=wrap_in _ (by omega)
      have HID:=qh (HH.out.ids HI.out)
      have HKP:=qh (fun p'=>rset_keep (z0:=((z.1.setNames (ins (s,id) z.1.names),p'):NodV)) hy (show y.1.id≠z.1.id by rw[(rfind_mem hf).2,(rfind_mem hfd).2];exact hne))
      have HNO:=qh (fun p'=>(show(rset (rset zs ((z.1.setNames (ins (s,id) z.1.names),p'):NodV)) ((y.1.setLinks (y.1.links+1),y.2):NodV)).map (·.1)=(In.linkT t id dir s).nodes by
       rw[rput_nodes,rput_nodes,HH.out.nodes]
       show In.rput (In.rput t.nodes (z.1.setNames (ins (s,id) z.1.names))) _=(In.linksUp (In.nameIn t dir s id) id).nodes
       rw[In.rput_with HI.out hd hi]
       exact In.rput_links (by rw[In.find_nameIn hd,if_neg hne];exact hn) hyl.1))
      have HYC:=qh (show NodV.cells (y.1.setLinks (y.1.links+1),y.2)=[.int .i64 y.1.id,.bool false,.int .i64 (y.1.links+1),.int .i64 y.1.holds,.string y.1.data,.slice ya y.1.names.length yc] by rw[NodV.open (z:=(y.1.setLinks (y.1.links+1),y.2)) hyv,←hyd];rfl)
      clear hc hi hyl hyd hzd hne hyv
      (refine qw ?_;intros;rename_i hM)
      (refine qK3 (fun R hR=> ?_))
      refine(HWI.out _ (hM.part qpt)).mono ?_
      rintro e w' ⟨p',rfl,hok,hst⟩;refine hR.out _ _ ?_;clear hR R
      replace hM:=hM.madeM hst (slL_flag _ _ _ _)
      clear hst
      rw[←HOP.out] at hM
      replace hM:=(St.rot hM).forget.rot
      (refine qq ?_)
      (refine qw ?_;intros;rename_i hM)
      (refine qK3 (fun R hR=> ?_))
      refine(rputX_any HRP.out hM qsf HID.out hok).mono ?_
      rintro e w' ⟨rfl,s1,hM1,hp1⟩;refine hR.out _ _ ?_;clear hR R hM
      have hM:=St.unF hM1 qsw
      clear hM1
      (refine qq ?_)
      (refine qw ?_;intros;rename_i hM)
      (refine qK3 (fun R hR=> ?_))
      have C:=rputY_any hp1 hM qsf (ids_rset _ HID.out) (HKP.out p') (n:=y.1.setLinks (y.1.links+1)) rfl rfl
      rw[HYC.out] at C
      refine C.mono ?_
      clear C
      rintro e w' ⟨rfl,s2,hM1,hp2⟩;refine hR.out _ _ ?_;clear hR R hM
      have hM:=hM1
      clear hM1
      (refine qq ?_)
      (refine qw ?_;intros;rename_i hM)
      (refine qf ?_)
      rw[HE.out]
      exact⟨rfl,s2,_,HNO.out p',hp2.to (At.unF (hM.part qpt)) hM.only⟩
     ·have HE:=qh (In.link_bad (t:=t) (id:=id) (dir:=dir) (s:=s) (e:=4) (by decide) (by rw[In.linkE_file hn hyd,In.emptyE_at hd hc,if_neg (by rw[hi];omega)]))
      (refine qw ?_;intros;rename_i hM)
      ((refine qf ?_);(rw[HE.out]);exact⟨rfl,HB.out _ (hM.part qpt) hM.only⟩)
    ·have q1:(c != 0)=true:=bne_iff_ne.2 hc0
     have HE:=qh (In.link_bad (t:=t) (id:=id) (dir:=dir) (s:=s) (e:=c) hc0 (by rw[In.linkE_file hn hyd,In.emptyE_bad (by rw[hc];exact hc0),hc]))
     clear hc hc0
     rw[q1]
     (refine qw ?_;intros;rename_i hM)
     ((refine qf ?_);(rw[HE.out]);exact⟨rfl,HB.out _ (hM.part qpt) hM.only⟩)
end
end
section
open Go.RowKit Go.Maps
section
variable {w w' w0:World}{F:List Nat}{L M:List Ent}{zs:List NodV}{x:RX}{t:TabD}{N:Nat}{q nx:Int}
theorem rfindR_E(h:RIs x t zs w)(dir:Int)(s:ByteArray):rfindR zs dir s=(In.findN t dir s,In.findE t dir s):=by
 unfold rfindR
 cases hf:rfind zs dir with
 |none=>
  have hd:In.find t.nodes dir=none:=by rw[h.find dir,hf];rfl
  have e:In.findE t dir s=3:=by unfold In.findE;rw[In.placeE_none hd];rfl
  unfold In.findN
  rw[e]
  rfl
 |some z=>
  have hd:In.find t.nodes dir=some z.1:=by rw[h.find dir,hf];rfl
  simp only
  rw[placeN_E h hf s]
  unfold In.findN In.findE
  rw[In.at_some hd]
  by_cases hc:In.placeE t dir s=0
  ·rw[hc,if_pos rfl]
   by_cases hl:In.leads z.1.names s=0
   ·rw[hl];rfl
   ·rw[if_neg hl,qne.2 hl];rfl
  ·rw[if_neg hc,qne.2 hc]
   simp[hc]
theorem rFindE_any(h:RIs x t zs w0)(I:In.Inv N t)(hN:N≤900000)(dir:Int)(s:ByteArray)(hs:s.size≤1000000000):An 145 #[.pointer (some ⟨x.g,0,none⟩),.int .i64 dir,.string s] w0 (.tuple #[.int .i64 (In.findN t dir s),.int .i64 (In.findE t dir s)]):=by
 have C:=rFind_any h.raw (h.nl I hN) (dir:=dir) hs
 rw[rfindR_E h dir s] at C
 exact C
theorem RIs.some(h:RIs x t zs w){id:Int}{n:NodeD}(hn:In.find t.nodes id=some n): ∃ y,rfind zs id=some y∧y.1=n:=by
 rw[h.find id] at hn
 cases hf:rfind zs id with
 |none=>rw[hf] at hn;cases hn
 |some y=>rw[hf] at hn;exact⟨y,rfl,Option.some.inj hn⟩
theorem unlink_bad{dir:Int}{s:ByteArray}{e:Int}(he:e≠0)(h:In.unlinkE t dir s=e):In.unlink t dir s=(e,t):=by
 unfold In.unlink
 rw[h,qne.2 he]
 rfl
theorem unlink_yes{dir:Int}{s:ByteArray}(h:In.unlinkE t dir s=0):In.unlink t dir s=(0,In.loses t dir s):=by
 unfold In.unlink
 rw[h]
 rfl
theorem unlinkE_find{dir:Int}{s:ByteArray}(h:In.findE t dir s=0):In.unlinkE t dir s=In.getE t (In.findN t dir s) false:=by
 unfold In.unlinkE
 rw[h]
 rfl
theorem unlinkE_bad{dir:Int}{s:ByteArray}(h:In.findE t dir s≠0):In.unlinkE t dir s=In.findE t dir s:=by
 unfold In.unlinkE
 rw[qne.2 h]
 rfl
theorem remove_bad{dir:Int}{s:ByteArray}{e:Int}(he:e≠0)(h:In.removeE t dir s=e):In.remove t dir s=(e,t):=by
 unfold In.remove
 rw[h,qne.2 he]
 rfl
theorem remove_yes{dir:Int}{s:ByteArray}(h:In.removeE t dir s=0):In.remove t dir s=(0,In.loses t dir s):=by
 unfold In.remove
 rw[h]
 rfl
theorem removeE_bad{dir:Int}{s:ByteArray}(h:In.findE t dir s≠0):In.removeE t dir s=In.findE t dir s:=by
 unfold In.removeE
 rw[qne.2 h]
 rfl
theorem removeE_find{dir:Int}{s:ByteArray}{n:NodeD}(h:In.findE t dir s=0)(hn:In.find t.nodes (In.findN t dir s)=some n):In.removeE t dir s=if n.dir then(if 0<n.names.length then 7 else 0) else 12:=by
 unfold In.removeE
 rw[h,In.getE_some hn,In.at_some hn]
 cases n.dir
 ·rfl
 ·by_cases hl:0<n.names.length
  ·simp[hl]
  ·simp[hl]
theorem rUnlink_any(h:RIs x t zs w0)(I:In.Inv N t)(hN:N≤900000)(dir:Int)(s:ByteArray)(hs:s.size≤1000000000):
  Calls Tryz.prog 143 #[.pointer (some ⟨x.g,0,none⟩),.int .i64 dir,.string s] w0 fun e w'=>e= .returned (.int .i64 (In.unlink t dir s).1)∧RDid x t zs (In.unlink t dir s).2 w0 w':=by
 by_cases hF:In.findE t dir s=0
 ·obtain⟨d,hd,hdd,hl,hfn⟩:=In.findE_ok hF
  obtain⟨n,hn⟩:=I.leads d (In.find_some hd).1 _ (In.leads_some hl)
  simp only at hn
  obtain⟨z,hfz,hzd⟩:=h.some hd
  obtain⟨y,hfy,hyn⟩:=h.some hn
  subst hzd hyn
  have hy:=(rfind_mem hfy).1
  have hz:=(rfind_mem hfz).1
  (obtain⟨g,xs,va,vc,U,rfl,hv,hU,hM,HRP,HOP,HAT,HB⟩:=r_all h)
  obtain⟨ya,yc,hyv,-⟩:=slV_open (h.raw.names y hy)
  obtain⟨wa,wc,hwv,-⟩:=slV_open (h.raw.names z hz)
  have HFI:=qh (fun (W:World) (hA:At ((g,true,Res.cells [.int .i64 t.quota,.int .i64 (t.last+1),.slice va zs.length vc] 146)::U) W)=>rFindE_any (HAT.out W hA) I hN dir s hs)
  have HG:=qh (fun (W:World) (hA:At ((g,true,Res.cells [.int .i64 t.quota,.int .i64 (t.last+1),.slice va zs.length vc] 146)::U) W)=>rget_some (HAT.out W hA).raw hfy)
  rw[hF,hfn] at HFI
  rw[NodV.open hyv] at HG
  cases hyd:y.1.dir with
  |true=>
   have HE:=qh (unlink_bad (t:=t) (dir:=dir) (s:=s) (e:=12) (by decide) (by rw[unlinkE_find hF,hfn,In.getE_some hn,hyd];rfl))
   rw[hyd] at HG
   generalize In.leads z.1.names s=k at*
   (have HH:=qh h;have HI:=qh I;clear h I hv hU)
   clear hF hd hdd hl hfn hn
   go_enter Tryz.func143,Tryz.ntmps143
   (refine qw ?_;intros;rename_i hM)
   (refine qCB (HFI.out _ (hM.part qpt)) hM ?_;clear hM;intro w' hM)
   (refine qw ?_;intros;rename_i hM)
   (refine qCB (HG.out _ (hM.part qpt)) hM ?_;clear hM;intro w' hM)
   (refine qw ?_;intros;rename_i hM)
   ((refine qf ?_);(rw[HE.out]);exact⟨rfl,HB.out _ (hM.part qpt) hM.only⟩)
  |false=>
   have HE:=qh (unlink_yes (t:=t) (dir:=dir) (s:=s) (by rw[unlinkE_find hF,hfn,In.getE_some hn,hyd];rfl))
   rw[hyd] at HG
   have hne:In.leads z.1.names s≠dir:=fun e=>by
    rw[e,hd] at hn
    rw[Option.some.inj hn,hyd] at hdd
    cases hdd
   have hy1:=In.links_pos I hd hdd hl hn hyd
   have hy2:y.1.links≤4000000:=by
    have h1:=I.links y.1 (h.mem hy)
    have h2:=In.cnt_le t.nodes y.1.id
    have h3:=I.tot
    unfold In.rootI at h1
    split at h1<;> omega
   have HD:=qh (fun (W:World) (hA:At ((g,true,Res.cells [.int .i64 t.quota,.int .i64 (t.last+1),.slice va zs.length vc] 146)::U) W)=>rget_some (HAT.out W hA).raw hfz)
   have HWO:=qh (fun (W:World) (hA:At ((g,true,Res.cells [.int .i64 t.quota,.int .i64 (t.last+1),.slice va zs.length vc] 146)::U) W)=>rwithout_any z ((HAT.out W hA).raw.nm (h.nl I hN) hz) s)
   rw[NodV.open hwv] at HD HWO
   have hw1:IntKind.i64.wrap (y.1.links - 1)=y.1.links - 1:=wrap_in _ (by omega)
   have HID:=qh (h.ids I)
   have HKP:=qh (fun p'=>rset_keep (z0:=((z.1.setNames (In.without z.1.names s),p'):NodV)) hy (show y.1.id≠z.1.id by rw[(rfind_mem hfy).2,(rfind_mem hfz).2];exact hne))
   have HNO:=qh (fun p'=>(show(rset (rset zs ((z.1.setNames (In.without z.1.names s),p'):NodV)) ((y.1.setLinks (y.1.links - 1),y.2):NodV)).map (·.1)=(In.loses t dir s).nodes by
    rw[rput_nodes,rput_nodes,h.nodes]
    show In.rput (In.rput t.nodes (z.1.setNames (In.without z.1.names s))) (y.1.setLinks (y.1.links - 1))=_
    rw[In.rput_without I hd s]
    exact In.rput_loses I hd rfl hn hne rfl (by show 0≤y.1.links - 1;omega)))
   have HYC:=qh (show NodV.cells (y.1.setLinks (y.1.links - 1),y.2)=[.int .i64 y.1.id,.bool false,.int .i64 (y.1.links - 1),.int .i64 y.1.holds,.string y.1.data,.slice ya y.1.names.length yc] by rw[NodV.open (z:=(y.1.setLinks (y.1.links - 1),y.2)) hyv,←hyd];rfl)
   (have HH:=qh h;have HI:=qh I;clear h I hv hU)
   generalize hk:In.leads z.1.names s=k at HFI HG
   clear hF hd hdd hl hfn hn hyd hne hy1 hy2 hyv hk
   go_enter Tryz.func143,Tryz.ntmps143
   (refine qw ?_;intros;rename_i hM)
   (refine qCB (HFI.out _ (hM.part qpt)) hM ?_;clear hM;intro w' hM)
   (refine qw ?_;intros;rename_i hM)
   (refine qCB (HG.out _ (hM.part qpt)) hM ?_;clear hM;intro w' hM)
   (refine qw ?_;intros;rename_i hM)
   (refine qCB (HD.out _ (hM.part qpt)) hM ?_;clear hM;intro w' hM)
   (refine qw ?_;intros;rename_i hM)
   (refine qK3 (fun R hR=> ?_))
   refine(HWO.out _ (hM.part qpt)).mono ?_
   rintro e w' ⟨p',rfl,hok,hst⟩;refine hR.out _ _ ?_;clear hR R
   replace hM:=hM.madeM hst (slL_flag _ _ _ _)
   clear hst
   rw[←HOP.out] at hM
   replace hM:=(St.rot hM).forget.rot
   (refine qq ?_)
   (refine qw ?_;intros;rename_i hM)
   (refine qK3 (fun R hR=> ?_))
   refine(rputX_any HRP.out hM qsf HID.out hok).mono ?_
   rintro e w' ⟨rfl,s1,hM1,hp1⟩;refine hR.out _ _ ?_;clear hR R hM
   have hM:=St.unF hM1 qsw
   clear hM1
   (refine qq ?_)
   (refine qw ?_;intros;rename_i hM)
   (refine qK3 (fun R hR=> ?_))
   have C:=rputY_any hp1 hM qsf (ids_rset _ HID.out) (HKP.out p') (n:=y.1.setLinks (y.1.links - 1)) rfl rfl
   rw[HYC.out] at C
   refine C.mono ?_
   clear C
   rintro e w' ⟨rfl,s2,hM1,hp2⟩;refine hR.out _ _ ?_;clear hR R hM
   have hM:=hM1
   clear hM1
   (refine qq ?_)
   (refine qw ?_;intros;rename_i hM)
   (refine qf ?_)
   rw[HE.out]
   refine⟨rfl,s2,_,HNO.out p', ?_⟩
   rw[(In.loses_q dir s).1,(In.loses_q dir s).2]
   exact hp2.to (At.unF (hM.part qpt)) hM.only
 ·(obtain⟨g,xs,va,vc,U,rfl,hv,hU,hM,HRP,HOP,HAT,HB⟩:=r_all h)
  have HFI:=qh (fun (W:World) (hA:At ((g,true,Res.cells [.int .i64 t.quota,.int .i64 (t.last+1),.slice va zs.length vc] 146)::U) W)=>rFindE_any (HAT.out W hA) I hN dir s hs)
  have HE:=qh (unlink_bad hF (unlinkE_bad hF))
  generalize In.findE t dir s=c at*
  generalize In.findN t dir s=k at*
  have q1:(c != 0)=true:=bne_iff_ne.2 hF
  (have HH:=qh h;have HI:=qh I;clear h I hv hU)
  clear hF
  go_enter Tryz.func143,Tryz.ntmps143
  (refine qw ?_;intros;rename_i hM)
  (refine qCB (HFI.out _ (hM.part qpt)) hM ?_;clear hM;intro w' hM)
  (refine qw ?_;intros;rename_i hM)
  ((refine qf ?_);(rw[HE.out]);exact⟨rfl,HB.out _ (hM.part qpt) hM.only⟩)
end
end
section
open Go.RowKit Go.Maps
section
variable {w w' w0:World}{F:List Nat}{L M:List Ent}{zs:List NodV}{x:RX}{t:TabD}{N:Nat}{q nx:Int}
theorem rRemove_any(h:RIs x t zs w0)(I:In.Inv N t)(hN:N≤900000)(dir:Int)(s:ByteArray)(hs:s.size≤1000000000):
  Calls Tryz.prog 142 #[.pointer (some ⟨x.g,0,none⟩),.int .i64 dir,.string s] w0 fun e w'=>e= .returned (.int .i64 (In.remove t dir s).1)∧RDid x t zs (In.remove t dir s).2 w0 w':=by
 by_cases hF:In.findE t dir s=0
 ·obtain⟨d,hd,hdd,hl,hfn⟩:=In.findE_ok hF
  obtain⟨n,hn⟩:=I.leads d (In.find_some hd).1 _ (In.leads_some hl)
  simp only at hn
  obtain⟨z,hfz,hzd⟩:=h.some hd
  obtain⟨y,hfy,hyn⟩:=h.some hn
  subst hzd hyn
  have hy:=(rfind_mem hfy).1
  have hz:=(rfind_mem hfz).1
  (obtain⟨g,xs,va,vc,U,rfl,hv,hU,hM,HRP,HOP,HAT,HB⟩:=r_all h)
  obtain⟨ya,yc,hyv,-⟩:=slV_open (h.raw.names y hy)
  obtain⟨wa,wc,hwv,-⟩:=slV_open (h.raw.names z hz)
  have HFI:=qh (fun (W:World) (hA:At ((g,true,Res.cells [.int .i64 t.quota,.int .i64 (t.last+1),.slice va zs.length vc] 146)::U) W)=>rFindE_any (HAT.out W hA) I hN dir s hs)
  have HG:=qh (fun (W:World) (hA:At ((g,true,Res.cells [.int .i64 t.quota,.int .i64 (t.last+1),.slice va zs.length vc] 146)::U) W)=>rget_some (HAT.out W hA).raw hfy)
  rw[hF,hfn] at HFI
  rw[NodV.open hyv] at HG
  cases hyd:y.1.dir with
  |false=>
   have HE:=qh (remove_bad (t:=t) (dir:=dir) (s:=s) (e:=12) (by decide) (by rw[removeE_find hF (by rw[hfn];exact hn),hyd];rfl))
   rw[hyd] at HG
   generalize In.leads z.1.names s=k at*
   (have HH:=qh h;have HI:=qh I;clear h I hv hU)
   clear hF hd hdd hl hfn hn
   go_enter Tryz.func142,Tryz.ntmps142
   (refine qw ?_;intros;rename_i hM)
   (refine qCB (HFI.out _ (hM.part qpt)) hM ?_;clear hM;intro w' hM)
   (refine qw ?_;intros;rename_i hM)
   (refine qCB (HG.out _ (hM.part qpt)) hM ?_;clear hM;intro w' hM)
   (refine qw ?_;intros;rename_i hM)
   ((refine qf ?_);(rw[HE.out]);exact⟨rfl,HB.out _ (hM.part qpt) hM.only⟩)
  |true=>
   rw[hyd] at HG
   by_cases hl0:0<y.1.names.length
   ·have HE:=qh (remove_bad (t:=t) (dir:=dir) (s:=s) (e:=7) (by decide) (by rw[removeE_find hF (by rw[hfn];exact hn),hyd,if_pos rfl,if_pos hl0]))
    have k7:0<y.1.names.length:=hl0
    generalize In.leads z.1.names s=k at*
    (have HH:=qh h;have HI:=qh I;clear h I hv hU)
    clear hF hd hdd hl hfn hn hl0
    go_enter Tryz.func142,Tryz.ntmps142
    (refine qw ?_;intros;rename_i hM)
    (refine qCB (HFI.out _ (hM.part qpt)) hM ?_;clear hM;intro w' hM)
    (refine qw ?_;intros;rename_i hM)
    (refine qCB (HG.out _ (hM.part qpt)) hM ?_;clear hM;intro w' hM)
    (refine qw ?_;intros;rename_i hM)
    ((refine qf ?_);(rw[HE.out]);exact⟨rfl,HB.out _ (hM.part qpt) hM.only⟩)
   ·have HE:=qh (remove_yes (t:=t) (dir:=dir) (s:=s) (by rw[removeE_find hF (by rw[hfn];exact hn),hyd,if_pos rfl,if_neg hl0]))
    have k7:decide (0<y.1.names.length)=false:=decide_eq_false (by omega)
    have hne:In.leads z.1.names s≠dir:=fun e=>by
     rw[e,hd] at hn
     have h1:=In.leads_some hl
     rw[Option.some.inj hn] at h1
     have:=List.length_pos_of_mem h1
     omega
    have hy1:y.1.links=1:=(I.alive y.1 (h.mem hy) (by have:=(I.pos y.1 (h.mem hy)).1;omega)).2 hyd
    have HD:=qh (fun (W:World) (hA:At ((g,true,Res.cells [.int .i64 t.quota,.int .i64 (t.last+1),.slice va zs.length vc] 146)::U) W)=>rget_some (HAT.out W hA).raw hfz)
    have HWO:=qh (fun (W:World) (hA:At ((g,true,Res.cells [.int .i64 t.quota,.int .i64 (t.last+1),.slice va zs.length vc] 146)::U) W)=>rwithout_any z ((HAT.out W hA).raw.nm (h.nl I hN) hz) s)
    rw[NodV.open hwv] at HD HWO
    have HID:=qh (h.ids I)
    have HKP:=qh (fun p'=>rset_keep (z0:=((z.1.setNames (In.without z.1.names s),p'):NodV)) hy (show y.1.id≠z.1.id by rw[(rfind_mem hfy).2,(rfind_mem hfz).2];exact hne))
    have HNO:=qh (fun p'=>(show(rset (rset zs ((z.1.setNames (In.without z.1.names s),p'):NodV)) ((y.1.setLinks 0,y.2):NodV)).map (·.1)=(In.loses t dir s).nodes by
     rw[rput_nodes,rput_nodes,h.nodes]
     show In.rput (In.rput t.nodes (z.1.setNames (In.without z.1.names s))) (y.1.setLinks 0)=_
     rw[In.rput_without I hd s]
     exact In.rput_loses I hd rfl hn hne (by rw[hy1];rfl) (by show(0:Int)≤0;omega)))
    have HYC:=qh (show NodV.cells (y.1.setLinks 0,y.2)=[.int .i64 y.1.id,.bool true,.int .i64 0,.int .i64 y.1.holds,.string y.1.data,.slice ya y.1.names.length yc] by rw[NodV.open (z:=(y.1.setLinks 0,y.2)) hyv,←hyd];rfl)
    (have HH:=qh h;have HI:=qh I;clear h I hv hU)
    generalize hk:In.leads z.1.names s=k at HFI HG
    clear hF hd hdd hl hfn hn hyd hne hy1 hyv hk hl0
    go_enter Tryz.func142,Tryz.ntmps142
    (refine qw ?_;intros;rename_i hM)
    (refine qCB (HFI.out _ (hM.part qpt)) hM ?_;clear hM;intro w' hM)
    (refine qw ?_;intros;rename_i hM)
    (refine qCB (HG.out _ (hM.part qpt)) hM ?_;clear hM;intro w' hM)
    (refine qw ?_;intros;rename_i hM)
    (refine qCB (HD.out _ (hM.part qpt)) hM ?_;clear hM;intro w' hM)
    (refine qw ?_;intros;rename_i hM)
    (refine qK3 (fun R hR=> ?_))
    refine(HWO.out _ (hM.part qpt)).mono ?_
    rintro e w' ⟨p',rfl,hok,hst⟩;refine hR.out _ _ ?_;clear hR R
    replace hM:=hM.madeM hst (slL_flag _ _ _ _)
    clear hst
    rw[←HOP.out] at hM
    replace hM:=(St.rot hM).forget.rot
    (refine qq ?_)
    (refine qw ?_;intros;rename_i hM)
    (refine qK3 (fun R hR=> ?_))
    refine(rputX_any HRP.out hM qsf HID.out hok).mono ?_
    rintro e w' ⟨rfl,s1,hM1,hp1⟩;refine hR.out _ _ ?_;clear hR R hM
    have hM:=St.unF hM1 qsw
    clear hM1
    (refine qq ?_)
    (refine qw ?_;intros;rename_i hM)
    (refine qK3 (fun R hR=> ?_))
    have C:=rputY_any hp1 hM qsf (ids_rset _ HID.out) (HKP.out p') (n:=y.1.setLinks 0) rfl rfl
    rw[HYC.out] at C
    refine C.mono ?_
    clear C
    rintro e w' ⟨rfl,s2,hM1,hp2⟩;refine hR.out _ _ ?_;clear hR R hM
    have hM:=hM1
    clear hM1
    (refine qq ?_)
    (refine qw ?_;intros;rename_i hM)
    (refine qf ?_)
    rw[HE.out]
    refine⟨rfl,s2,_,HNO.out p', ?_⟩
    rw[(In.loses_q dir s).1,(In.loses_q dir s).2]
    exact hp2.to (At.unF (hM.part qpt)) hM.only
 ·(obtain⟨g,xs,va,vc,U,rfl,hv,hU,hM,HRP,HOP,HAT,HB⟩:=r_all h)
  have HFI:=qh (fun (W:World) (hA:At ((g,true,Res.cells [.int .i64 t.quota,.int .i64 (t.last+1),.slice va zs.length vc] 146)::U) W)=>rFindE_any (HAT.out W hA) I hN dir s hs)
  have HE:=qh (remove_bad hF (removeE_bad hF))
  generalize In.findE t dir s=c at*
  generalize In.findN t dir s=k at*
  have q1:(c != 0)=true:=bne_iff_ne.2 hF
  (have HH:=qh h;have HI:=qh I;clear h I hv hU)
  clear hF
  go_enter Tryz.func142,Tryz.ntmps142
  (refine qw ?_;intros;rename_i hM)
  (refine qCB (HFI.out _ (hM.part qpt)) hM ?_;clear hM;intro w' hM)
  (refine qw ?_;intros;rename_i hM)
  ((refine qf ?_);(rw[HE.out]);exact⟨rfl,HB.out _ (hM.part qpt) hM.only⟩)
end
end
section
open Go.RowKit Go.Maps
theorem St.forget2{w0 w:World}{F:List Nat}{L:List Ent}{e f:Ent}(h:St w0 F w (e::f::L)):St w0 F w (e::L):=(h.perm (List.Perm.swap f e L)).forget
namespace In
section
variable {t:TabD}{N:Nat}
theorem rput_withD{δ:Int→Int}(I:InvD δ 0 N t){dir:Int}{d:NodeD}(hd:find t.nodes dir=some d){s:ByteArray}(hl:leads d.names s=0)(id:Int):rput t.nodes (d.setNames (ins (s,id) d.names))=(nameIn t dir s id).nodes:=by
 rw[ins_with I (find_some hd).1 hl]
 have ha:=(I.alive d (find_some hd).1 (by have:=(I.pos d (find_some hd).1).1;omega)).1
 unfold nameIn
 rw[at_some hd]
 exact rput_alive ha
theorem rename_end(I:Inv N t){dir tod:Int}{s as_:ByteArray}{d e:NodeD}(hd:find t.nodes dir=some d)(hdd:d.dir=true)(hl:leads d.names s≠0)(he:find t.nodes tod=some e)(hw:leads e.names as_=0)(k:Int): ∃ e3,find (nameOut t dir s).nodes tod=some e3∧e3.names.length≤N∧rput (nameOut t dir s).nodes (e3.setNames (ins (as_,k) e3.names))=(renameIn t dir s tod as_ k).nodes:=by
 have I3:=inv_nameOut I hd hdd hl (by have:=(I.pos d (find_some hd).1).1;omega)
 have hf:=find_nameOut hd s tod
 obtain⟨e3,h3,hl3⟩: ∃ e3,find (nameOut t dir s).nodes tod=some e3∧leads e3.names as_=0:=by
  by_cases hdt:tod=dir
  ·rw[if_pos hdt] at hf
   refine⟨_,hf, ?_⟩
   rw[hdt,hd] at he
   have hed:=Option.some.inj he
   have hsr:as_≠s:=fun e=>hl (by rw[←e,hed];exact hw)
   show leads (without d.names s) as_=0
   rw[leads_without_ne hsr,hed]
   exact hw
  ·rw[if_neg hdt] at hf
   exact⟨e,hf.trans he,hw⟩
 refine⟨e3,h3, ?_,rput_withD I3 h3 hl3 k⟩
 have:=names_le (find_some h3).1
 have:=I3.tot
 omega
theorem rename_mid(I:Inv N t){dir tod:Int}{s as_:ByteArray}{d e u:NodeD}(hd:find t.nodes dir=some d)(hdd:d.dir=true)(hl:leads d.names s≠0)(he:find t.nodes tod=some e)(hed:e.dir=true)(hne:leads e.names as_≠leads d.names s)(hwz:leads e.names as_≠0)(hu:find t.nodes (leads e.names as_)=some u)(hud:u.dir=false):
  ∃ d2 e2,find (loses t tod as_).nodes dir=some d2∧d2.dir=true∧leads d2.names s=leads d.names s∧find (loses t tod as_).nodes tod=some e2∧leads e2.names as_=0:=by
 have ndw: ∀ {x:Int} {m:NodeD},find t.nodes x=some m→m.dir=true→x≠leads e.names as_:=fun {x m} hm hmd hx=>by
  rw[hx,hu] at hm;rw[←Option.some.inj hm,hud] at hmd;cases hmd
 have fd:=find_loses he hu (ndw hd hdd)
 have fe:=find_loses he hu (ndw he hed)
 rw[if_pos rfl] at fe
 by_cases hdt:dir=tod
 ·rw[if_pos hdt] at fd
  refine⟨_,_,fd,hed, ?_,fe,leads_none (has_without _ _)⟩
  rw[hdt,he] at hd
  have hde:=Option.some.inj hd
  have hsr:s≠as_:=fun e=>hne (by rw[←e,hde])
  show leads (without e.names as_) s=_
  rw[leads_without_ne hsr,hde]
 ·rw[if_neg hdt] at fd
  exact⟨d,_,fd.trans hd,hdd,rfl,fe,leads_none (has_without _ _)⟩
theorem rename_bad{dir tod:Int}{s as_:ByteArray}{e:Int}(he:e≠0)(h:renameE t dir s tod as_=e):rename t dir s tod as_=(e,t):=by
 unfold rename
 rw[h,qne.2 he]
 rfl
theorem rename_yes{dir tod:Int}{s as_:ByteArray}(h:renameE t dir s tod as_=0):rename t dir s tod as_=(0,renameT t dir s tod as_):=by
 unfold rename
 rw[h]
 rfl
theorem renameE_un{dir tod:Int}{s as_:ByteArray}(h:unlinkE t dir s≠0):renameE t dir s tod as_=unlinkE t dir s:=by
 unfold renameE
 rw[qne.2 h]
 rfl
theorem renameE_place{dir tod:Int}{s as_:ByteArray}(h:unlinkE t dir s=0)(hp:placeE t tod as_≠0):renameE t dir s tod as_=placeE t tod as_:=by
 unfold renameE
 rw[h,qne.2 hp]
 rfl
theorem renameE_at{dir tod:Int}{s as_:ByteArray}{e:NodeD}(h:unlinkE t dir s=0)(hp:placeE t tod as_=0)(he:find t.nodes tod=some e):renameE t dir s tod as_=if leads e.names as_=findN t dir s then 0 else if leads e.names as_=0 then 0 else if(at_ t (leads e.names as_)).dir then 12 else 0:=by
 unfold renameE
 rw[h,hp,at_some he]
 by_cases h1:leads e.names as_=findN t dir s
 ·simp[h1]
 ·by_cases h2:leads e.names as_=0
  ·simp[h2]
  ·simp[h1,h2]
theorem renameT_at{dir tod:Int}{s as_:ByteArray}{e:NodeD}(he:find t.nodes tod=some e):renameT t dir s tod as_=if leads e.names as_=findN t dir s then t else if leads e.names as_=0 then renameIn t dir s tod as_ (findN t dir s) else renameIn (loses t tod as_) dir s tod as_ (findN t dir s):=by
 unfold renameT
 rw[at_some he]
 by_cases h1:leads e.names as_=findN t dir s
 ·simp[h1]
 ·by_cases h2:leads e.names as_=0
  ·simp[h2]
  ·simp[h1,h2]
end
end In
end
section
open Go.RowKit Go.Maps
section
variable {w w' w0:World}{F:List Nat}{L M:List Ent}{zs:List NodV}{x:RX}{t:TabD}{N:Nat}{q nx:Int}
theorem rfile_none(h:RRaw x q nx zs w0){id:Int}(a b:Int)(hf:rfind zs id=none):An 212 #[.pointer (some ⟨x.g,0,none⟩),.int .i64 id,.int .i64 a,.int .i64 b] w0 (.tuple #[nodZ,.int .i64 3]):=by
 have hM:=St.start w0 []
 have HC:=qh (fun (W:World) (hb:Below w0.heap.size w0 W)=>rget_none (h.below hb) hf)
 unfold nodZ at HC
 clear h hf
 go_enter Tryz.func212,Tryz.ntmps212
 (refine qw ?_;intros;rename_i hM)
 (refine qCB (HC.out _ hM.to_below) hM ?_;clear hM;intro w' hM)
 exact qwf
def fileN(z:NodV)(a b:Int):Int:=if z.1.dir then 12 else if a<0∨b<0 then 1 else 0
theorem rfile_some(h:RRaw x q nx zs w0){id:Int}(a b:Int){z:NodV}(hf:rfind zs id=some z):An 212 #[.pointer (some ⟨x.g,0,none⟩),.int .i64 id,.int .i64 a,.int .i64 b] w0 (.tuple #[.agg z.cells.toArray,.int .i64 (fileN z a b)]):=by
 have hM:=St.start w0 []
 have HC:=qh (fun (W:World) (hb:Below w0.heap.size w0 W)=>rget_some (h.below hb) hf)
 obtain⟨va,vc,hv,-⟩:=slV_open (h.names z (rfind_mem hf).1)
 clear h hf
 obtain⟨⟨zi,zd,zl,zh,zb,zn⟩,zp⟩:=z
 unfold NodV.cells at HC ⊢
 simp only at hv HC ⊢
 rw[hv] at HC ⊢
 clear hv
 unfold fileN
 simp only
 cases zd with
 |true=>
  go_enter Tryz.func212,Tryz.ntmps212
  (refine qw ?_;intros;rename_i hM)
  (refine qCB (HC.out _ hM.to_below) hM ?_;clear hM;intro w' hM)
  exact qwf
 |false=>
  by_cases h1:a<0
  ·rw[if_neg nofun,if_pos (.inl h1)]
   go_enter Tryz.func212,Tryz.ntmps212
   (refine qw ?_;intros;rename_i hM)
   (refine qCB (HC.out _ hM.to_below) hM ?_;clear hM;intro w' hM)
   exact qwf
  ·have q1:decide (a<0)=false:=decide_eq_false h1
   by_cases h2:b<0
   ·rw[if_neg nofun,if_pos (.inr h2)]
    clear h1
    go_enter Tryz.func212,Tryz.ntmps212
    (refine qw ?_;intros;rename_i hM)
    (refine qCB (HC.out _ hM.to_below) hM ?_;clear hM;intro w' hM)
    exact qwf
   ·have q2:decide (b<0)=false:=decide_eq_false h2
    rw[if_neg nofun,if_neg (fun h=>h.elim h1 h2)]
    clear h1 h2
    go_enter Tryz.func212,Tryz.ntmps212
    (refine qw ?_;intros;rename_i hM)
    (refine qCB (HC.out _ hM.to_below) hM ?_;clear hM;intro w' hM)
    exact qwf
theorem hold_bad{id:Int}{e:Int}(he:e≠0)(h:In.holdE t id=e):In.hold t id=(e,t):=by
 unfold In.hold
 rw[h,qne.2 he]
 rfl
theorem hold_yes{id:Int}(h:In.holdE t id=0):In.hold t id=(0,In.holdsUp t id):=by
 unfold In.hold
 rw[h]
 rfl
theorem holdE_at{id:Int}{n:NodeD}(hn:In.find t.nodes id=some n):In.holdE t id=if n.dir then 12 else if 1048576≤n.holds then 5 else 0:=by
 unfold In.holdE
 rw[In.getE_some hn,In.at_some hn]
 cases n.dir
 ·by_cases h:1048576≤n.holds
  ·simp[h]
  ·simp[h]
 ·rfl
theorem rHold_any(h:RIs x t zs w0)(I:In.Inv N t)(hN:N≤900000)(id:Int):
  Calls Tryz.prog 188 #[.pointer (some ⟨x.g,0,none⟩),.int .i64 id] w0 fun e w'=>e= .returned (.int .i64 (In.hold t id).1)∧RDid x t zs (In.hold t id).2 w0 w':=by
 cases hf:rfind zs id with
 |none=>
  have hM:=St.start w0 []
  have HC:=qh (fun (W:World) (hb:Below w0.heap.size w0 W)=>rfile_none (h.raw.below hb) 0 0 hf)
  unfold nodZ at HC
  have HR:=qh (fun (W:World) (hb:Below w0.heap.size w0 W)=>RDid.same h hb)
  rw[hold_bad (e:=3) (by decide) (by unfold In.holdE;rw[In.getE_none (by rw[h.find id,hf];rfl)];rfl)]
  clear h hf I
  simp only
  go_enter Tryz.func188,Tryz.ntmps188
  (refine qw ?_;intros;rename_i hM)
  (refine qCB (HC.out _ hM.to_below) hM ?_;clear hM;intro w' hM)
  (refine qw ?_;intros;rename_i hM)
  (refine qf ?_)
  exact⟨rfl,HR.out _ hM.to_below⟩
 |some y=>
  have hy:=(rfind_mem hf).1
  have hn:In.find t.nodes id=some y.1:=by rw[h.find id,hf];rfl
  (obtain⟨g,xs,va,vc,U,rfl,hv,hU,hM,HRP,HOP,HAT,HB⟩:=r_all h)
  obtain⟨ya,yc,hyv,-⟩:=slV_open (h.raw.names y hy)
  have HG:=qh (fun (W:World) (hA:At ((g,true,Res.cells [.int .i64 t.quota,.int .i64 (t.last+1),.slice va zs.length vc] 146)::U) W)=>rfile_some (HAT.out W hA).raw 0 0 hf)
  rw[NodV.open hyv] at HG
  unfold fileN at HG
  cases hyd:y.1.dir with
  |true=>
   have HE:=qh (hold_bad (t:=t) (id:=id) (e:=12) (by decide) (by rw[holdE_at hn,hyd];rfl))
   rw[hyd,if_pos rfl] at HG
   (have HH:=qh h;have HI:=qh I;clear h I hv hU)
   go_enter Tryz.func188,Tryz.ntmps188
   (refine qw ?_;intros;rename_i hM)
   (refine qCB (HG.out _ (hM.part qpt)) hM ?_;clear hM;intro w' hM)
   (refine qw ?_;intros;rename_i hM)
   ((refine qf ?_);(rw[HE.out]);exact⟨rfl,HB.out _ (hM.part qpt) hM.only⟩)
  |false=>
   rw[hyd,if_neg nofun,if_neg (by omega)] at HG
   have hh:=I.holds y.1 (h.mem hy)
   by_cases h5:1048576≤y.1.holds
   ·have HE:=qh (hold_bad (t:=t) (id:=id) (e:=5) (by decide) (by rw[holdE_at hn,hyd,if_neg nofun,if_pos h5]))
    (have HH:=qh h;have HI:=qh I;clear h I hv hU)
    go_enter Tryz.func188,Tryz.ntmps188
    (refine qw ?_;intros;rename_i hM)
    (refine qCB (HG.out _ (hM.part qpt)) hM ?_;clear hM;intro w' hM)
    (refine qw ?_;intros;rename_i hM)
    ((refine qf ?_);(rw[HE.out]);exact⟨rfl,HB.out _ (hM.part qpt) hM.only⟩)
   ·have HE:=qh (hold_yes (t:=t) (id:=id) (by rw[holdE_at hn,hyd,if_neg nofun,if_neg h5]))
    have k5:decide (1048576≤y.1.holds)=false:=decide_eq_false h5
    have hw1:IntKind.i64.wrap (y.1.holds+1)=y.1.holds+1:=wrap_in _ (by omega)
    have HID:=qh (h.ids I)
    have HNO:=qh (show(rset zs ((y.1.setHolds (y.1.holds+1),y.2):NodV)).map (·.1)=(In.holdsUp t id).nodes by
     rw[rput_nodes,h.nodes]
     exact In.rput_holds hn hh.1)
    have HYC:=qh (show NodV.cells (y.1.setHolds (y.1.holds+1),y.2)=[.int .i64 y.1.id,.bool false,.int .i64 y.1.links,.int .i64 (y.1.holds+1),.string y.1.data,.slice ya y.1.names.length yc] by rw[NodV.open (z:=(y.1.setHolds (y.1.holds+1),y.2)) hyv,←hyd];rfl)
    (have HH:=qh h;have HI:=qh I;clear h I hv hU)
    clear hyd hh h5 hyv
    go_enter Tryz.func188,Tryz.ntmps188
    (refine qw ?_;intros;rename_i hM)
    (refine qCB (HG.out _ (hM.part qpt)) hM ?_;clear hM;intro w' hM)
    (refine qw ?_;intros;rename_i hM)
    (refine qK3 (fun R hR=> ?_))
    rw[←HOP.out] at hM
    have C:=rputY_any HRP.out hM qsf HID.out hy (n:=y.1.setHolds (y.1.holds+1)) rfl rfl
    rw[HYC.out] at C
    refine C.mono ?_
    clear C
    rintro e w' ⟨rfl,s2,hM1,hp2⟩;refine hR.out _ _ ?_;clear hR R hM
    have hM:=hM1
    clear hM1
    (refine qq ?_)
    (refine qw ?_;intros;rename_i hM)
    (refine qf ?_)
    rw[HE.out]
    exact⟨rfl,s2,_,HNO.out,hp2.to (At.unF (hM.part qpt)) hM.only⟩
theorem drop_bad{id:Int}{e:Int}(he:e≠0)(h:In.dropE t id=e):In.drop t id=(e,t):=by
 unfold In.drop
 rw[h,qne.2 he]
 rfl
theorem drop_yes{id:Int}(h:In.dropE t id=0):In.drop t id=(0,In.gone (In.holdsDown t id) id):=by
 unfold In.drop
 rw[h]
 rfl
theorem dropE_at{id:Int}{n:NodeD}(hn:In.find t.nodes id=some n):In.dropE t id=if n.holds=0 then 1 else 0:=by
 unfold In.dropE
 rw[hn]
 by_cases h:n.holds=0
 ·simp[h]
 ·simp[h]
theorem rDrop_any(h:RIs x t zs w0)(I:In.Inv N t)(hN:N≤900000)(id:Int):
  Calls Tryz.prog 176 #[.pointer (some ⟨x.g,0,none⟩),.int .i64 id] w0 fun e w'=>e= .returned (.int .i64 (In.drop t id).1)∧RDid x t zs (In.drop t id).2 w0 w':=by
 cases hf:rfind zs id with
 |none=>
  have hM:=St.start w0 []
  have HC:=qh (fun (W:World) (hb:Below w0.heap.size w0 W)=>rget_none (h.raw.below hb) hf)
  unfold nodZ at HC
  have HR:=qh (fun (W:World) (hb:Below w0.heap.size w0 W)=>RDid.same h hb)
  rw[drop_bad (e:=3) (by decide) (by unfold In.dropE;rw[show In.find t.nodes id=none by rw[h.find id,hf];rfl])]
  clear h hf I
  simp only
  go_enter Tryz.func176,Tryz.ntmps176
  (refine qw ?_;intros;rename_i hM)
  (refine qCB (HC.out _ hM.to_below) hM ?_;clear hM;intro w' hM)
  (refine qw ?_;intros;rename_i hM)
  (refine qf ?_)
  exact⟨rfl,HR.out _ hM.to_below⟩
 |some y=>
  have hy:=(rfind_mem hf).1
  have hn:In.find t.nodes id=some y.1:=by rw[h.find id,hf];rfl
  (obtain⟨g,xs,va,vc,U,rfl,hv,hU,hM,HRP,HOP,HAT,HB⟩:=r_all h)
  obtain⟨ya,yc,hyv,-⟩:=slV_open (h.raw.names y hy)
  have HG:=qh (fun (W:World) (hA:At ((g,true,Res.cells [.int .i64 t.quota,.int .i64 (t.last+1),.slice va zs.length vc] 146)::U) W)=>rget_some (HAT.out W hA).raw hf)
  rw[NodV.open hyv] at HG
  have hh:=I.holds y.1 (h.mem hy)
  by_cases h0:y.1.holds=0
  ·have HE:=qh (drop_bad (t:=t) (id:=id) (e:=1) (by decide) (by rw[dropE_at hn,if_pos h0]))
   have k0:(y.1.holds==0)=true:=beq_iff_eq.2 h0
   (have HH:=qh h;have HI:=qh I;clear h I hv hU)
   clear h0 hh
   go_enter Tryz.func176,Tryz.ntmps176
   (refine qw ?_;intros;rename_i hM)
   (refine qCB (HG.out _ (hM.part qpt)) hM ?_;clear hM;intro w' hM)
   (refine qw ?_;intros;rename_i hM)
   ((refine qf ?_);(rw[HE.out]);exact⟨rfl,HB.out _ (hM.part qpt) hM.only⟩)
  ·have HE:=qh (drop_yes (t:=t) (id:=id) (by rw[dropE_at hn,if_neg h0]))
   have k0:(y.1.holds==0)=false:=qne.2 h0
   have hw1:IntKind.i64.wrap (y.1.holds - 1)=y.1.holds - 1:=wrap_in _ (by omega)
   have HID:=qh (h.ids I)
   have HNO:=qh (show(rset zs ((y.1.setHolds (y.1.holds - 1),y.2):NodV)).map (·.1)=(In.gone (In.holdsDown t id) id).nodes by
    rw[rput_nodes,h.nodes]
    show In.rput t.nodes (y.1.setHolds (y.1.holds - 1))=_
    unfold In.holdsDown
    rw[In.at_some hn]
    have hl:0≤y.1.links:=by
     have h1:=I.links y.1 (h.mem hy)
     unfold In.rootI at h1
     split at h1<;> omega
    exact In.rput_gone hn (In.find_some hn).2 hl (by show 0≤y.1.holds - 1;omega))
   have HYC:=qh (show NodV.cells (y.1.setHolds (y.1.holds - 1),y.2)=[.int .i64 y.1.id,.bool y.1.dir,.int .i64 y.1.links,.int .i64 (y.1.holds - 1),.string y.1.data,.slice ya y.1.names.length yc] by rw[NodV.open (z:=(y.1.setHolds (y.1.holds - 1),y.2)) hyv];rfl)
   (have HH:=qh h;have HI:=qh I;clear h I hv hU)
   clear hh h0 hyv
   go_enter Tryz.func176,Tryz.ntmps176
   (refine qw ?_;intros;rename_i hM)
   (refine qCB (HG.out _ (hM.part qpt)) hM ?_;clear hM;intro w' hM)
   (refine qw ?_;intros;rename_i hM)
   (refine qK3 (fun R hR=> ?_))
   rw[←HOP.out] at hM
   have C:=rputY_any HRP.out hM qsf HID.out hy (n:=y.1.setHolds (y.1.holds - 1)) rfl rfl
   rw[HYC.out] at C
   refine C.mono ?_
   clear C
   rintro e w' ⟨rfl,s2,hM1,hp2⟩;refine hR.out _ _ ?_;clear hR R hM
   have hM:=hM1
   clear hM1
   (refine qq ?_)
   (refine qw ?_;intros;rename_i hM)
   (refine qf ?_)
   rw[HE.out]
   refine⟨rfl,s2,_,HNO.out, ?_⟩
   rw[(In.gone_q (t:=In.holdsDown t id) id).1,(In.gone_q (t:=In.holdsDown t id) id).2]
   exact hp2.to (At.unF (hM.part qpt)) hM.only
end
end
theorem qH3{p q:Prop}(k:q)(h:Hd q→p:=by
 intro q1k
 first|refine qD (id:=3) hM (Sub.all _) [2,8] [(0,0),(1,0),(2,1),(3,0),(4,0),(5,0),(6,0),(7,0),(8,1),(9,2),(10,2),(11,2),(12,2)] ?_|fail
 exact q1k.out):p:=h ⟨k⟩
section
open Go.RowKit Go.Maps
section
variable {w w' w0:World}{F:List Nat}{L M:List Ent}{zs:List NodV}{x:RX}{t:TabD}{N:Nat}{q nx:Int}
theorem fileE_none{id n:Int}(h:In.find t.nodes id=none):In.fileE t id n=3:=by unfold In.fileE;rw[In.getE_none h];rfl
theorem fileE_at{id n:Int}{y:NodeD}(h:In.find t.nodes id=some y):In.fileE t id n=if y.dir then 12 else if n<0 then 1 else 0:=by
 unfold In.fileE
 rw[In.getE_some h]
 cases y.dir
 ·by_cases hn:n<0
  ·simp[hn]
  ·simp[hn]
 ·rfl
theorem fileN_E(h:RIs x t zs w){id a b:Int}{y:NodV}(hf:rfind zs id=some y):fileN y a b=In.fileE t id (min a b):=by
 rw[fileE_at (y:=y.1) (by rw[h.find id,hf];rfl)]
 unfold fileN
 have:(a<0∨b<0)↔min a b<0:=by omega
 simp only[this]
theorem fileN_E0(h:RIs x t zs w){id a:Int}{y:NodV}(hf:rfind zs id=some y):fileN y a 0=In.fileE t id a:=by
 rw[fileE_at (y:=y.1) (by rw[h.find id,hf];rfl)]
 unfold fileN
 have:(a<0∨(0:Int)<0)↔a<0:=by omega
 simp only[this]
theorem rRead_any(h:RIs x t zs w0)(I:In.Inv N t)(id a n:Int):
  An 179 #[.pointer (some ⟨x.g,0,none⟩),.int .i64 id,.int .i64 a,.int .i64 n] w0 (.tuple #[.string (In.read t id a n),.int .i64 (In.readE t id a n)]):=by
 have hM:=St.start w0 []
 unfold In.read In.readE
 cases hf:rfind zs id with
 |none=>
  have HC:=qh (fun (W:World) (hb:Below w0.heap.size w0 W)=>rfile_none (h.raw.below hb) a n hf)
  unfold nodZ at HC
  rw[fileE_none (by rw[h.find id,hf];rfl)]
  clear h hf I
  go_enter Tryz.func179,Tryz.ntmps179
  (refine qw ?_;intros;rename_i hM)
  (refine qCB (HC.out _ hM.to_below) hM ?_;clear hM;intro w' hM)
  exact qwf
 |some y=>
  have hy:=(rfind_mem hf).1
  have hn:In.find t.nodes id=some y.1:=by rw[h.find id,hf];rfl
  have HC:=qh (fun (W:World) (hb:Below w0.heap.size w0 W)=>rfile_some (h.raw.below hb) a n hf)
  rw[fileN_E h hf] at HC
  obtain⟨ya,yc,hyv,-⟩:=slV_open (h.raw.names y hy)
  rw[NodV.open hyv] at HC
  have hds:=h.dl I y hy
  by_cases hc:In.fileE t id (min a n)=0
  ·rw[hc] at HC ⊢
   rw[In.at_some hn]
   have hmn:0≤min a n:=by
    rw[fileE_at hn] at hc
    split at hc
    ·cases hc
    ·split at hc
     ·cases hc
     ·omega
   obtain⟨k,rfl⟩: ∃ k:Nat,a=k:=⟨a.toNat,by omega⟩
   obtain⟨m,rfl⟩: ∃ m:Nat,n=m:=⟨n.toNat,by omega⟩
   by_cases hge:y.1.data.size≤k
   ·have k1:y.1.data.size≤k:=hge
    have HP:=qh (show(if(0:Int)==0 then In.part y.1.data k m else ByteArray.empty)=⟨#[]⟩ by
     show In.part y.1.data k m=_
     unfold In.part
     rw[show min (k:Int).toNat y.1.data.size=y.1.data.size by omega,Nat.sub_self,Nat.min_zero,Nat.add_zero]
     refine Pt.ba_ext ?_
     rw[ByteArray.data_extract]
     simp)
    rw[HP.out]
    clear h hf I hn hc hmn hge hyv hy
    go_enter Tryz.func179,Tryz.ntmps179
    (refine qw ?_;intros;rename_i hM)
    (refine qCB (HC.out _ hM.to_below) hM ?_;clear hM;intro w' hM)
    exact qwf
   ·have k1:decide (y.1.data.size≤k)=false:=decide_eq_false hge
    obtain⟨l,hl⟩: ∃ l:Nat,y.1.data.size - k=l:=⟨_,rfl⟩
    obtain⟨r,hr⟩: ∃ r:Nat,min m l=r:=⟨_,rfl⟩
    obtain⟨e1,he1⟩: ∃ e1:Nat,k+r=e1:=⟨_,rfl⟩
    have hw1:IntKind.i64.wrap ((y.1.data.size:Int) - (k:Int))=(l:Int):=by rw[wrap_in _ (by omega)];omega
    have hw2:(if l<m then(l:Int) else(m:Int))=(r:Int):=by split<;> omega
    have hw3:IntKind.i64.wrap ((k:Int)+if l<m then(l:Int) else(m:Int))=(e1:Int):=by rw[hw2,wrap_in _ (by omega)];omega
    have hw4:IntKind.i64.wrap ((k:Int)+min (m:Int) (l:Int))=(e1:Int):=by rw[show min (m:Int) (l:Int)=(r:Int) by omega,wrap_in _ (by omega)];omega
    clear hw2
    have HLE:=qh (show k≤e1∧e1≤y.1.data.size by omega)
    have HP:=qh (show(if(0:Int)==0 then In.part y.1.data k m else ByteArray.empty)=y.1.data.extract k e1 by
     show In.part y.1.data k m=_
     unfold In.part
     rw[show min (k:Int).toNat y.1.data.size=k by omega,show(m:Int).toNat=m by omega,hl,hr,he1])
    rw[HP.out]
    clear h hf I hn hc hmn hge hyv hy hl hr he1
    go_enter Tryz.func179,Tryz.ntmps179
    (refine qw ?_;intros;rename_i hM)
    (refine qCB (HC.out _ hM.to_below) hM ?_;clear hM;intro w' hM)
    (refine qw ?_;intros;rename_i hM)
    refine St.strSub rfl rfl rfl rfl rfl rfl Tryz.underlying9 HLE.out.1 HLE.out.2 ?_
    (refine qq ?_)
    exact qwf
  ·have q1:(In.fileE t id (min a n) != 0)=true:=bne_iff_ne.2 hc
   rw[qne.2 hc,if_neg nofun]
   generalize In.fileE t id (min a n)=c at*
   clear h hf I hn hc hyv hy
   go_enter Tryz.func179,Tryz.ntmps179
   (refine qw ?_;intros;rename_i hM)
   (refine qCB (HC.out _ hM.to_below) hM ?_;clear hM;intro w' hM)
   exact qwf
theorem sizedE_at(n:Int)(y:NodeD):In.sizedE t y n=if 1048576<n then 5 else if t.quota - t.used<n - y.data.size then 6 else 0:=by
 unfold In.sizedE
 simp only[decide_eq_true_eq]
theorem rfits_any(h:RIs x t zs w0)(I:In.Inv N t){y:NodV}(hy:y∈zs)(n:Int)(hn0:0≤n):
  An 213 #[.pointer (some ⟨x.g,0,none⟩),.agg y.cells.toArray,.int .i64 n] w0 (.int .i64 (In.sizedE t y.1 n)):=by
 have hM:=St.start w0 []
 have hds:=h.dl I y hy
 have hrow:=h.raw.row
 have hu0:0≤t.used:=by rw[I.used];exact Int.natCast_nonneg _
 have hq1:=I.q1
 have hcap:=I.cap
 have HU:=qh (fun (W:World) (hb:Below w0.heap.size w0 W)=>(show Calls _ _ _ _ _ from (by have C:=rUsed_any (h.raw.below hb) (h.dl I);rw[h.sum I] at C;exact C)))
 obtain⟨xg,xs⟩:=x
 simp only at hrow HU ⊢
 have c0:w0.cell? ⟨xg,0,none⟩=some (.int .i64 t.quota):=hrow 0 _ rfl
 obtain⟨ya,yc,hyv,-⟩:=slV_open (h.raw.names y hy)
 rw[NodV.open hyv,sizedE_at]
 obtain⟨p,hp⟩: ∃ p,t.quota - t.used=p:=⟨_,rfl⟩
 have hw1:IntKind.i64.wrap (t.quota - t.used)=p:=by rw[wrap_in _ (by omega)];exact hp
 rw[hp]
 clear h I hrow hyv hy hp
 by_cases h5:1048576<n
 ·rw[if_pos h5]
  go_enter Tryz.func213,Tryz.ntmps213
  (repeat(first|(refine qW ?_;clear hM;intros;rename_i hM)|((refine qMk ?_);clear hM;intro w bk hM)|((refine qH3 ?_);clear hM;intro w hM Kr hKr)))
  exact qfb
 ·have k5:decide (1048576<n)=false:=decide_eq_false h5
  obtain⟨m,hm⟩: ∃ m,n - (y.1.data.size:Int)=m:=⟨_,rfl⟩
  have hw2:IntKind.i64.wrap (n - (y.1.data.size:Int))=m:=by rw[wrap_in _ (by omega)];exact hm
  rw[if_neg h5,hm]
  clear hm
  by_cases h6:p<m
  ·rw[if_pos h6]
   clear h5
   go_enter Tryz.func213,Tryz.ntmps213
   (repeat(first|(refine qW ?_;clear hM;intros;rename_i hM)|((refine qMk ?_);clear hM;intro w bk hM)|((refine qH3 ?_);clear hM;intro w hM Kr hKr)))
   (refine qCB (HU.out _ hM.to_below) hM ?_;clear hM;intro w' hM)
   (repeat(first|(refine qW ?_;clear hM;intros;rename_i hM)|((refine qMk ?_);clear hM;intro w bk hM)|((refine qH3 ?_);clear hM;intro w hM Kr hKr)))
   exact qfb
  ·rw[if_neg h6]
   have k6:decide (p<m)=false:=decide_eq_false h6
   clear h5 h6
   go_enter Tryz.func213,Tryz.ntmps213
   (repeat(first|(refine qW ?_;clear hM;intros;rename_i hM)|((refine qMk ?_);clear hM;intro w bk hM)|((refine qH3 ?_);clear hM;intro w hM Kr hKr)))
   (refine qCB (HU.out _ hM.to_below) hM ?_;clear hM;intro w' hM)
   (repeat(first|(refine qW ?_;clear hM;intros;rename_i hM)|((refine qMk ?_);clear hM;intro w bk hM)|((refine qH3 ?_);clear hM;intro w hM Kr hKr)))
   exact qfb
end
end
end Go.Proofs.YtcicjklhbnipcaaGreatDoor
