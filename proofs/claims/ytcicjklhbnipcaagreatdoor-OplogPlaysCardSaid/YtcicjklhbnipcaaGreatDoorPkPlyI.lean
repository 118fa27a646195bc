/-
  Laid texts.
-/
import Derived.Test.YtcicjklhbnipcaaGreatDoorPkPlyH
set_option maxHeartbeats 16000000
set_option maxRecDepth 1000000
set_option linter.unusedVariables false
set_option linter.unusedSimpArgs false
namespace Go.Proofs.YtcicjklhbnipcaaGreatDoor
section
namespace Pt
/-! ### bytes parted at slashes -/
def sp(s:List UInt8):List (List UInt8):=Lib.splitK [47] 0 (s.count 47) s
theorem index_cons(c:UInt8)(s:List UInt8):Lib.index (c::s) [47]=if c=47 then 0 else if Lib.index s [47]= -1 then -1 else Lib.index s [47]+1:=by
 rw[Lib.index]
 by_cases h:c=47
 ·subst h;simp[List.isPrefixOf]
 ·have:([47]:List UInt8).isPrefixOf (c::s)=false:=by simp[List.isPrefixOf,Ne.symm h]
  rw[this,if_neg h]
  simp[beq_iff_eq]
theorem splitK_ne{c:UInt8}(h:c≠47): ∀ (k:Nat) (s:List UInt8),Lib.splitK [47] 0 k (c::s)=match Lib.splitK [47] 0 k s with|[]=>[[c]]|x::r=>(c::x)::r
 |0,s=>rfl
 |k+1,s=>by
  unfold Lib.splitK
  rw[index_cons,if_neg h]
  by_cases hm:Lib.index s [47]= -1
  ·simp[hm]
  ·have hg:=Lib.index_ge s [47]
   obtain⟨j,hj⟩: ∃ j:Nat,Lib.index s [47]=j:=⟨(Lib.index s [47]).toNat,by omega⟩
   rw[if_neg hm,hj]
   rw[if_neg (by rw[beq_iff_eq];omega),if_neg (by rw[beq_iff_eq];omega)]
   have e1:((j:Int)+1).toNat=j+1:=by omega
   have e2:(j:Int).toNat=j:=by omega
   rw[e1,e2]
   simp
theorem sp_nil:sp []=[[]]:=rfl
theorem sp_slash(s:List UInt8):sp (47::s)=[]::sp s:=by
 unfold sp
 rw[show(47::s:List UInt8).count 47=s.count 47+1 by simp]
 rw[Lib.splitK,index_cons,if_pos rfl]
 simp
theorem sp_ne{c:UInt8}(h:c≠47)(s:List UInt8):sp (c::s)=match sp s with|[]=>[[c]]|x::r=>(c::x)::r:=by
 unfold sp
 rw[List.count_cons_of_ne (by simpa using h)]
 exact splitK_ne h _ s
theorem sp_some: ∀ s,∃ x r,sp s=x::r
 |[]=>⟨[],[],rfl⟩
 |c::s=>by
  by_cases h:c=47
  ·subst h;exact⟨[],sp s,sp_slash s⟩
  ·obtain⟨x,r,hx⟩:=sp_some s
   rw[sp_ne h,hx]
   exact⟨c::x,r,rfl⟩
theorem sp_mem: ∀ (s x:List UInt8),x∈sp s→(47:UInt8)∉x
 |[],x,hx=>by
  rw[sp_nil] at hx
  rcases List.mem_singleton.1 hx with rfl
  simp
 |c::s,x,hx=>by
  by_cases h:c=47
  ·subst h
   rw[sp_slash] at hx
   rcases List.mem_cons.1 hx with rfl|hx
   ·simp
   ·exact sp_mem s x hx
  ·obtain⟨y,r,hy⟩:=sp_some s
   rw[sp_ne h,hy] at hx
   rcases List.mem_cons.1 hx with rfl|hx
   ·have:=sp_mem s y (by rw[hy];exact .head _)
    simp only[List.mem_cons,not_or]
    exact⟨fun e=>h e.symm,this⟩
   ·exact sp_mem s x (by rw[hy];exact .tail _ hx)
theorem join_two(x y:List UInt8)(r:List (List UInt8)):Lib.join (x::y::r) [47]=x++47::Lib.join (y::r) [47]:=by
 rw[Lib.join_cons,Lib.join_cons]
 simp[Lib.joinTail]
theorem join_sp: ∀ s,Lib.join (sp s) [47]=s
 |[]=>rfl
 |c::s=>by
  obtain⟨y,r,hy⟩:=sp_some s
  have ih:=join_sp s
  by_cases h:c=47
  ·subst h
   rw[sp_slash,hy,join_two,←hy,ih]
   rfl
  ·rw[sp_ne h,hy]
   rw[hy] at ih
   cases r with
   |nil=>rw[Lib.join_one] at ih ⊢;rw[ih]
   |cons z r=>rw[join_two] at ih ⊢;rw[List.cons_append,ih]
theorem sp_app: ∀ (x t:List UInt8),(47:UInt8)∉x→sp (x++47::t)=x::sp t
 |[],t,_=>sp_slash t
 |c::x,t,h=>by
  simp only[List.mem_cons,not_or] at h
  rw[List.cons_append,sp_ne (fun e=>h.1 e.symm),sp_app x t h.2]
theorem sp_one: ∀ (x:List UInt8),(47:UInt8)∉x→sp x=[x]
 |[],_=>rfl
 |c::x,h=>by
  simp only[List.mem_cons,not_or] at h
  rw[sp_ne (fun e=>h.1 e.symm),sp_one x h.2]
theorem sp_join: ∀ (x:List UInt8) (r:List (List UInt8)),(∀ y∈x::r,(47:UInt8)∉y)→sp (Lib.join (x::r) [47])=x::r
 |x,[],h=>by rw[Lib.join_one];exact sp_one x (h x (.head _))
 |x,y::r,h=>by
  rw[join_two,sp_app _ _ (h x (.head _)),sp_join y r fun z hz=>h z (.tail _ hz)]
/-! ### names,paths -/
def mk(l:List UInt8):ByteArray:=⟨l.toArray⟩
theorem parts_sp{p:ByteArray}(h:p.size≠0):parts p=(sp p.data.toList).map mk:=by
 unfold parts
 rw[if_neg h]
 have key: ∀ (k:Nat) (s:ByteArray),(Lib.splitB slash 0 k s).map (·.data.toList)=Lib.splitK [47] 0 k s.data.toList:=fun k s=>Lib.splitB_data slash 0 k s
 have hc:Lib.countB p slash=p.data.toList.count 47:=by
  have:Lib.countB p slash=Lib.count p.data.toList [47]:=rfl
  rw[this,Lib.count_one]
 rw[hc]
 unfold sp
 rw[←key,List.map_map]
 exact(List.map_id _).symm
def NameOk(s:ByteArray):Prop:=isName s=true∧(47:UInt8)∉s.data.toList
theorem NameOk.size{s:ByteArray}(h:NameOk s):s.size≠0:=by
 have:=h.1
 unfold isName at this
 simp only[Bool.and_eq_true,decide_eq_true_eq] at this
 omega
theorem NameOk.nil{s:ByteArray}(h:NameOk s):s.data.toList≠[]:=fun e=>h.size (size_nil.2 e)
theorem joined_nil:joined []=⟨#[]⟩:=rfl
theorem joined_data(l:List ByteArray):(joined l).data.toList=Lib.join (l.map (·.data.toList)) [47]:=rfl
theorem joined_size{x:ByteArray}{r:List ByteArray}(h:NameOk x):(joined (x::r)).size≠0:=fun e=>by
 have:=size_nil.1 e
 rw[joined_data,List.map_cons,Lib.join_cons] at this
 exact h.nil (List.append_eq_nil_iff.1 this).1
theorem parts_joined: ∀ {l:List ByteArray},(∀ s∈l,NameOk s)→parts (joined l)=l
 |[],_=>rfl
 |x::r,h=>by
  rw[parts_sp (joined_size (h x (.head _))),joined_data,List.map_cons,sp_join _ _ (fun y hy=>by
   rcases List.mem_cons.1 hy with rfl|hy
   ·exact(h x (.head _)).2
   ·obtain⟨z,hz,rfl⟩:=List.mem_map.1 hy
    exact(h z (.tail _ hz)).2)]
  show List.map mk ((x::r).map (·.data.toList))=_
  rw[List.map_map]
  exact List.map_id _
structure Okn (l:List ByteArray):Prop where
 ne:l≠[]
 names: ∀ s∈l,NameOk s
 few:l.length≤8
 short:(joined l).size≤96
theorem scan_mem: ∀ {ps l:List ByteArray},scan ps=some l→(∀ s∈l,isName s=true∧s∈ps)
 |[],l,h=>by cases h;exact nofun
 |n::r,l,h=>by
  unfold scan at h
  split at h
  ·exact fun s hs=>⟨(scan_mem h s hs).1,.tail _ (scan_mem h s hs).2⟩
  split at h
  ·rename_i hn
   obtain⟨l',h1,rfl⟩:=Option.map_eq_some_iff.1 h
   intro s hs
   rcases List.mem_cons.1 hs with rfl|hs
   ·exact⟨hn,.head _⟩
   ·exact⟨(scan_mem h1 s hs).1,.tail _ (scan_mem h1 s hs).2⟩
  ·cases h
theorem isPath_spec{p:ByteArray}(h:isPath p=true):Okn (parts p)∧joined (parts p)=p:=by
 unfold isPath at h
 simp only[Bool.and_eq_true,decide_eq_true_eq,Bool.not_eq_true'] at h
 obtain⟨⟨h1,h2⟩,h3⟩:=h
 have hp:p.size≠0:=fun e=>by rw[size_nil.1 e] at h3;cases h3
 have h2:=eq_of_beq h2
 unfold clean at h1 h2
 cases hs:scan (parts p) with
 |none=>rw[hs] at h1;simp at h1
 |some l=>
  rw[hs] at h1 h2
  simp only at h1 h2
  unfold cleanOf at h1 h2
  split at h1
  ·simp at h1
  ·rename_i hc
   rw[if_neg hc] at h2
   simp only[Bool.or_eq_true,decide_eq_true_eq,not_or] at hc
   have e:joined l=p:=ba_ext h2
   have hn: ∀ s∈l,NameOk s:=fun s hs'=>by
    obtain⟨g1,g2⟩:=scan_mem hs s hs'
    refine⟨g1, ?_⟩
    rw[parts_sp hp] at g2
    obtain⟨x,hx,rfl⟩:=List.mem_map.1 g2
    exact sp_mem _ x hx
   have hl:parts p=l:=by rw[←e];exact parts_joined hn
   rw[hl]
   refine⟨⟨fun h0=>hp ?_,hn,by omega,by omega⟩,e⟩
   rw[←e,h0]
   rfl
theorem scan_ok: ∀ {l:List ByteArray},(∀ s∈l,NameOk s)→scan l=some l
 |[],_=>rfl
 |x::r,h=>by
  have hx:=h x (.head _)
  have h46:x.data.toList≠[46]:=fun e=>by
   have:=hx.1
   unfold isName at this
   rw[e] at this
   cases this
  unfold scan
  rw[if_neg (not_or.2 ⟨hx.nil,h46⟩),if_pos hx.1,scan_ok fun s hs=>h s (.tail _ hs)]
  rfl
theorem isPath_joined{l:List ByteArray}(h:Okn l):isPath (joined l)=true:=by
 obtain⟨x,r,rfl⟩: ∃ x r,l=x::r:=by
  cases l with
  |nil=>exact absurd rfl h.ne
  |cons x r=>exact⟨x,r,rfl⟩
 have hx:=h.names x (.head _)
 have hc:clean (joined (x::r))=(joined (x::r),0):=by
  unfold clean
  rw[parts_joined h.names,scan_ok h.names]
  simp only
  unfold cleanOf
  rw[if_neg]
  have h1:=h.few
  have h2:=h.short
  simp only[Bool.or_eq_true,decide_eq_true_eq,not_or]
  refine⟨⟨?_,by omega⟩,by omega⟩
  rw[joined_data,List.map_cons,Lib.join_cons]
  have hn:=hx.nil
  have hs:=hx.2
  cases hd:x.data.toList with
  |nil=>exact absurd hd hn
  |cons c t=>
   rw[hd] at hs
   simp only[List.mem_cons,not_or] at hs
   unfold Lib.hasPrefix
   simp[List.isPrefixOf,hs.1]
 unfold isPath
 rw[hc]
 have:(joined (x::r)).data.toList≠[]:=fun e=>joined_size (r:=r) hx (size_nil.2 e)
 simp only[decide_true,beq_self_eq_true,Bool.true_and,Bool.not_eq_true',beq_eq_false_iff_ne]
 exact this
theorem join_snoc: ∀ (q:List (List UInt8)) (s:List UInt8),q≠[]→Lib.join (q++[s]) [47]=Lib.join q [47]++47::s
 |[],_,h=>absurd rfl h
 |[x],s,_=>by rw[List.singleton_append,join_two,Lib.join_one,Lib.join_one]
 |x::y::r,s,_=>by
  have ih:=join_snoc (y::r) s (by simp)
  rw[List.cons_append,List.cons_append,join_two,←List.cons_append,ih,join_two]
  simp
theorem joined_snoc{q:List ByteArray}{s:ByteArray}(hq:q≠[]):(joined (q++[s])).data.toList=(joined q).data.toList++47::s.data.toList:=by
 rw[joined_data,List.map_append,List.map_singleton,join_snoc _ _ (by simpa using hq)]
 rfl
theorem joined_one(s:ByteArray):joined [s]=s:=ba_ext (by rw[joined_data,List.map_singleton,Lib.join_one])
theorem occ_one(s:List UInt8)(k:Nat):Lib.occAt s [47] k=true↔s[k]? =some 47:=by
 unfold Lib.occAt
 constructor
 ·intro h
  cases hd:s.drop k with
  |nil=>rw[hd] at h;simp[List.isPrefixOf] at h
  |cons c t=>
   rw[hd] at h
   have hc:c=47:=by
    simp[List.isPrefixOf] at h
    exact h.symm
   have:(s.drop k)[0]? =some c:=by rw[hd];rfl
   rw[List.getElem?_drop] at this
   rw[←hc]
   simpa using this
 ·intro h
  have hk:=(List.getElem?_eq_some_iff.1 h).1
  rw[List.drop_eq_getElem_cons hk]
  have:s[k]=47:=(List.getElem?_eq_some_iff.1 h).2
  simp[List.isPrefixOf,this]
theorem last_none{s:ByteArray}(h:(47:UInt8)∉s.data.toList):last s= -1:=by
 unfold last Lib.lastIndex
 split
 ·rcases Lib.lastOcc_spec s.data.toList [47] (s.data.toList.length - [47].length+1) with ⟨h1,-⟩|⟨i,-,-,h3,-⟩
  ·exact h1
  ·exact absurd (List.mem_of_getElem? ((occ_one _ _).1 h3)) h
 ·rfl
theorem last_at{p:ByteArray}{a b:List UInt8}(hp:p.data.toList=a++47::b)(hb:(47:UInt8)∉b):last p=a.length:=by
 unfold last Lib.lastIndex
 have hl:p.data.toList.length=a.length+b.length+1:=by rw[hp];simp;omega
 rw[if_pos (by rw[hl];simp)]
 have h47:p.data.toList[a.length]? =some 47:=by rw[hp];simp
 rcases Lib.lastOcc_spec p.data.toList [47] (p.data.toList.length - [47].length+1) with ⟨-,h1⟩|⟨i,h1,h2,h3,h4⟩
 ·have:=h1 a.length (by rw[hl];simp;omega)
  rw[(occ_one _ _).2 h47] at this
  cases this
 ·refine h2.trans ?_
  have hi:i=a.length:=by
   rcases Nat.lt_trichotomy i a.length with h|h|h
   ·have:=h4 a.length h (by rw[hl];simp;omega)
    rw[(occ_one _ _).2 h47] at this
    cases this
   ·exact h
   ·exfalso
    have h5:=(occ_one _ _).1 h3
    rw[hp,List.getElem?_append_right (by omega)] at h5
    obtain⟨m,hm⟩: ∃ m,i - a.length=m+1:=⟨i - a.length - 1,by omega⟩
    rw[hm,List.getElem?_cons_succ] at h5
    exact hb (List.mem_of_getElem? h5)
  rw[hi]
theorem split_joined{q:List ByteArray}{s:ByteArray}(hs:NameOk s):split (joined (q++[s]))=(joined q,s):=by
 cases q with
 |nil=>
  rw[List.nil_append,joined_one]
  unfold split
  rw[if_pos (by rw[last_none hs.2];decide)]
  rfl
 |cons x r=>
  have hd:=joined_snoc (q:=x::r) (s:=s) (by simp)
  have hl:=last_at hd hs.2
  unfold split
  rw[if_neg (by omega),hl,Int.toNat_natCast]
  have hz:(joined (x::r++[s])).size=(joined (x::r)).data.toList.length+s.data.toList.length+1:=by rw[Lib.size_eq,hd];simp;omega
  refine Prod.ext (ba_ext ?_) (ba_ext ?_)
  ·simp only[ByteArray.data_extract,Array.toList_extract]
   rw[hd]
   simp
  ·simp only[ByteArray.data_extract,Array.toList_extract]
   rw[hd,hz]
   have e:(joined (x::r)).data.toList++47::s.data.toList=((joined (x::r)).data.toList++[47])++s.data.toList:=by simp
   rw[List.extract_eq_take_drop,e,List.drop_left' (by simp)]
   exact List.take_of_length_le (by omega)
theorem isPath_snoc{p:ByteArray}(h:isPath p=true): ∃ q s,parts p=q++[s]∧parts (split p).1=q∧(split p).2=s∧Okn (q++[s])∧joined (q++[s])=p:=by
 obtain⟨h1,h2⟩:=isPath_spec h
 obtain⟨q,s,hq⟩: ∃ q s,parts p=q++[s]:=⟨(parts p).dropLast,(parts p).getLast h1.ne,(List.dropLast_concat_getLast h1.ne).symm⟩
 rw[hq] at h1 h2
 have hs:=h1.names s (by simp)
 have hsp:=split_joined (q:=q) hs
 rw[h2] at hsp
 refine⟨q,s,hq, ?_,by rw[hsp],h1,h2⟩
 rw[hsp]
 exact parts_joined fun x hx=>h1.names x (by simp[hx])
end Pt
end
section
open Go.RowKit Go.Maps
namespace Pt
def glue(x:List UInt8):List (List UInt8)→List (List UInt8)
 |[]=>[x]
 |y::r=>(x++y)::r
theorem glue_nil(s:List UInt8):glue [] (sp s)=sp s:=by
 obtain⟨x,r,h⟩:=sp_some s
 rw[h]
 rfl
theorem glue_slash(x s:List UInt8):glue x (sp (47::s))=x::glue [] (sp s):=by
 rw[sp_slash,glue_nil]
 simp[glue]
theorem glue_ne{c:UInt8}(h:c≠47)(x s:List UInt8):glue x (sp (c::s))=glue (x++[c]) (sp s):=by
 obtain⟨y,r,hy⟩:=sp_some s
 rw[sp_ne h,hy]
 simp[glue]
end Pt
theorem ba_one{s:ByteArray}{k:Nat}{c:UInt8}(h:s.data.toList[k]? =some c):s.extract k (k+1)=⟨#[c]⟩:=by
 refine Pt.ba_ext ?_
 simp only[ByteArray.data_extract,Array.toList_extract]
 have hk:=(List.getElem?_eq_some_iff.1 h).1
 rw[List.extract_eq_take_drop,List.drop_eq_getElem_cons hk,(List.getElem?_eq_some_iff.1 h).2]
 simp
theorem rParts_any(p:ByteArray)(w:World)(hp:p.size≤1000000):Calls Tryz.prog 128 #[.string p] w (SomeTx (Pt.parts p) w):=by
 have hM:=St.start w []
 by_cases h0:p.size=0
 ·have e:Pt.parts p=[]:=if_pos h0
  rw[e]
  have hq:=beqs_yes (size_nil.1 h0)
  clear h0 hp
  go_enter Tryz.func128,Tryz.ntmps128
  (refine qw ?_;intros;rename_i hM)
  (refine qf ?_)
  exact⟨none,rfl,⟨rfl,rfl⟩,hM⟩
 ·have e:Pt.parts p=(Pt.sp p.data.toList).map Pt.mk:=Pt.parts_sp h0
  have hq:=beqs_no (l:=[]) (fun h=>h0 (size_nil.2 h))
  rw[e]
  have hz:p.size=p.data.toList.length:=Lib.size_eq p
  generalize hl:p.data.toList=l at*
  go_enter Tryz.func128,Tryz.ntmps128
  (refine qw ?_;intros;rename_i hM)
  go_loopw [3,4,5] (fun o t i wr=> ∃ (k:Nat) (s:Option (Nat×Nat)) (xs:List ByteArray) (y:ByteArray),k≤l.length∧o=slV s xs.length∧t= .string y∧i= .int .i64 k∧xs.length≤k∧y.size≤k∧Hid (xs.map (·.data.toList)++Pt.glue y.data.toList (Pt.sp (l.drop k))=Pt.sp l)∧TxOK s xs∧St w [] wr (txL s xs)) (fun _ _ i _=>l.length - (intOf i).toNat)
  case atStart=>exact⟨0,none,[],⟨#[]⟩,by omega,rfl,rfl,rfl,Nat.le_refl _,Nat.le_refl _,qh (by rw[List.drop_zero];exact Pt.glue_nil l),⟨rfl,rfl⟩,hM⟩
  case round=>
   clear hM
   obtain⟨k,s,xs,y,hk,rfl,rfl,rfl,hxk,hyk,HG,hok,hM⟩:=hrel
   have HOK:=qh hok
   clear hok
   obtain⟨va,vc,hv,hva⟩:=slV_open HOK.out
   by_cases hlt:k<l.length
   ·obtain⟨c,hc⟩:=get_at hlt
    have hd:l.drop k=c::l.drop (k+1):=by rw[List.drop_eq_getElem_cons hlt,(List.getElem?_eq_some_iff.1 hc).2]
    have hc':p.data.toList[k]? =some c:=by rw[hl];exact hc
    have k1:(k:Int)<(p.size:Int):=by omega
    have hkp:k<p.size:=by omega
    have hpc:p[k]'hkp=c:=by
     have:=(List.getElem?_eq_some_iff.1 hc').2
     rw[←this]
     rfl
    by_cases h47:c=47
    ·subst h47
     have hp47:(((p[k]'hkp).toNat:Int)==47)=true:=by rw[hpc];rfl
     clear hpc
     have HG':=HG.out
     rw[hd,Pt.glue_slash] at HG'
     have HH:=qh HG'
     clear HG HG' hd hc
     rw[hv]
     (refine qw ?_;intros;rename_i hM)
     rw[←hv]
     refine St.append (s:=s) (n:=xs.length) (xs:=xs.map Value.string) rfl hM rfl rfl rfl rfl rfl (by kernel_rfl) qsf HOK.out rfl (hM.news qm) rfl (by rw[maxLen_val];omega) (by omega) (fun h=>by cases h) ?_
     clear hM;intro w s' hM hk' hs'
     simp only[Res.known] at hM hk'
     have e1:xs.map Value.string++[Value.string y]=(xs++[y]).map Value.string:=by simp
     have e2:xs.length+1=(xs++[y]).length:=by simp
     rw[e1] at hM hk'
     rw[e2] at hk'
     rw[e2]
     have HK':=qh hk'
     clear hk' hs' HOK
     have HH':=qh (show(xs++[y]).map (·.data.toList)++Pt.glue (⟨#[]⟩:ByteArray).data.toList (Pt.sp (l.drop (k+1)))=Pt.sp l from by rw[←HH.out];simp)
     have hxy:(xs++[y]).length≤k+1:=by rw[List.length_append,List.length_singleton];omega
     obtain⟨va2,vc2,hv2,-⟩:=slV_open HK'.out
     rw[hv2]
     (refine qq ?_)
     (refine qw ?_;intros;rename_i hM)
     replace hM:=hM.forget
     simp only[Exit.then]
     rw[←hv2]
     (refine⟨?_,qio⟩;repeat(first|exact⟨⟨k+1,s',xs++[y],⟨#[]⟩,by omega,rfl,rfl,rfl,hxy,Nat.zero_le _,HH',HK'.out,hM⟩,rfl⟩|apply Exists.intro))
    ·have HG':=HG.out
     rw[hd,Pt.glue_ne h47] at HG'
     have q47:((c.toNat:Int)==47)=false:=by
      rw[beq_eq_false_iff_ne]
      intro e
      apply h47
      have:c.toNat=47:=by omega
      exact UInt8.toNat_inj.1 this
     have hex:p.extract k (k+1)=⟨#[c]⟩:=ba_one hc'
     have hp47:(((p[k]'hkp).toNat:Int)==47)=false:=by rw[hpc];exact q47
     clear hpc q47
     have HH:=qh (show xs.map (·.data.toList)++Pt.glue (y++⟨#[c]⟩:ByteArray).data.toList (Pt.sp (l.drop (k+1)))=Pt.sp l from by rw[←HG'];simp)
     have hy1:(y++⟨#[c]⟩:ByteArray).size≤k+1:=by rw[ByteArray.size_append];show y.size+1≤_;omega
     clear HG HG' hd hc
     rw[hv]
     (refine qw ?_;intros;rename_i hM)
     refine St.strSub (i:=k) (j:=k+1) rfl rfl rfl rfl rfl rfl Tryz.underlying9 (by omega) (by omega) ?_
     rw[hex]
     (refine qq ?_)
     (refine qw ?_;intros;rename_i hM)
     simp only[Exit.then]
     rw[←hv]
     (refine⟨?_,qio⟩;repeat(first|exact⟨⟨k+1,s,xs,y++⟨#[c]⟩,by omega,rfl,rfl,rfl,by omega,hy1,HH,HOK.out,hM⟩,rfl⟩|apply Exists.intro))
   ·have k0:¬((k:Int)<(p.size:Int)):=by omega
    obtain rfl:k=l.length:=by omega
    have HG':=HG.out
    rw[List.drop_length,Pt.sp_nil] at HG'
    have hfin:(Pt.sp l).map Pt.mk=xs++[y]:=by
     rw[←HG',List.map_append,List.map_map]
     show List.map (fun b:ByteArray=>b) xs++[Pt.mk (y.data.toList++[])]=_
     rw[List.map_id',List.append_nil]
     rfl
    have HFN:=qh hfin
    clear hlt HG HG' hfin
    rw[hv]
    (refine qw ?_;intros;rename_i hM)
    rw[←hv]
    refine St.append (s:=s) (n:=xs.length) (xs:=xs.map Value.string) rfl hM rfl rfl rfl rfl rfl (by kernel_rfl) qsf HOK.out rfl (hM.news qm) rfl (by rw[maxLen_val];omega) (by omega) (fun h=>by cases h) ?_
    clear hM;intro w s' hM hk' hs'
    simp only[Res.known] at hM hk'
    have e1:xs.map Value.string++[Value.string y]=(xs++[y]).map Value.string:=by simp
    have e2:xs.length+1=(xs++[y]).length:=by simp
    rw[e1] at hM hk'
    rw[e2] at hk'
    rw[e2]
    have HK':=qh hk'
    clear hk' hs' HOK
    obtain⟨va2,vc2,hv2,-⟩:=slV_open HK'.out
    rw[hv2]
    (refine qq ?_)
    (refine qw ?_;intros;rename_i hM)
    rw[←hv2]
    (refine qf ?_)
    rw[HFN.out]
    exact⟨s',rfl,HK'.out,hM.forget⟩
end
section
open Go.RowKit Go.Maps
theorem r7Name_any(s:ByteArray)(w:World)(hs:s.size≤1000000000):An 211 #[.string s] w (.bool (In.isName s)):=by
 have hM:=St.start w []
 have hz:s.size=s.data.toList.length:=Lib.size_eq s
 obtain⟨B,hB⟩: ∃ B,In.isName s=B:=⟨_,rfl⟩
 rw[hB]
 have HB:=qh hB
 clear hB
 generalize hl:s.data.toList=l at*
 have HL:=qh hl
 have HZ:=qh hz
 clear hz
 go_enter Tryz.func211,Tryz.ntmps211
 (refine qw ?_;intros;rename_i hM)
 go_loopw [3] (fun i wr=> ∃ k:Nat,k≤l.length∧i= .int .i64 k∧Hid ((l.take k).any badN=false)∧St w [] wr []) (fun i _=>l.length - (intOf i).toNat)
 case atStart=>exact⟨0,by omega,rfl,qh rfl,hM⟩
 case round=>
  clear hM
  obtain⟨k,hk,rfl,HF,hM⟩:=hrel
  by_cases hlt:k<l.length
  ·obtain⟨c,hc⟩:=get_at hlt
   have hc':s.data.toList[k]? =some c:=by rw[hl];exact hc
   have k1:(k:Int)<(s.size:Int):=by have:=HZ.out;omega
   have hkp:k<s.size:=by have:=HZ.out;omega
   have hpc:s[k]'hkp=c:=by
    have:=(List.getElem?_eq_some_iff.1 hc').2
    rw[←this]
    rfl
   have ht:(l.take (k+1)).any badN=((l.take k).any badN||badN c):=by rw[List.take_add_one,hc,Option.toList_some,List.any_append];simp
   rw[HF.out,Bool.false_or] at ht
   by_cases h0:c=0
   ·subst h0
    have q0:(((s[k]'hkp).toNat:Int)==0)=true:=by rw[hpc];rfl
    have HE:=qh (show B=false by
     rw[←HB.out]
     refine isName_bad ?_
     rw[HL.out,List.any_eq_true]
     exact⟨0,List.mem_of_getElem? hc,rfl⟩)
    clear hpc hc hc' ht HF
    (refine qw ?_;intros;rename_i hM)
    (refine qf ?_)
    exact⟨by rw[HE.out];rfl,hM.to_below⟩
   ·have q0:(((s[k]'hkp).toNat:Int)==0)=false:=by
     rw[hpc,beq_eq_false_iff_ne]
     intro e
     apply h0
     have:c.toNat=0:=by omega
     exact UInt8.toNat_inj.1 this
    by_cases h47:c=47
    ·subst h47
     have q1:(((s[k]'hkp).toNat:Int)==47)=true:=by rw[hpc];rfl
     have HE:=qh (show B=false by
      rw[←HB.out]
      refine isName_bad ?_
      rw[HL.out,List.any_eq_true]
      exact⟨47,List.mem_of_getElem? hc,rfl⟩)
     clear hpc hc hc' ht HF h0
     (refine qw ?_;intros;rename_i hM)
     (refine qf ?_)
     exact⟨by rw[HE.out];rfl,hM.to_below⟩
    ·have q1:(((s[k]'hkp).toNat:Int)==47)=false:=by
      rw[hpc,beq_eq_false_iff_ne]
      intro e
      apply h47
      have:c.toNat=47:=by omega
      exact UInt8.toNat_inj.1 this
     have HF2:=qh (show(l.take (k+1)).any badN=false by rw[ht];simp[badN,h0,h47])
     clear hpc hc hc' ht HF h0 h47
     (refine qw ?_;intros;rename_i hM)
     (try simp only[Exit.then])
     (refine⟨?_,qio⟩;repeat(first|exact⟨⟨k+1,by omega,rfl,HF2,hM⟩,rfl⟩|apply Exists.intro))
  ·have k0:¬((k:Int)<(s.size:Int)):=by have:=HZ.out;omega
   obtain rfl:k=l.length:=by omega
   have HF':=HF.out
   rw[List.take_length] at HF'
   have hg:=isName_good (s:=s) (by rw[HL.out];exact HF')
   rw[HB.out,HL.out] at hg
   have HG:=qh hg
   clear hlt hk HF HF' hg hl
   by_cases h1:1≤s.size
   ·have e1:decide ((1:Int)≤(s.size:Int))=true:=decide_eq_true (by omega)
    by_cases h2:s.size≤32
    ·have e2:decide ((s.size:Int)≤(32:Int))=true:=decide_eq_true (by omega)
     by_cases h3:s=⟨#[46]⟩
     ·have e3:=beqs_yes (s:=s) (l:=[46]) (by rw[h3])
      have HE:=qh (show B=false by rw[HG.out,←HL.out,h3];simp)
      clear h1 h2 h3
      (refine qw ?_;intros;rename_i hM)
      (refine qf ?_)
      exact⟨by rw[HE.out];rfl,hM.to_below⟩
     ·have e3:=beqs_no (s:=s) (l:=[46]) (fun e=>h3 (Pt.ba_ext e))
      by_cases h4:s=⟨#[46,46]⟩
      ·have e4:=beqs_yes (s:=s) (l:=[46,46]) (by rw[h4])
       have HE:=qh (show B=false by rw[HG.out,←HL.out,h4];simp)
       clear h1 h2 h3 h4
       (refine qw ?_;intros;rename_i hM)
       (refine qf ?_)
       exact⟨by rw[HE.out];rfl,hM.to_below⟩
      ·have e4:=beqs_no (s:=s) (l:=[46,46]) (fun e=>h4 (Pt.ba_ext e))
       have HE:=qh (show B=true by
        have n3:l≠[46]:=fun e=>h3 (Pt.ba_ext (by rw[HL.out,e]))
        have n4:l≠[46,46]:=fun e=>h4 (Pt.ba_ext (by rw[HL.out,e]))
        rw[HG.out]
        simp[h1,h2,n3,n4])
       clear h1 h2 h3 h4
       (refine qw ?_;intros;rename_i hM)
       (refine qf ?_)
       exact⟨by rw[HE.out];rfl,hM.to_below⟩
    ·have e2:decide ((s.size:Int)≤(32:Int))=false:=decide_eq_false (by omega)
     have HE:=qh (show B=false by rw[HG.out];simp[h2])
     clear h1 h2
     (refine qw ?_;intros;rename_i hM)
     (refine qf ?_)
     exact⟨by rw[HE.out];rfl,hM.to_below⟩
   ·have e1:decide ((1:Int)≤(s.size:Int))=false:=decide_eq_false (by omega)
    have HE:=qh (show B=false by rw[HG.out];simp[h1])
    clear h1
    (refine qw ?_;intros;rename_i hM)
    (refine qf ?_)
    exact⟨by rw[HE.out];rfl,hM.to_below⟩
def Pt.isP(p:ByteArray):Bool:=(Pt.parts p).all In.isName&&decide ((Pt.parts p).length≤8)&&decide (p.size≤96)
theorem rIs_any(p:ByteArray)(w0:World)(hp:p.size≤1000000)(hl:(Pt.parts p).length≤1000001)(hz: ∀ s∈Pt.parts p,s.size≤1000000000):An 177 #[.string p] w0 (.bool (Pt.isP p)):=by
 have hM:=St.start w0 []
 have HP:=qh (fun W=>rParts_any p W hp)
 unfold Pt.isP
 generalize Pt.parts p=l at*
 have HZ:=qh hz
 clear hz
 obtain⟨B,hB⟩: ∃ B,(l.all In.isName&&decide (l.length≤8)&&decide (p.size≤96))=B:=⟨_,rfl⟩
 rw[hB]
 have HB:=qh hB
 clear hB
 go_enter Tryz.func177,Tryz.ntmps177
 (refine qw ?_;intros;rename_i hM)
 (refine qK3 (fun R hR=> ?_))
 refine(HP.out _).mono ?_
 rintro e w' ⟨s,rfl,hok,hst⟩;refine hR.out _ _ ?_;clear hR R
 replace hM:=hM.madeM hst (txL_flag _ _)
 rw[List.append_nil] at hM
 have HOK:=qh hok
 obtain⟨ua,uc,hu,hua⟩:=slV_open hok
 rw[hu]
 clear hst hok HP
 (refine qq ?_)
 (refine qw ?_;intros;rename_i hM)
 go_loopw [4] (fun i wr=> ∃ k:Nat,k≤l.length∧i= .int .i64 k∧Hid ((l.take k).all In.isName=true)∧St w0 [] wr (txL s l)) (fun i _=>l.length - (intOf i).toNat)
 case atStart=>exact⟨0,by omega,rfl,qh rfl,hM⟩
 case round=>
  clear hM
  obtain⟨k,hk,rfl,HF,hM⟩:=hrel
  by_cases hlt:k<l.length
  ·obtain⟨y,hy⟩:=get_at hlt
   have k1:(k:Int)<(l.length:Int):=by omega
   rcases s with _|⟨g1,cap1⟩
   ·exact absurd HOK.out.2 (by omega)
   obtain⟨rfl,rfl⟩:=hua g1 cap1 rfl
   have HI:=qh (fun W=>r7Name_any y W (HZ.out y (List.mem_of_getElem? hy)))
   have hv:(l.map Value.string)[k]? =some (.string y):=by rw[List.getElem?_map,hy];rfl
   cases hn:In.isName y with
   |true=>
    rw[hn] at HI
    have HF2:=qh (show(l.take (k+1)).all In.isName=true by rw[List.take_add_one,hy,Option.toList_some,List.all_append,HF.out];simp[hn])
    clear HF hy hn
    (refine qw ?_;intros;rename_i hM)
    (refine qCB (HI.out _) hM ?_;clear hM;intro w' hM)
    (refine qw ?_;intros;rename_i hM)
    (try simp only[Exit.then])
    (refine⟨?_,qio⟩;repeat(first|exact⟨⟨k+1,by omega,rfl,HF2,hM⟩,rfl⟩|apply Exists.intro))
   |false=>
    rw[hn] at HI
    have HE:=qh (show B=false by
     rw[←HB.out]
     have:l.all In.isName=false:=by
      rw[List.all_eq_false]
      exact⟨y,List.mem_of_getElem? hy,by rw[hn];nofun⟩
     rw[this]
     rfl)
    clear HF hy hn
    (refine qw ?_;intros;rename_i hM)
    (refine qCB (HI.out _) hM ?_;clear hM;intro w' hM)
    (refine qw ?_;intros;rename_i hM)
    (refine qf ?_)
    exact⟨by rw[HE.out];rfl,hM.to_below⟩
  ·have k0:¬((k:Int)<(l.length:Int)):=by omega
   obtain rfl:k=l.length:=by omega
   have hF:=HF.out
   rw[List.take_length] at hF
   have hb:=HB.out
   rw[hF,Bool.true_and] at hb
   clear hlt hk HF hF
   by_cases h8:l.length≤8
   ·have k8:(l.length:Int)≤8:=by omega
    by_cases h9:p.size≤96
    ·have k9:(p.size:Int)≤96:=by omega
     have HE:=qh (show B=true by rw[←hb];simp[h8,h9])
     clear hb h8 h9
     (refine qw ?_;intros;rename_i hM)
     (refine qf ?_)
     exact⟨by rw[HE.out];rfl,hM.to_below⟩
    ·have k9:decide ((p.size:Int)≤96)=false:=decide_eq_false (by omega)
     have HE:=qh (show B=false by rw[←hb];simp[h9])
     clear hb h8 h9
     (refine qw ?_;intros;rename_i hM)
     (refine qf ?_)
     exact⟨by rw[HE.out];rfl,hM.to_below⟩
   ·have k8:decide ((l.length:Int)≤8)=false:=decide_eq_false (by omega)
    have HE:=qh (show B=false by rw[←hb];simp[h8])
    clear hb h8
    (refine qw ?_;intros;rename_i hM)
    (refine qf ?_)
    exact⟨by rw[HE.out];rfl,hM.to_below⟩
end
section
open Go.RowKit Go.Maps
namespace Hs
def place(t:TabD)(p:ByteArray):Int×ByteArray×Int:=
 match (Pt.parts p).getLast? with
 |none=>(0,⟨#[]⟩,1)
 |some y=>((Fs.walkL t 1 (Pt.parts p).dropLast).1,y,(Fs.walkL t 1 (Pt.parts p).dropLast).2)
end Hs
section
variable {w w' w0 w1 w2:World}{X X':RFX}{t t':TabD}{zs zs':List NodV}{hs hs':List HndD}{N:Nat}{F:List Nat}{L:List Ent}
theorem rplace9_any(h:RFIs X t zs hs w0)(I:In.Inv N t)(hN:N≤900000)(p:ByteArray)(hp:p.size≤1000000)(hl:(Pt.parts p).length≤1000000)(hz: ∀ s∈Pt.parts p,s.size≤1000000000):
  An 140 #[.pointer (some ⟨X.f,0,none⟩),.string p] w0 (.tuple #[.int .i64 (Hs.place t p).1,.string (Hs.place t p).2.1,.int .i64 (Hs.place t p).2.2]):=by
 have hM:=St.start w0 []
 have HP:=qh (fun W=>rParts_any p W hp)
 unfold Hs.place
 generalize Pt.parts p=l at*
 rcases List.eq_nil_or_concat l with rfl|⟨r,y,rfl⟩
 ·clear h I hz
  simp only[List.getLast?_nil]
  go_enter Tryz.func140,Tryz.ntmps140
  (refine qw ?_;intros;rename_i hM)
  (refine qK3 (fun R hR=> ?_))
  refine(HP.out _).mono ?_
  rintro e w' ⟨s,rfl,hok,hst⟩;refine hR.out _ _ ?_;clear hR R
  replace hM:=hM.madeM hst (txL_flag _ _)
  obtain⟨ua,uc,hu,-⟩:=slV_open hok
  rw[hu]
  clear hst hok HP hu
  (refine qq ?_)
  exact qwf
 ·rw[List.concat_eq_append] at*
  rw[List.getLast?_concat,List.dropLast_concat]
  simp only
  have HW:=qh (fun (W:World) (hb:Below w0.heap.size w0 W) (va:Option Addr) (vc:Nat) (hva: ∀ k s,r[k]? =some s→ ∃ g,va=some ⟨g,0,none⟩∧W.cell? ⟨g,k,none⟩=some (.string s)) (hlc:r.length≤vc)=>rwalk_any (h.below hb) I hN r (by rw[List.length_append] at hl;omega) (fun s hs=>hz s (List.mem_append_left _ hs)) hva hlc)
  clear h I hz
  obtain⟨n1,hn1⟩: ∃ n1,(r++[y]).length=n1:=⟨_,rfl⟩
  have hn2:n1=r.length+1:=by rw[←hn1];simp
  obtain⟨m,hm⟩: ∃ m,r.length=m:=⟨_,rfl⟩
  rw[hm] at HW hn2
  have hw1:IntKind.i64.wrap ((n1:Int) - 1)=(m:Int):=by rw[wrap_in _ (by omega)];omega
  have k0:((n1:Int)==0)=false:=qne.2 (by omega)
  have HV:=qh (show((r++[y]).map Value.string)[m]? =some (.string y) by rw[List.getElem?_map,←hm,List.getElem?_append_right (Nat.le_refl _)];simp)
  have HRV:=qh (fun (k:Nat) (s:ByteArray) (hk:r[k]? =some s)=>(show((r++[y]).map Value.string)[k]? =some (.string s) by rw[List.getElem?_map,List.getElem?_append_left (List.getElem?_eq_some_iff.1 hk).1,hk];rfl))
  have HN:=qh hn2
  clear hn2
  go_enter Tryz.func140,Tryz.ntmps140
  (refine qw ?_;intros;rename_i hM)
  (refine qK3 (fun R hR=> ?_))
  refine(HP.out _).mono ?_
  rintro e w' ⟨s,rfl,hok,hst⟩;refine hR.out _ _ ?_;clear hR R
  replace hM:=hM.madeM hst (txL_flag _ _)
  rw[List.append_nil] at hM
  replace hok:SlOK s n1 ((r++[y]).map Value.string) 1:=hn1▸hok
  rw[hn1]
  obtain⟨g1,cap1,rfl⟩: ∃ g1 cap1,s=some (g1,cap1):=by
   rcases s with _|⟨g1,cap1⟩
   ·have h0:n1=0:=hok.2
    have:=HN.out
    omega
   ·exact⟨g1,cap1,rfl⟩
  have HOK:=qh hok.2
  show wpSeq _ _ _ _ _ (Act.put _ _ (.slice (some ⟨g1,0,none⟩) n1 cap1)) _
  clear hst hok HP hn1
  (refine qq ?_)
  (refine qw ?_;intros;rename_i hM)
  refine St.slcTo rfl rfl rfl rfl rfl Tryz.underlying29 (sz:=1) (by kernel_rfl) (j:=m) (by have:=HOK.out.1;have:=HN.out;omega) ?_
  (refine qq ?_)
  (refine qw ?_;intros;rename_i hM)
  (refine qK3 (fun R hR=> ?_))
  refine(HW.out _ hM.to_below _ _ (fun k s hk=>⟨g1,rfl,Res.cell (r:= .pre ((r++[y]).map Value.string) 9 (cap1*1)) (hM.holds _ (.head _)) (HRV.out k s hk)⟩) (by have:=HOK.out.1;have:=HN.out;omega)).mono ?_
  (refine qJ3 hR hM ?_;clear hR R hM;intro w' hM)
  have hv:=HV.out
  have hlt:(m:Int)<(n1:Int):=by have:=HN.out;omega
  exact qwf
end
end
section
open Go.RowKit Go.Maps
namespace Hs
def pathB(p:ByteArray):Bool:= !(p.toList==[])&&Pt.isP p
def right(o:OpD):Bool:=
 if o.kind=1∨o.kind=2∨o.kind=3∨o.kind=4∨o.kind=11 then pathB o.path
 else if o.kind=10∨o.kind=12 then pathB o.path&&pathB o.dest
 else if o.kind=13 then Pt.isP o.path
 else decide (1≤o.kind)&&decide (o.kind≤13)
end Hs
structure PthOk (p:ByteArray):Prop where
 size:p.size≤1000000
 few:(Pt.parts p).length≤1000000
 each: ∀ s∈Pt.parts p,s.size≤1000000000
section
variable {w0:World}
theorem rIsO_any{p:ByteArray}(h:PthOk p)(w:World):An 177 #[.string p] w (.bool (Pt.isP p)):=rIs_any p w h.size (by have:=h.few;omega) h.each
theorem rright_1(o:OpD)(hp:PthOk o.path)(hd:PthOk o.dest)(hk:o.kind=1)(w0:World):An 135 #[.agg o.cells.toArray] w0 (.bool (Hs.right o)):=by
 have hM:=St.start w0 []
 obtain⟨kind,path,dest,hh,at_,n,data,pid,birth⟩:=o
 simp only at*
 have HP:=qh (fun W=>rIsO_any hp W)
 have HD:=qh (fun W=>rIsO_any hd W)
 unfold OpD.cells Hs.right Hs.pathB
 simp only
 clear hp hd
 subst hk
 rw[if_pos (by decide)]
 cases e1path:(path.toList==[]:Bool) with
 |true=>
  have e2path:(path.toList != [])=false:=by unfold bne;rw[e1path];rfl
  go_enter Tryz.func135,Tryz.ntmps135
  exact qwf
 |false=>
  have e2path:(path.toList != [])=true:=by unfold bne;rw[e1path];rfl
  generalize Pt.isP path=bpath at*
  cases bpath with
  |true=>
   go_enter Tryz.func135,Tryz.ntmps135
   (refine qw ?_;intros;rename_i hM)
   (refine qCB (HP.out _) hM ?_;clear hM;intro w' hM)
   exact qwf
  |false=>
   go_enter Tryz.func135,Tryz.ntmps135
   (refine qw ?_;intros;rename_i hM)
   (refine qCB (HP.out _) hM ?_;clear hM;intro w' hM)
   exact qwf
theorem rright_2(o:OpD)(hp:PthOk o.path)(hd:PthOk o.dest)(hk:o.kind=2)(w0:World):An 135 #[.agg o.cells.toArray] w0 (.bool (Hs.right o)):=by
 have hM:=St.start w0 []
 obtain⟨kind,path,dest,hh,at_,n,data,pid,birth⟩:=o
 simp only at*
 have HP:=qh (fun W=>rIsO_any hp W)
 have HD:=qh (fun W=>rIsO_any hd W)
 unfold OpD.cells Hs.right Hs.pathB
 simp only
 clear hp hd
 subst hk
 rw[if_pos (by decide)]
 cases e1path:(path.toList==[]:Bool) with
 |true=>
  have e2path:(path.toList != [])=false:=by unfold bne;rw[e1path];rfl
  go_enter Tryz.func135,Tryz.ntmps135
  exact qwf
 |false=>
  have e2path:(path.toList != [])=true:=by unfold bne;rw[e1path];rfl
  generalize Pt.isP path=bpath at*
  cases bpath with
  |true=>
   go_enter Tryz.func135,Tryz.ntmps135
   (refine qw ?_;intros;rename_i hM)
   (refine qCB (HP.out _) hM ?_;clear hM;intro w' hM)
   exact qwf
  |false=>
   go_enter Tryz.func135,Tryz.ntmps135
   (refine qw ?_;intros;rename_i hM)
   (refine qCB (HP.out _) hM ?_;clear hM;intro w' hM)
   exact qwf
theorem rright_3(o:OpD)(hp:PthOk o.path)(hd:PthOk o.dest)(hk:o.kind=3)(w0:World):An 135 #[.agg o.cells.toArray] w0 (.bool (Hs.right o)):=by
 have hM:=St.start w0 []
 obtain⟨kind,path,dest,hh,at_,n,data,pid,birth⟩:=o
 simp only at*
 have HP:=qh (fun W=>rIsO_any hp W)
 have HD:=qh (fun W=>rIsO_any hd W)
 unfold OpD.cells Hs.right Hs.pathB
 simp only
 clear hp hd
 subst hk
 rw[if_pos (by decide)]
 cases e1path:(path.toList==[]:Bool) with
 |true=>
  have e2path:(path.toList != [])=false:=by unfold bne;rw[e1path];rfl
  go_enter Tryz.func135,Tryz.ntmps135
  exact qwf
 |false=>
  have e2path:(path.toList != [])=true:=by unfold bne;rw[e1path];rfl
  generalize Pt.isP path=bpath at*
  cases bpath with
  |true=>
   go_enter Tryz.func135,Tryz.ntmps135
   (refine qw ?_;intros;rename_i hM)
   (refine qCB (HP.out _) hM ?_;clear hM;intro w' hM)
   exact qwf
  |false=>
   go_enter Tryz.func135,Tryz.ntmps135
   (refine qw ?_;intros;rename_i hM)
   (refine qCB (HP.out _) hM ?_;clear hM;intro w' hM)
   exact qwf
theorem rright_4(o:OpD)(hp:PthOk o.path)(hd:PthOk o.dest)(hk:o.kind=4)(w0:World):An 135 #[.agg o.cells.toArray] w0 (.bool (Hs.right o)):=by
 have hM:=St.start w0 []
 obtain⟨kind,path,dest,hh,at_,n,data,pid,birth⟩:=o
 simp only at*
 have HP:=qh (fun W=>rIsO_any hp W)
 have HD:=qh (fun W=>rIsO_any hd W)
 unfold OpD.cells Hs.right Hs.pathB
 simp only
 clear hp hd
 subst hk
 rw[if_pos (by decide)]
 cases e1path:(path.toList==[]:Bool) with
 |true=>
  have e2path:(path.toList != [])=false:=by unfold bne;rw[e1path];rfl
  go_enter Tryz.func135,Tryz.ntmps135
  exact qwf
 |false=>
  have e2path:(path.toList != [])=true:=by unfold bne;rw[e1path];rfl
  generalize Pt.isP path=bpath at*
  cases bpath with
  |true=>
   go_enter Tryz.func135,Tryz.ntmps135
   (refine qw ?_;intros;rename_i hM)
   (refine qCB (HP.out _) hM ?_;clear hM;intro w' hM)
   exact qwf
  |false=>
   go_enter Tryz.func135,Tryz.ntmps135
   (refine qw ?_;intros;rename_i hM)
   (refine qCB (HP.out _) hM ?_;clear hM;intro w' hM)
   exact qwf
theorem rright_11(o:OpD)(hp:PthOk o.path)(hd:PthOk o.dest)(hk:o.kind=11)(w0:World):An 135 #[.agg o.cells.toArray] w0 (.bool (Hs.right o)):=by
 have hM:=St.start w0 []
 obtain⟨kind,path,dest,hh,at_,n,data,pid,birth⟩:=o
 simp only at*
 have HP:=qh (fun W=>rIsO_any hp W)
 have HD:=qh (fun W=>rIsO_any hd W)
 unfold OpD.cells Hs.right Hs.pathB
 simp only
 clear hp hd
 subst hk
 rw[if_pos (by decide)]
 cases e1path:(path.toList==[]:Bool) with
 |true=>
  have e2path:(path.toList != [])=false:=by unfold bne;rw[e1path];rfl
  go_enter Tryz.func135,Tryz.ntmps135
  exact qwf
 |false=>
  have e2path:(path.toList != [])=true:=by unfold bne;rw[e1path];rfl
  generalize Pt.isP path=bpath at*
  cases bpath with
  |true=>
   go_enter Tryz.func135,Tryz.ntmps135
   (refine qw ?_;intros;rename_i hM)
   (refine qCB (HP.out _) hM ?_;clear hM;intro w' hM)
   exact qwf
  |false=>
   go_enter Tryz.func135,Tryz.ntmps135
   (refine qw ?_;intros;rename_i hM)
   (refine qCB (HP.out _) hM ?_;clear hM;intro w' hM)
   exact qwf
theorem rright_10(o:OpD)(hp:PthOk o.path)(hd:PthOk o.dest)(hk:o.kind=10)(w0:World):An 135 #[.agg o.cells.toArray] w0 (.bool (Hs.right o)):=by
 have hM:=St.start w0 []
 obtain⟨kind,path,dest,hh,at_,n,data,pid,birth⟩:=o
 simp only at*
 have HP:=qh (fun W=>rIsO_any hp W)
 have HD:=qh (fun W=>rIsO_any hd W)
 unfold OpD.cells Hs.right Hs.pathB
 simp only
 clear hp hd
 subst hk
 rw[if_neg (by decide),if_pos (by decide)]
 cases e1path:(path.toList==[]:Bool) with
 |true=>
  have e2path:(path.toList != [])=false:=by unfold bne;rw[e1path];rfl
  go_enter Tryz.func135,Tryz.ntmps135
  exact qwf
 |false=>
  have e2path:(path.toList != [])=true:=by unfold bne;rw[e1path];rfl
  generalize Pt.isP path=bpath at*
  cases bpath with
  |true=>
   cases e1dest:(dest.toList==[]:Bool) with
   |true=>
    have e2dest:(dest.toList != [])=false:=by unfold bne;rw[e1dest];rfl
    go_enter Tryz.func135,Tryz.ntmps135
    (refine qw ?_;intros;rename_i hM)
    (refine qCB (HP.out _) hM ?_;clear hM;intro w' hM)
    exact qwf
   |false=>
    have e2dest:(dest.toList != [])=true:=by unfold bne;rw[e1dest];rfl
    generalize Pt.isP dest=bdest at*
    cases bdest with
    |true=>
     go_enter Tryz.func135,Tryz.ntmps135
     (refine qw ?_;intros;rename_i hM)
     (refine qCB (HP.out _) hM ?_;clear hM;intro w' hM)
     (refine qw ?_;intros;rename_i hM)
     (refine qCB (HD.out _) hM ?_;clear hM;intro w' hM)
     exact qwf
    |false=>
     go_enter Tryz.func135,Tryz.ntmps135
     (refine qw ?_;intros;rename_i hM)
     (refine qCB (HP.out _) hM ?_;clear hM;intro w' hM)
     (refine qw ?_;intros;rename_i hM)
     (refine qCB (HD.out _) hM ?_;clear hM;intro w' hM)
     exact qwf
  |false=>
   go_enter Tryz.func135,Tryz.ntmps135
   (refine qw ?_;intros;rename_i hM)
   (refine qCB (HP.out _) hM ?_;clear hM;intro w' hM)
   exact qwf
theorem rright_12(o:OpD)(hp:PthOk o.path)(hd:PthOk o.dest)(hk:o.kind=12)(w0:World):An 135 #[.agg o.cells.toArray] w0 (.bool (Hs.right o)):=by
 have hM:=St.start w0 []
 obtain⟨kind,path,dest,hh,at_,n,data,pid,birth⟩:=o
 simp only at*
 have HP:=qh (fun W=>rIsO_any hp W)
 have HD:=qh (fun W=>rIsO_any hd W)
 unfold OpD.cells Hs.right Hs.pathB
 simp only
 clear hp hd
 subst hk
 rw[if_neg (by decide),if_pos (by decide)]
 cases e1path:(path.toList==[]:Bool) with
 |true=>
  have e2path:(path.toList != [])=false:=by unfold bne;rw[e1path];rfl
  go_enter Tryz.func135,Tryz.ntmps135
  exact qwf
 |false=>
  have e2path:(path.toList != [])=true:=by unfold bne;rw[e1path];rfl
  generalize Pt.isP path=bpath at*
  cases bpath with
  |true=>
   cases e1dest:(dest.toList==[]:Bool) with
   |true=>
    have e2dest:(dest.toList != [])=false:=by unfold bne;rw[e1dest];rfl
    go_enter Tryz.func135,Tryz.ntmps135
    (refine qw ?_;intros;rename_i hM)
    (refine qCB (HP.out _) hM ?_;clear hM;intro w' hM)
    exact qwf
   |false=>
    have e2dest:(dest.toList != [])=true:=by unfold bne;rw[e1dest];rfl
    generalize Pt.isP dest=bdest at*
    cases bdest with
    |true=>
     go_enter Tryz.func135,Tryz.ntmps135
     (refine qw ?_;intros;rename_i hM)
     (refine qCB (HP.out _) hM ?_;clear hM;intro w' hM)
     (refine qw ?_;intros;rename_i hM)
     (refine qCB (HD.out _) hM ?_;clear hM;intro w' hM)
     exact qwf
    |false=>
     go_enter Tryz.func135,Tryz.ntmps135
     (refine qw ?_;intros;rename_i hM)
     (refine qCB (HP.out _) hM ?_;clear hM;intro w' hM)
     (refine qw ?_;intros;rename_i hM)
     (refine qCB (HD.out _) hM ?_;clear hM;intro w' hM)
     exact qwf
  |false=>
   go_enter Tryz.func135,Tryz.ntmps135
   (refine qw ?_;intros;rename_i hM)
   (refine qCB (HP.out _) hM ?_;clear hM;intro w' hM)
   exact qwf
theorem rright_13(o:OpD)(hp:PthOk o.path)(hd:PthOk o.dest)(hk:o.kind=13)(w0:World):An 135 #[.agg o.cells.toArray] w0 (.bool (Hs.right o)):=by
 have hM:=St.start w0 []
 obtain⟨kind,path,dest,hh,at_,n,data,pid,birth⟩:=o
 simp only at*
 have HP:=qh (fun W=>rIsO_any hp W)
 have HD:=qh (fun W=>rIsO_any hd W)
 unfold OpD.cells Hs.right Hs.pathB
 simp only
 clear hp hd
 subst hk
 rw[if_neg (by decide),if_neg (by decide),if_pos rfl]
 go_enter Tryz.func135,Tryz.ntmps135
 (refine qw ?_;intros;rename_i hM)
 (refine qCB (HP.out _) hM ?_;clear hM;intro w' hM)
 exact qwf
theorem rright_x(o:OpD)(hp:PthOk o.path)(hd:PthOk o.dest)(h1:o.kind≠1)(h2:o.kind≠2)(h3:o.kind≠3)(h4:o.kind≠4)(h11:o.kind≠11)(h10:o.kind≠10)(h12:o.kind≠12)(h13:o.kind≠13)(w0:World):An 135 #[.agg o.cells.toArray] w0 (.bool (Hs.right o)):=by
 have hM:=St.start w0 []
 obtain⟨kind,path,dest,hh,at_,n,data,pid,birth⟩:=o
 simp only at*
 have HP:=qh (fun W=>rIsO_any hp W)
 have HD:=qh (fun W=>rIsO_any hd W)
 unfold OpD.cells Hs.right Hs.pathB
 simp only
 clear hp hd
 rw[if_neg (by omega),if_neg (by omega),if_neg h13]
 have b1:=qne.2 h1
 have b2:=qne.2 h2
 have b3:=qne.2 h3
 have b4:=qne.2 h4
 have b11:=qne.2 h11
 have b10:=qne.2 h10
 have b12:=qne.2 h12
 have b13:=qne.2 h13
 clear h1 h2 h3 h4 h11 h10 h12 h13
 by_cases h0:1≤kind
 ·by_cases hm:kind≤13
  ·rw[decide_eq_true h0,decide_eq_true hm]
   go_enter Tryz.func135,Tryz.ntmps135
   exact qwf
  ·have q1:decide (kind≤13)=false:=decide_eq_false hm
   rw[decide_eq_true h0,q1]
   clear hm
   go_enter Tryz.func135,Tryz.ntmps135
   exact qwf
 ·have q1:decide (1≤kind)=false:=decide_eq_false h0
  rw[q1]
  clear h0
  go_enter Tryz.func135,Tryz.ntmps135
  exact qwf
theorem rright_any(o:OpD)(hp:PthOk o.path)(hd:PthOk o.dest)(w0:World):An 135 #[.agg o.cells.toArray] w0 (.bool (Hs.right o)):=by
 by_cases h1:o.kind=1
 ·exact rright_1 o hp hd h1 w0
 by_cases h2:o.kind=2
 ·exact rright_2 o hp hd h2 w0
 by_cases h3:o.kind=3
 ·exact rright_3 o hp hd h3 w0
 by_cases h4:o.kind=4
 ·exact rright_4 o hp hd h4 w0
 by_cases h11:o.kind=11
 ·exact rright_11 o hp hd h11 w0
 by_cases h10:o.kind=10
 ·exact rright_10 o hp hd h10 w0
 by_cases h12:o.kind=12
 ·exact rright_12 o hp hd h12 w0
 by_cases h13:o.kind=13
 ·exact rright_13 o hp hd h13 w0
 exact rright_x o hp hd h1 h2 h3 h4 h11 h10 h12 h13 w0
end
end
section
open Go.RowKit Go.Maps
namespace Hs
def links(t:TabD)(hs:List HndD)(dir:Int)(s path:ByteArray):(Int×Int×ByteArray)×TabD×List HndD:=
 if In.findE t dir s≠0 then((In.findE t dir s,0,⟨#[]⟩),t,hs)
 else if(place t path).2.2≠0 then(((place t path).2.2,0,⟨#[]⟩),t,hs)
 else(((In.link t (In.findN t dir s) (place t path).1 (place t path).2.1).1,0,⟨#[]⟩),(In.link t (In.findN t dir s) (place t path).1 (place t path).2.1).2,hs)
end Hs
section
variable {w w' w0 w1 w2:World}{X X':RFX}{t t':TabD}{zs zs':List NodV}{hs hs':List HndD}{N:Nat}{F:List Nat}{L:List Ent}
theorem place_size{p:ByteArray}(h:PthOk p)(t:TabD):(Hs.place t p).2.1.size≤1000000000:=by
 unfold Hs.place
 cases he:(Pt.parts p).getLast? with
 |none=>exact Nat.zero_le _
 |some y=>exact h.each y (List.mem_of_getLast? he)
theorem rlinks_any(h:RFIs X t zs hs w0)(I:In.Inv N t)(hN:N≤900000)(dir:Int)(s path:ByteArray)(hs1:s.size≤1000000000)(hp:PthOk path):Calls Tryz.prog 146 #[.pointer (some ⟨X.f,0,none⟩),.int .i64 dir,.string s,.string path] w0 (RFRes X t zs hs w0 (Hs.links t hs dir s path)):=by
 obtain⟨xf,g,xs,xh,va,vc,rfl,hv,hM,HLK,HRI,HKG,HB⟩:=rf_all h
 have HV:=qh hv
 have HK:=qh h.hok
 have HL:=qh h.hlen
 have HFI:=qh (fun (W:World) (hA:At (rL ⟨g,xs⟩ t.quota (t.last+1) zs) W)=>rFindE_any (HRI.out W hA) I hN dir s hs1)
 have HPL:=qh (fun (W:World) hA=>rplace9_any (HLK.out W hA) I hN path hp.size hp.few hp.each)
 have HLI:=qh (fun (W:World) (hA:At (rL ⟨g,xs⟩ t.quota (t.last+1) zs) W)=>rLink_any (HRI.out W hA) I hN (In.findN t dir s) (Hs.place t path).1 (Hs.place t path).2.1 (place_size hp t))
 obtain⟨R,hR0⟩: ∃ R,Hs.links t hs dir s path=R:=⟨_,rfl⟩
 rw[hR0]
 unfold Hs.links at hR0
 generalize In.findE t dir s=c at*
 generalize In.findN t dir s=id at*
 generalize (Hs.place t path).2.2=c2 at*
 generalize (Hs.place t path).2.1=nm at*
 generalize (Hs.place t path).1=pd at*
 clear h I hv hs1 hp
 by_cases hc:c=0
 ·subst hc
  rw[if_neg (by simp)] at hR0
  by_cases hc2:c2=0
  ·subst hc2
   rw[if_neg (by simp)] at hR0
   have HR0:=qh hR0
   clear hR0
   go_enter Tryz.func146,Tryz.ntmps146
   (refine qw ?_;intros;rename_i hM)
   (refine qCB (HFI.out _ (hM.part (Part.skip (Part.skip (Part.past Part.all))))) hM ?_;clear hM;intro w' hM)
   (refine qw ?_;intros;rename_i hM)
   (refine qCB (HPL.out _ (hM.part (Part.skip Part.all))) hM ?_;clear hM;intro w' hM)
   (refine qw ?_;intros;rename_i hM)
   (refine qK3 (fun R hR=> ?_))
   refine(HLI.out _ (hM.part (Part.skip (Part.skip (Part.past Part.all))))).mono ?_
   rintro e w' ⟨rfl,s2,zs2,hzn2,hto⟩
   have HGR:=qh (Grow.trans (fun k hk=> .inl (HKG.out k hk)) hto.grow hM.only.size:Grow w0 (keysOf (rfL ⟨xf,⟨g,xs⟩,xh⟩ t.quota (t.last+1) zs hs)) _)
   replace hM:=hM.backG (Swap.skip (Swap.skip (Swap.past Swap.all))) hto.st rg_mem hto.grow
   refine hR.out _ _ ?_
   clear hR R
   have HZ:=qh (And.intro hto.raw.sl (And.intro hto.raw.names (And.intro hto.raw.len hzn2)))
   clear hto hzn2
   (refine qq ?_)
   (refine qw ?_;intros;rename_i hM)
   (refine qf ?_)
   rw[←HR0.out]
   refine⟨rfl,⟨xf,⟨g,s2⟩,xh⟩,zs2,St.rfTo ?_ rfl rfl HZ.out.1 HZ.out.2.1 HZ.out.2.2.1 HZ.out.2.2.2 HK.out HL.out HGR.out⟩
   rw[rfL_open (X:=⟨xf,⟨g,s2⟩,xh⟩) HV.out]
   exact hM.forget
  ·have q2:(c2 != 0)=true:=bne_iff_ne.2 hc2
   rw[if_pos hc2] at hR0
   have HR0:=qh hR0
   clear hR0 hc2
   go_enter Tryz.func146,Tryz.ntmps146
   (refine qw ?_;intros;rename_i hM)
   (refine qCB (HFI.out _ (hM.part (Part.skip (Part.skip (Part.past Part.all))))) hM ?_;clear hM;intro w' hM)
   (refine qw ?_;intros;rename_i hM)
   (refine qCB (HPL.out _ (hM.part (Part.skip Part.all))) hM ?_;clear hM;intro w' hM)
   (refine qw ?_;intros;rename_i hM)
   (refine qf ?_)
   rw[←HR0.out]
   exact⟨rfl,HB.out _ hM.forget⟩
 ·have q1:(c != 0)=true:=bne_iff_ne.2 hc
  rw[if_pos hc] at hR0
  have HR0:=qh hR0
  clear hR0 hc
  go_enter Tryz.func146,Tryz.ntmps146
  (refine qw ?_;intros;rename_i hM)
  (refine qCB (HFI.out _ (hM.part (Part.skip (Part.skip (Part.past Part.all))))) hM ?_;clear hM;intro w' hM)
  (refine qw ?_;intros;rename_i hM)
  (refine qf ?_)
  rw[←HR0.out]
  exact⟨rfl,HB.out _ hM.forget⟩
end
end
section
open Go.RowKit Go.Maps
namespace Hs
def gives(t:TabD)(hs:List HndD)(o id:Int):(Int×Int×ByteArray)×TabD×List HndD:=
 if(In.hold t id).1=0 then((0,free hs o,⟨#[]⟩),(In.hold t id).2,hs++[⟨o,free hs o,id⟩])
 else(((In.hold t id).1,0,⟨#[]⟩),(In.hold t id).2,hs)
def namedN (t : TabD) (hs : List HndD) (o : Int) (p : OpD) (dir : Int) (s : ByteArray) : (Int × Int × ByteArray) × TabD × List HndD :=
  if p.kind = 1 then (((In.make t dir s true).2.1, 0, ⟨#[]⟩), (In.make t dir s true).2.2, hs)
  else if p.kind = 2 then (((In.remove t dir s).1, 0, ⟨#[]⟩), (In.remove t dir s).2, hs)
  else if p.kind = 11 then (((In.unlink t dir s).1, 0, ⟨#[]⟩), (In.unlink t dir s).2, hs)
  else if p.kind = 3 then
    (if (In.make t dir s false).2.1 ≠ 0 then (((In.make t dir s false).2.1, 0, ⟨#[]⟩), (In.make t dir s false).2.2, hs)
     else gives (In.make t dir s false).2.2 hs o (In.make t dir s false).1)
  else if p.kind = 4 then
    (if In.findE t dir s ≠ 0 then ((In.findE t dir s, 0, ⟨#[]⟩), t, hs) else gives t hs o (In.findN t dir s))
  else if p.kind = 10 then links t hs dir s p.dest
  else if (place t p.dest).2.2 ≠ 0 then (((place t p.dest).2.2, 0, ⟨#[]⟩), t, hs)
  else (((In.rename t dir s (place t p.dest).1 (place t p.dest).2.1).1, 0, ⟨#[]⟩), (In.rename t dir s (place t p.dest).1 (place t p.dest).2.1).2, hs)
def doN(t:TabD)(hs:List HndD)(o:Int)(p:OpD):(Int×Int×ByteArray)×TabD×List HndD:=
 if right p=false then((1,0,⟨#[]⟩),t,hs)
 else if p.kind=5∨p.kind=6∨p.kind=7∨p.kind=8∨p.kind=9 then handled t hs o p
 else if(p.kind=3∨p.kind=4)∧8≤many hs o then((5,0,⟨#[]⟩),t,hs)
 else if(place t p.path).2.2≠0 then(((place t p.path).2.2,0,⟨#[]⟩),t,hs)
 else namedN t hs o p (place t p.path).1 (place t p.path).2.1
def lists(t:TabD)(p:ByteArray):ResD:=
 if(Fs.walkL t 1 (Pt.parts p)).2≠0 then Fs.errR (Fs.walkL t 1 (Pt.parts p)).2
 else⟨In.listE t (Fs.walkL t 1 (Pt.parts p)).1,0,⟨#[]⟩,In.list t (Fs.walkL t 1 (Pt.parts p)).1⟩
def do_(t:TabD)(hs:List HndD)(o:Int)(p:OpD):ResD×TabD×List HndD:=
 if right p=true∧p.kind=13 then(lists t p.path,t,hs)
 else(⟨(doN t hs o p).1.1,(doN t hs o p).1.2.1,(doN t hs o p).1.2.2,[]⟩,(doN t hs o p).2)
end Hs
section
variable {w w' w0 w1 w2:World}{X X1 X':RFX}{t t1 t':TabD}{zs zs1 zs':List NodV}{hs hs1 hs':List HndD}{N:Nat}{F:List Nat}{L:List Ent}
theorem RFTo.refl(h:RFIs X t zs hs w):RFTo X t zs hs X t zs hs w w:=⟨rfl,rfl,h,Only.refl _ w,fun k hk=> .inl (mem_rfG.2 (.inr (.inl hk))),Grow.refl _ _⟩
theorem RFTo.below(h:RFTo X t zs hs X' t' zs' hs' w0 w)(hb:Below w.heap.size w w'):RFTo X t zs hs X' t' zs' hs' w0 w':=⟨h.f,h.g,h.is.below hb,h.only.below (hb.mono h.only.size),h.own,h.grow⟩
theorem RFTo.trans(h:RFTo X t zs hs X1 t1 zs1 hs1 w0 w1)(k:RFTo X1 t1 zs1 hs1 X' t' zs' hs' w1 w2):RFTo X t zs hs X' t' zs' hs' w0 w2:=by
 have hG: ∀ x∈rfG X1 hs1,x∈rfG X hs∨w0.heap.size≤x:=fun x hx=>by
  rcases mem_rfG.1 hx with e|e|e
  ·exact .inl (mem_rfG.2 (.inl (e.trans h.f)))
  ·exact h.own x e
  ·exact .inl (mem_rfG.2 (.inr (.inr (e.trans h.g))))
 refine⟨k.f.trans h.f,k.g.trans h.g,k.is,h.only.then k.only hG,fun x hx=> ?_,h.grow.trans k.grow h.only.size⟩
 rcases k.own x hx with h1|h1
 ·exact hG x h1
 ·exact .inr (Nat.le_trans h.only.size h1)
theorem RFDid.same(h:RFIs X t zs hs w)(hb:Below w.heap.size w w'):RFDid X t zs hs t hs w w':=⟨X,zs,(RFTo.refl h).below hb⟩
theorem RFDid.pre(h:RFIs X t zs hs w0)(hb:Below w0.heap.size w0 w)(hd:RFDid X t zs hs t' hs' w w'):RFDid X t zs hs t' hs' w0 w':=by
 obtain⟨X',zs',h2⟩:=hd
 exact⟨X',zs',((RFTo.refl h).below hb).trans h2⟩
theorem RFDid.below(hd:RFDid X t zs hs t' hs' w0 w)(hb:Below w.heap.size w w'):RFDid X t zs hs t' hs' w0 w':=by
 obtain⟨X',zs',h2⟩:=hd
 exact⟨X',zs',h2.below hb⟩
theorem RFDid.tbl(h:RFIs X t zs hs w)(hd:RDid X.x t zs t' w w'):RFDid X t zs hs t' hs w w':=by
 obtain⟨xf,⟨g,xs⟩,xh⟩:=X
 obtain⟨s2,zs2,hzn2,hto⟩:=hd
 obtain⟨va,vc,hv,-⟩:=slV_open h.hok
 have hM:=h.st
 rw[rfL_open (X:=⟨xf,⟨g,xs⟩,xh⟩) hv] at hM
 simp only at hM hv
 replace hM:=hM.backG (Swap.skip (Swap.past Swap.all)) hto.st rg_mem hto.grow
 refine⟨⟨xf,⟨g,s2⟩,xh⟩,zs2,St.rfTo ?_ rfl rfl hto.raw.sl hto.raw.names hto.raw.len hzn2 h.hok h.hlen (fun k hk=> ?_)⟩
 ·rw[rfL_open (X:=⟨xf,⟨g,s2⟩,xh⟩) hv]
  exact hM
 ·rcases hto.grow k hk with h1|h1
  ·exact .inl (by rw[rfL_keys];exact .tail _ (List.mem_append_right _ h1))
  ·exact .inr h1
def RFAns(X:RFX)(t:TabD)(zs:List NodV)(hs:List HndD)(w:World)(r:ResD×TabD×List HndD)(e:Ending)(w':World):Prop:=
 ∃ s X' zs',e= .returned (.agg #[.int .i64 r.1.err,.int .i64 r.1.n,.string r.1.data,slV s r.1.names.length])∧TxOK s r.1.names∧At (txL s r.1.names) w'∧(∀ k∈keysOf (txL s r.1.names),w.heap.size≤k∧k∉keysOf (rfL X' r.2.1.quota (r.2.1.last+1) zs' r.2.2))∧RFTo X t zs hs X' r.2.1 zs' r.2.2 w w'
end
end
section
open Go.RowKit Go.Maps
section
variable {w w' w0 w1 w2:World}{X X1 X':RFX}{t t1 t':TabD}{zs zs1 zs':List NodV}{hs hs1 hs':List HndD}{N:Nat}{F:List Nat}{L:List Ent}
theorem rfL_sub_keys{q nx:Int}: ∀ k∈keysOf (rL X.x q nx zs),k∈keysOf (rfL X q nx zs hs):=fun k hk=>by rw[rfL_keys];exact .tail _ (List.mem_append_right _ hk)
theorem RFTo.fin(hto:RFTo X1 t1 zs1 hs1 X' t' zs' hs' w1 w2)(hM:St w0 (rfG X hs) w' (rfL X' t'.quota (t'.last+1) zs' hs'))(hf:X1.f=X.f)(hg:X1.x.g=X.x.g)
  (hgr:Grow w0 (keysOf (rfL X t.quota (t.last+1) zs hs)) (keysOf (rfL X' t'.quota (t'.last+1) zs' hs'))):RFDid X t zs hs t' hs' w0 w':=
 ⟨X',zs',St.rfTo hM (hto.f.trans hf) (hto.g.trans hg) hto.is.sl hto.is.names hto.is.len hto.is.nodes hto.is.hok hto.is.hlen fun k hk=>hgr k (rfL_sub_keys k hk)⟩
theorem Grow.full{s:Option (Nat×Nat)}{xf g:Nat}{xs xh:Option (Nat×Nat)}{q nx q' nx':Int}{zs2:List NodV}(h:Grow w0 (keysOf (rfL ⟨xf,⟨g,xs⟩,xh⟩ q nx zs hs)) (keysOf (rL ⟨g,s⟩ q' nx' zs2))):Grow w0 (keysOf (rfL ⟨xf,⟨g,xs⟩,xh⟩ q nx zs hs)) (keysOf (rfL ⟨xf,⟨g,s⟩,xh⟩ q' nx' zs2 hs)):=fun k hk=>by
 rw[rfL_keys] at hk
 rcases List.mem_cons.1 hk with rfl|hk
 ·exact .inl (by rw[rfL_keys];exact .head _)
 ·rcases List.mem_append.1 hk with hk|hk
  ·exact .inl (by rw[rfL_keys];exact .tail _ (List.mem_append_left _ hk))
  ·exact h k hk
theorem named9_1{o:Int}{p:OpD}{dir:Int}{s:ByteArray}(hk:p.kind=1):Hs.namedN t hs o p dir s=(((In.make t dir s true).2.1,0,⟨#[]⟩),(In.make t dir s true).2.2,hs):=by unfold Hs.namedN;rw[if_pos hk]
theorem named9_2{o:Int}{p:OpD}{dir:Int}{s:ByteArray}(hk:p.kind=2):Hs.namedN t hs o p dir s=(((In.remove t dir s).1,0,⟨#[]⟩),(In.remove t dir s).2,hs):=by unfold Hs.namedN;rw[if_neg (by omega),if_pos hk]
theorem named9_11{o:Int}{p:OpD}{dir:Int}{s:ByteArray}(hk:p.kind=11):Hs.namedN t hs o p dir s=(((In.unlink t dir s).1,0,⟨#[]⟩),(In.unlink t dir s).2,hs):=by unfold Hs.namedN;rw[if_neg (by omega),if_neg (by omega),if_pos hk]
theorem named9_3{o:Int}{p:OpD}{dir:Int}{s:ByteArray}(hk:p.kind=3):Hs.namedN t hs o p dir s=(if(In.make t dir s false).2.1≠0 then(((In.make t dir s false).2.1,0,⟨#[]⟩),(In.make t dir s false).2.2,hs) else Hs.gives (In.make t dir s false).2.2 hs o (In.make t dir s false).1):=by unfold Hs.namedN;rw[if_neg (by omega),if_neg (by omega),if_neg (by omega),if_pos hk]
theorem named9_4{o:Int}{p:OpD}{dir:Int}{s:ByteArray}(hk:p.kind=4):Hs.namedN t hs o p dir s=(if In.findE t dir s≠0 then((In.findE t dir s,0,⟨#[]⟩),t,hs) else Hs.gives t hs o (In.findN t dir s)):=by unfold Hs.namedN;rw[if_neg (by omega),if_neg (by omega),if_neg (by omega),if_neg (by omega),if_pos hk]
theorem named9_10{o:Int}{p:OpD}{dir:Int}{s:ByteArray}(hk:p.kind=10):Hs.namedN t hs o p dir s=Hs.links t hs dir s p.dest:=by unfold Hs.namedN;rw[if_neg (by omega),if_neg (by omega),if_neg (by omega),if_neg (by omega),if_neg (by omega),if_pos hk]
theorem named9_12{o:Int}{p:OpD}{dir:Int}{s:ByteArray}(hk:p.kind=12):Hs.namedN t hs o p dir s=(if(Hs.place t p.dest).2.2≠0 then(((Hs.place t p.dest).2.2,0,⟨#[]⟩),t,hs) else(((In.rename t dir s (Hs.place t p.dest).1 (Hs.place t p.dest).2.1).1,0,⟨#[]⟩),(In.rename t dir s (Hs.place t p.dest).1 (Hs.place t p.dest).2.1).2,hs)):=by unfold Hs.namedN;rw[if_neg (by omega),if_neg (by omega),if_neg (by omega),if_neg (by omega),if_neg (by omega),if_neg (by omega)]
theorem rdo9_bad(h:RFIs X t zs hs w0)(I:In.Inv N t)(hN:N≤899990)(hl:hs.length≤900000)(o:Int)(p:OpD)(hp:PthOk p.path)(hd:PthOk p.dest)(hz:p.data.size≤1000000000)(hr:Hs.right p=false):Calls Tryz.prog 87 #[.pointer (some ⟨X.f,0,none⟩),.int .i64 o,.agg p.cells.toArray] w0 (RFRes X t zs hs w0 (Hs.doN t hs o p)):=by
 have hM:=St.start w0 []
 have HRT:=qh (fun (W:World)=>rright_any p hp hd W)
 have HS:=qh (fun (W:World) (hb:Below w0.heap.size w0 W)=>RFDid.same h hb)
 obtain⟨R,hR0⟩: ∃ R,Hs.doN t hs o p=R:=⟨_,rfl⟩
 rw[hR0]
 unfold Hs.doN at hR0
 rw[hr] at HRT hR0
 rw[if_pos rfl] at hR0
 have HR0:=qh hR0
 obtain⟨kind,path,dest,hh,at_,n,data,pid,birth⟩:=p
 simp only at*
 unfold OpD.cells at*
 simp only at*
 clear h I hr hR0 hp hd hz hl
 go_enter Tryz.func87,Tryz.ntmps87
 (refine qw ?_;intros;rename_i hM)
 (refine qCB (HRT.out _) hM ?_;clear hM;intro w' hM)
 (refine qw ?_;intros;rename_i hM)
 (refine qf ?_)
 rw[←HR0.out]
 exact⟨rfl,HS.out _ hM.to_below⟩
theorem rdo9_hh(h:RFIs X t zs hs w0)(I:In.Inv N t)(hN:N≤899990)(hl:hs.length≤900000)(o:Int)(p:OpD)(hp:PthOk p.path)(hd:PthOk p.dest)(hz:p.data.size≤1000000000)(hr:Hs.right p=true)(hk:p.kind=5∨p.kind=6∨p.kind=7∨p.kind=8∨p.kind=9):Calls Tryz.prog 87 #[.pointer (some ⟨X.f,0,none⟩),.int .i64 o,.agg p.cells.toArray] w0 (RFRes X t zs hs w0 (Hs.doN t hs o p)):=by
 rcases hk with hk|hk|hk|hk|hk
 all_goals as_aux_lemma=>
  obtain⟨xf,g,xs,xh,va,vc,rfl,hv,hM,HLK,HRI,HKG,HB⟩:=rf_all h
  have HV:=qh hv
  have HK:=qh h.hok
  have HL:=qh h.hlen
  have HRT:=qh (fun (W:World)=>rright_any p hp hd W)
  have HC:=qh (fun (W:World) hA=>rhandled_any (HLK.out W hA) I (by omega) o p hz)
  obtain⟨R,hR0⟩: ∃ R,Hs.doN t hs o p=R:=⟨_,rfl⟩
  rw[hR0]
  unfold Hs.doN at hR0
  rw[hr] at HRT hR0
  rw[if_neg (by simp),if_pos (by omega)] at hR0
  have HR0:=qh hR0
  clear hR0
  generalize Hs.handled t hs o p=R1 at*
  obtain⟨kind,path,dest,hh,at_,n,data,pid,birth⟩:=p
  simp only at*
  unfold OpD.cells at*
  simp only at*
  subst hk
  clear h I hv hr hp hd hz hl
  go_enter Tryz.func87,Tryz.ntmps87
  (refine qw ?_;intros;rename_i hM)
  (refine qCB (HRT.out _) hM ?_;clear hM;intro w' hM)
  (refine qw ?_;intros;rename_i hM)
  (refine qKx ?_;intro R hR)
  refine(HC.out _ (hM.part (Part.skip (Part.skip Part.all)))).mono ?_
  rintro e w' ⟨rfl,X2,zs2,hto⟩
  have HGW:=qh (Grow.trans (Grow.refl w0 _) hto.grow hM.only.size)
  rw[←rfL_open (X:=⟨xf,⟨g,xs⟩,xh⟩) HV.out] at hM
  replace hM:=hM.backG (Swap.skip (Swap.skip Swap.all)) hto.st rfG_mem hto.grow
  refine qho ?_
  clear hR R
  have HTO:=qh hto
  clear hto HC
  (refine qq ?_)
  (refine qw ?_;intros;rename_i hM)
  (refine qf ?_)
  rw[←HR0.out]
  exact⟨rfl,HTO.out.fin hM.forget.forget rfl rfl HGW.out⟩
theorem rdo9_ff(h:RFIs X t zs hs w0)(I:In.Inv N t)(hN:N≤899990)(hl:hs.length≤900000)(o:Int)(p:OpD)(hp:PthOk p.path)(hd:PthOk p.dest)(hz:p.data.size≤1000000000)(hr:Hs.right p=true)(hk:p.kind=3∨p.kind=4)(h8:8≤Hs.many hs o):Calls Tryz.prog 87 #[.pointer (some ⟨X.f,0,none⟩),.int .i64 o,.agg p.cells.toArray] w0 (RFRes X t zs hs w0 (Hs.doN t hs o p)):=by
 rcases hk with hk|hk
 all_goals as_aux_lemma=>
  obtain⟨xf,g,xs,xh,va,vc,rfl,hv,hM,HLK,HRI,HKG,HB⟩:=rf_all h
  have HV:=qh hv
  have HK:=qh h.hok
  have HL:=qh h.hlen
  have HRT:=qh (fun (W:World)=>rright_any p hp hd W)
  have HMA:=qh (fun (W:World) hA=>rmany_any (HLK.out W hA) o)
  obtain⟨R,hR0⟩: ∃ R,Hs.doN t hs o p=R:=⟨_,rfl⟩
  rw[hR0]
  unfold Hs.doN at hR0
  rw[hr] at HRT hR0
  rw[if_neg (by simp),if_neg (by omega),if_pos ⟨by omega,h8⟩] at hR0
  have HR0:=qh hR0
  clear hR0
  obtain⟨kind,path,dest,hh,at_,n,data,pid,birth⟩:=p
  simp only at*
  unfold OpD.cells at*
  simp only at*
  subst hk
  generalize Hs.many hs o=m at*
  have m8:decide ((8:Int)≤(m:Int))=true:=decide_eq_true (by omega)
  clear h I hv hr hp hd hz hl h8
  go_enter Tryz.func87,Tryz.ntmps87
  (refine qw ?_;intros;rename_i hM)
  (refine qCB (HRT.out _) hM ?_;clear hM;intro w' hM)
  (refine qw ?_;intros;rename_i hM)
  (refine qCB (HMA.out _ (hM.part (Part.skip (Part.skip Part.all)))) hM ?_;clear hM;intro w' hM)
  (refine qw ?_;intros;rename_i hM)
  (refine qf ?_)
  rw[←HR0.out]
  exact⟨rfl,HB.out _ hM.forget.forget⟩
end
end
section
open Go.RowKit Go.Maps
section
variable {w w' w0:World}{F:List Nat}{L M:List Ent}{zs:List NodV}{x:RX}{t:TabD}{N:Nat}{q nx:Int}
theorem rRename_any(h:RIs x t zs w0)(I:In.Inv N t)(hN:N≤900000)(dir:Int)(s:ByteArray)(tod:Int)(as_:ByteArray)(hs:s.size≤1000000000)(hs2:as_.size≤1000000000):
  Calls Tryz.prog 147 #[.pointer (some ⟨x.g,0,none⟩),.int .i64 dir,.string s,.int .i64 tod,.string as_] w0 fun e w'=>e= .returned (.int .i64 (In.rename t dir s tod as_).1)∧RDid x t zs (In.rename t dir s tod as_).2 w0 w':=by
 by_cases hF:In.findE t dir s=0
 ·obtain⟨d,hd,hdd,hl,hfn⟩:=In.findE_ok hF
  obtain⟨n,hn⟩:=I.leads d (In.find_some hd).1 _ (In.leads_some hl)
  simp only at hn
  obtain⟨z,hfz,hzd⟩:=h.some hd
  obtain⟨y,hfy,hyn⟩:=h.some hn
  subst hzd hyn
  have hy:=(rfind_mem hfy).1
  have hz:=(rfind_mem hfz).1
  (obtain⟨g,xs,va,vc,U,rfl,hv,hU,hM,HRP,HOP,HAT,HB⟩:=r_all h)
  obtain⟨ya,yc,hyv,-⟩:=slV_open (h.raw.names y hy)
  have HFI:=qh (fun (W:World) (hA:At ((g,true,Res.cells [.int .i64 t.quota,.int .i64 (t.last+1),.slice va zs.length vc] 146)::U) W)=>rFindE_any (HAT.out W hA) I hN dir s hs)
  have HG:=qh (fun (W:World) (hA:At ((g,true,Res.cells [.int .i64 t.quota,.int .i64 (t.last+1),.slice va zs.length vc] 146)::U) W)=>rget_some (HAT.out W hA).raw hfy)
  rw[hF,hfn] at HFI
  rw[NodV.open hyv] at HG
  cases hyd:y.1.dir with
  |true=>
   have HE:=qh (In.rename_bad (t:=t) (dir:=dir) (s:=s) (tod:=tod) (as_:=as_) (e:=12) (by decide) (by rw[In.renameE_un (by rw[unlinkE_find hF,hfn,In.getE_some hn,hyd];decide),unlinkE_find hF,hfn,In.getE_some hn,hyd];rfl))
   rw[hyd] at HG
   generalize In.leads z.1.names s=k at*
   (have HH:=qh h;have HI:=qh I;clear h I hv hU)
   clear hF hd hdd hl hfn hn
   go_enter Tryz.func147,Tryz.ntmps147
   (refine qw ?_;intros;rename_i hM)
   (refine qCB (HFI.out _ (hM.part qpt)) hM ?_;clear hM;intro w' hM)
   (refine qw ?_;intros;rename_i hM)
   (refine qCB (HG.out _ (hM.part qpt)) hM ?_;clear hM;intro w' hM)
   (refine qw ?_;intros;rename_i hM)
   ((refine qf ?_);(rw[HE.out]);exact⟨rfl,HB.out _ (hM.part qpt) hM.only⟩)
  |false=>
   rw[hyd] at HG
   have hU0:In.unlinkE t dir s=0:=by rw[unlinkE_find hF,hfn,In.getE_some hn,hyd];rfl
   cases hft:rfind zs tod with
   |none=>
    have hne3:In.placeE t tod as_=3:=In.placeE_none (by rw[h.find tod,hft];rfl)
    have HE:=qh (In.rename_bad (t:=t) (dir:=dir) (s:=s) (tod:=tod) (as_:=as_) (e:=3) (by decide) (by rw[In.renameE_place hU0 (by rw[hne3];decide),hne3]))
    have HP:=qh (fun (W:World) (hA:At ((g,true,Res.cells [.int .i64 t.quota,.int .i64 (t.last+1),.slice va zs.length vc] 146)::U) W)=>rplace_none (s:=as_) (HAT.out W hA).raw hft)
    unfold nodZ at HP
    generalize In.leads z.1.names s=k at*
    (have HH:=qh h;have HI:=qh I;clear h I hv hU)
    clear hF hd hdd hl hfn hn hU0 hne3
    go_enter Tryz.func147,Tryz.ntmps147
    (refine qw ?_;intros;rename_i hM)
    (refine qCB (HFI.out _ (hM.part qpt)) hM ?_;clear hM;intro w' hM)
    (refine qw ?_;intros;rename_i hM)
    (refine qCB (HG.out _ (hM.part qpt)) hM ?_;clear hM;intro w' hM)
    (refine qw ?_;intros;rename_i hM)
    (refine qCB (HP.out _ (hM.part qpt)) hM ?_;clear hM;intro w' hM)
    (refine qw ?_;intros;rename_i hM)
    ((refine qf ?_);(rw[HE.out]);exact⟨rfl,HB.out _ (hM.part qpt) hM.only⟩)
   |some v=>
    have hv':=(rfind_mem hft).1
    have he:In.find t.nodes tod=some v.1:=by rw[h.find tod,hft];rfl
    obtain⟨wa,wc,hwv,-⟩:=slV_open (h.raw.names v hv')
    have HP:=qh (fun (W:World) (hA:At ((g,true,Res.cells [.int .i64 t.quota,.int .i64 (t.last+1),.slice va zs.length vc] 146)::U) W)=>rplace_some (s:=as_) (HAT.out W hA).raw hs2 hft)
    have HLD:=qh (fun (W:World) (hA:At ((g,true,Res.cells [.int .i64 t.quota,.int .i64 (t.last+1),.slice va zs.length vc] 146)::U) W)=>rleads_any v ((HAT.out W hA).raw.nm (h.nl I hN) hv') as_)
    have HWO:=qh (fun (W:World) (hA:At ((g,true,Res.cells [.int .i64 t.quota,.int .i64 (t.last+1),.slice va zs.length vc] 146)::U) W)=>rwithout_any v ((HAT.out W hA).raw.nm (h.nl I hN) hv') as_)
    rw[NodV.open hwv] at HP HLD HWO
    rw[placeN_E h hft as_] at HP
    have HGU:=qh (fun (u:NodV) (hfu:rfind zs (In.leads v.1.names as_)=some u) (W:World) (hA:At ((g,true,Res.cells [.int .i64 t.quota,.int .i64 (t.last+1),.slice va zs.length vc] 146)::U) W)=>rget_some (HAT.out W hA).raw hfu)
    have HSU:=qh (fun (n:NodeD) (hn:In.find t.nodes (In.leads v.1.names as_)=some n)=>h.some hn)
    have HNM:=qh h.raw.names
    (have HH:=qh h;have HI:=qh I;clear h I hv hU)
    generalize hk:In.leads z.1.names s=k at HFI HG
    generalize hc:In.placeE t tod as_=c at HP
    generalize hi:In.leads v.1.names as_=i at HLD
    go_enter Tryz.func147,Tryz.ntmps147
    (refine qw ?_;intros;rename_i hM)
    (refine qCB (HFI.out _ (hM.part qpt)) hM ?_;clear hM;intro w' hM)
    (refine qw ?_;intros;rename_i hM)
    (refine qCB (HG.out _ (hM.part qpt)) hM ?_;clear hM;intro w' hM)
    (refine qw ?_;intros;rename_i hM)
    (refine qCB (HP.out _ (hM.part qpt)) hM ?_;clear hM;intro w' hM)
    (refine qw ?_;intros;rename_i hM)
    by_cases hc0:c=0
    ·subst hc0
     have hvd:v.1.dir=true:=by
      obtain⟨d,h1,h2,-⟩:=In.placeE_ok hc
      rw[he] at h1
      rw[Option.some.inj h1]
      exact h2
     (refine qw ?_;intros;rename_i hM)
     (refine qCB (HLD.out _ (hM.part qpt)) hM ?_;clear hM;intro w' hM)
     by_cases hik:i=k
     ·have q2:(i==k)=true:=beq_iff_eq.2 hik
      have HE:=qh (show In.rename t dir s tod as_=(0,t) by rw[In.rename_yes (by rw[In.renameE_at hU0 hc he,hfn,hi,hk,if_pos hik]),In.renameT_at he,hfn,hi,hk,if_pos hik])
      have hik':=qh hik
      clear hik hc hi hk he hvd hU0 hF hd hdd hl hfn hn
      (refine qw ?_;intros;rename_i hM)
      ((refine qf ?_);(rw[HE.out]);exact⟨rfl,HB.out _ (hM.part qpt) hM.only⟩)
     ·have q2:(i==k)=false:=qne.2 hik
      have hip:i=0∨0<i:=by rw[←hi];exact RIs.lead HI.out he
      rcases hip with hi0|hi0
      ·have HE:=qh (show In.rename t dir s tod as_=(0,In.renameIn t dir s tod as_ k) by rw[In.rename_yes (by rw[In.renameE_at hU0 hc he,hfn,hi,hk,if_neg hik,if_pos hi0]),In.renameT_at he,hfn,hi,hk,if_neg hik,if_pos hi0])
       have HD2:=qh hd
       have HV0:=qh (show In.leads v.1.names as_=0 by rw[hi];exact hi0)
       have HVE:=qh he
       have HLN:=qh hl
       have HKE:=qh hk
       have HID:=qh (HH.out.ids HI.out)
       have k9:¬0<i:=by omega
       clear hik hc hi hk he hvd hU0 hF hd hl hfn hn hi0
       (refine qw ?_;intros;rename_i hM)
       rw[←HOP.out] at hM
       replace hM:=St.forget2 hM
       have hp2:RP g xs t.quota (t.last+1) zs (keysOf (rL ⟨g,xs⟩ t.quota (t.last+1) zs)) w0:=HRP.out
       have HKN:=qh (show k≠0 by rw[←HKE.out];exact HLN.out)
       have HM2:=qh (show ∃ d2 e2,In.find t.nodes dir=some d2∧d2.dir=true∧In.leads d2.names s=k∧In.find t.nodes tod=some e2∧In.leads e2.names as_=0 from ⟨z.1,v.1,HD2.out,hdd,HKE.out,HVE.out,HV0.out⟩)
       obtain⟨d2,e2,hd2,hdd2,hl2,he2,hw2⟩:=HM2.out
       obtain⟨e3,h3,hlen3,hno3⟩:=In.rename_end HI.out hd2 hdd2 (by rw[hl2];exact HKN.out) he2 hw2 k
       obtain⟨z2,hfz2,hz2e⟩: ∃ z2,rfind zs dir=some z2∧z2.1=d2:=by
        have h1:=hd2
        rw[←HH.out.nodes,rfind_map] at h1
        cases h2:rfind zs dir with
        |none=>rw[h2] at h1;cases h1
        |some z2=>rw[h2] at h1;exact⟨z2,rfl,Option.some.inj h1⟩
       have hz2l:z2.1.names.length≤1000000:=by
        have h1:=names_le (In.find_some hd2).1
        have h2:=HI.out.tot
        rw[hz2e]
        omega
       have HG2:=qh (fun (W:World) (hA:At (rL ⟨g,xs⟩ t.quota (t.last+1) zs) W)=>rget_some (hp2.raw hA) hfz2)
       have HW2:=qh (fun (W:World) (hA:At (rL ⟨g,xs⟩ t.quota (t.last+1) zs) W)=>rwithout_any z2 ⟨hp2.names _ (rfind_mem hfz2).1,fun y hy=>(hp2.raw hA).ents.has y (List.mem_flatMap.2 ⟨z2,(rfind_mem hfz2).1,hy⟩),hz2l⟩ s)
       obtain⟨ca,cc,hcv,-⟩:=slV_open (hp2.names z2 (rfind_mem hfz2).1)
       rw[NodV.open hcv] at HG2 HW2
       have HNO3:=qh (fun p'=>(show(rset zs ((z2.1.setNames (In.without z2.1.names s),p'):NodV)).map (·.1)=(In.nameOut (t) dir s).nodes by rw[rput_nodes,HH.out.nodes,hz2e];exact In.rput_without HI.out hd2 s))
       have HI3:=qh h3
       have HL3:=qh hlen3
       have HN3:=qh hno3
       have HF2:=qh hfz2
       have HID2:=qh (HID.out)
       clear h3 hlen3 hno3 hfz2 hcv hd2 hdd2 hl2 he2 hw2 hz2e hz2l
       (refine qw ?_;intros;rename_i hM)
       (refine qCB (HG2.out _ (hM.part qpt)) hM ?_;clear hM;intro w' hM)
       (refine qw ?_;intros;rename_i hM)
       (refine qK3 (fun R hR=> ?_))
       refine(HW2.out _ (hM.part qpt)).mono ?_
       rintro e w' ⟨p',rfl,hok,hst⟩;refine hR.out _ _ ?_;clear hR R
       replace hM:=hM.madeM hst (slL_flag _ _ _ _)
       clear hst
       replace hM:=(St.rot hM).forget
       replace hM:=St.rot hM
       (refine qq ?_)
       (refine qw ?_;intros;rename_i hM)
       (refine qK3 (fun R hR=> ?_))
       refine(rputX_any hp2 hM qsf HID2.out hok).mono ?_
       rintro e w' ⟨rfl,s3,hM1,hp3⟩;refine hR.out _ _ ?_;clear hR R hM
       have hM:=St.unF hM1 qsw
       clear hM1
       (refine qq ?_)
       (refine qw ?_;intros;rename_i hM)
       have hno3p:=HNO3.out p'
       generalize hzs3:rset zs ((z2.1.setNames (In.without z2.1.names s),p'):NodV)=zs3 at*
       obtain⟨v3,hfv3,hv3e⟩: ∃ v3,rfind zs3 tod=some v3∧v3.1=e3:=by
        have h1:=HI3.out
        rw[←hno3p,rfind_map] at h1
        cases h2:rfind zs3 tod with
        |none=>rw[h2] at h1;cases h1
        |some v3=>rw[h2] at h1;exact⟨v3,rfl,Option.some.inj h1⟩
       have hv3l:v3.1.names.length≤1000000:=by
        have h1:=HL3.out
        rw[hv3e]
        omega
       have hp3':=hp3
       have HG3:=qh (fun (W:World) (hA:At (rL ⟨g,s3⟩ t.quota (t.last+1) zs3) W)=>rget_some (hp3'.raw hA) hfv3)
       have HW3:=qh (fun (W:World) (hA:At (rL ⟨g,s3⟩ t.quota (t.last+1) zs3) W)=>rwith_any v3 ⟨hp3'.names _ (rfind_mem hfv3).1,fun y hy=>(hp3'.raw hA).ents.has y (List.mem_flatMap.2 ⟨v3,(rfind_mem hfv3).1,hy⟩),hv3l⟩ as_ k)
       obtain⟨da,dc,hdv,-⟩:=slV_open (hp3'.names v3 (rfind_mem hfv3).1)
       rw[NodV.open hdv] at HG3 HW3
       have HNO4:=qh (fun p'=>(show(rset zs3 ((v3.1.setNames (ins (as_,k) v3.1.names),p'):NodV)).map (·.1)=(In.renameIn (t) dir s tod as_ k).nodes by rw[rput_nodes,hno3p,hv3e];exact HN3.out))
       have HID3:=qh (show Ids zs3 from hzs3▸ids_rset _ HID2.out)
       clear hfv3 hdv hzs3 hno3p hv3e hv3l
       (refine qCB (HG3.out _ (hM.part qpt)) hM ?_;clear hM;intro w' hM)
       (refine qw ?_;intros;rename_i hM)
       (refine qK3 (fun R hR=> ?_))
       refine(HW3.out _ (hM.part qpt)).mono ?_
       rintro e w' ⟨p',rfl,hok,hst⟩;refine hR.out _ _ ?_;clear hR R
       replace hM:=hM.madeM hst (slL_flag _ _ _ _)
       clear hst
       replace hM:=St.rot hM
       (refine qq ?_)
       (refine qw ?_;intros;rename_i hM)
       (refine qK3 (fun R hR=> ?_))
       refine(rputX_any hp3' hM qsf HID3.out hok).mono ?_
       rintro e w' ⟨rfl,s4,hM1,hp4⟩;refine hR.out _ _ ?_;clear hR R hM
       have hM:=St.unF hM1 qsw
       clear hM1
       (refine qq ?_)
       (refine qw ?_;intros;rename_i hM)
       (refine qf ?_)
       rw[HE.out]
       refine⟨rfl,s4,_,HNO4.out p', ?_⟩
       exact hp4.to (hM.part qpt) hM.only
      ·obtain⟨nu,hnu⟩:=HI.out.leads v.1 (In.find_some he).1 _ (In.leads_some (by rw[hi];omega))
       simp only at hnu
       obtain⟨u,hfu,hue⟩:=HSU.out nu hnu
       subst hue
       have HGU2:=qh (HGU.out u hfu)
       rw[hi] at HGU2
       have hum:=(rfind_mem hfu).1
       obtain⟨ba,bc,hbv,-⟩:=slV_open (HNM.out u hum)
       rw[NodV.open hbv] at HGU2
       cases hud:u.1.dir with
       |true=>
        have HE:=qh (In.rename_bad (t:=t) (dir:=dir) (s:=s) (tod:=tod) (as_:=as_) (e:=12) (by decide) (by rw[In.renameE_at hU0 hc he,hfn,hi,hk,if_neg hik,if_neg (by omega)];rw[hi] at hnu;rw[In.at_some hnu,hud];rfl))
        rw[hud] at HGU2
        clear hik hc hi hk he hvd hU0 hF hd hdd hl hfn hn hnu hfu
        (refine qw ?_;intros;rename_i hM)
        (refine qCB (HGU2.out _ (hM.part qpt)) hM ?_;clear hM;intro w' hM)
        (refine qw ?_;intros;rename_i hM)
        ((refine qf ?_);(rw[HE.out]);exact⟨rfl,HB.out _ (hM.part qpt) hM.only⟩)
       |false=>
        have HE:=qh (show In.rename t dir s tod as_=(0,In.renameIn (In.loses t tod as_) dir s tod as_ k) by rw[In.rename_yes (by rw[In.renameE_at hU0 hc he,hfn,hi,hk,if_neg hik,if_neg (by omega)];rw[hi] at hnu;rw[In.at_some hnu,hud];rfl),In.renameT_at he,hfn,hi,hk,if_neg hik,if_neg (by omega)])
        rw[hud] at HGU2
        have hi1:In.leads v.1.names as_≠0:=by rw[hi];omega
        have hne:In.leads v.1.names as_≠tod:=fun e=>by
         rw[e,he] at hnu
         rw[Option.some.inj hnu,hud] at hvd
         cases hvd
        have hu1:=In.links_pos HI.out he hvd hi1 hnu hud
        have hu2:u.1.links≤4000000:=by
         have h1:=HI.out.links u.1 (HH.out.mem hum)
         have h2:=In.cnt_le t.nodes u.1.id
         have h3:=HI.out.tot
         unfold In.rootI at h1
         split at h1<;> omega
        have hw1:IntKind.i64.wrap (u.1.links - 1)=u.1.links - 1:=wrap_in _ (by omega)
        have HID:=qh (HH.out.ids HI.out)
        have HKP:=qh (fun p'=>rset_keep (z0:=((v.1.setNames (In.without v.1.names as_),p'):NodV)) hum (show u.1.id≠v.1.id by rw[(rfind_mem hfu).2,(rfind_mem hft).2];exact hne))
        have HNO:=qh (fun p'=>(show(rset (rset zs ((v.1.setNames (In.without v.1.names as_),p'):NodV)) ((u.1.setLinks (u.1.links - 1),u.2):NodV)).map (·.1)=(In.loses t tod as_).nodes by
         rw[rput_nodes,rput_nodes,HH.out.nodes]
         show In.rput (In.rput t.nodes (v.1.setNames (In.without v.1.names as_))) (u.1.setLinks (u.1.links - 1))=_
         rw[In.rput_without HI.out he as_]
         exact In.rput_loses HI.out he rfl hnu hne rfl (by show 0≤u.1.links - 1;omega)))
        have HYC:=qh (show NodV.cells (u.1.setLinks (u.1.links - 1),u.2)=[.int .i64 u.1.id,.bool false,.int .i64 (u.1.links - 1),.int .i64 u.1.holds,.string u.1.data,.slice ba u.1.names.length bc] by rw[NodV.open (z:=(u.1.setLinks (u.1.links - 1),u.2)) hbv,←hud];rfl)
        have HM2:=qh (In.rename_mid HI.out hd hdd hl he hvd (by rw[hi,hk];exact hik) hi1 hnu hud)
        rw[hk] at HM2
        have HKN:=qh (show k≠0 by rw[←hk];exact hl)
        have HI2:=qh (In.inv_loses HI.out he hvd hi1 hnu (fun e=>by rw[hud] at e;cases e))
        clear hik hc hi hk he hvd hU0 hF hd hdd hl hfn hn hnu hfu hi1 hne hu1 hu2 hbv hud
        (refine qw ?_;intros;rename_i hM)
        (refine qCB (HGU2.out _ (hM.part qpt)) hM ?_;clear hM;intro w' hM)
        (refine qw ?_;intros;rename_i hM)
        (refine qK3 (fun R hR=> ?_))
        refine(HWO.out _ (hM.part qpt)).mono ?_
        rintro e w' ⟨p',rfl,hok,hst⟩;refine hR.out _ _ ?_;clear hR R
        replace hM:=hM.madeM hst (slL_flag _ _ _ _)
        clear hst
        rw[←HOP.out] at hM
        replace hM:=(St.rot hM).rot2.rot3
        (refine qq ?_)
        (refine qw ?_;intros;rename_i hM)
        (refine qK3 (fun R hR=> ?_))
        refine(rputX_any HRP.out hM qsf HID.out hok).mono ?_
        rintro e w' ⟨rfl,s1,hM1,hp1⟩;refine hR.out _ _ ?_;clear hR R hM
        have hM:=St.unF hM1 qsw
        clear hM1
        (refine qq ?_)
        (refine qw ?_;intros;rename_i hM)
        (refine qK3 (fun R hR=> ?_))
        have C:=rputY_any hp1 hM qsf (ids_rset _ HID.out) (HKP.out p') (n:=u.1.setLinks (u.1.links - 1)) rfl rfl
        rw[HYC.out] at C
        refine C.mono ?_
        clear C
        rintro e w' ⟨rfl,s2,hM1,hp2⟩;refine hR.out _ _ ?_;clear hR R hM
        have hM:=St.unF hM1 qsw
        clear hM1
        replace hM:=(St.forget hM).forget2
        have HN2:=qh (HNO.out p')
        have HID2':=qh (ids_rset ((u.1.setLinks (u.1.links - 1),u.2):NodV) (ids_rset ((v.1.setNames (In.without v.1.names as_),p'):NodV) HID.out))
        generalize rset (rset zs ((v.1.setNames (In.without v.1.names as_),p'):NodV)) ((u.1.setLinks (u.1.links - 1),u.2):NodV)=zs2 at*
        clear HKP HNO hw1
        (refine qq ?_)
        obtain⟨d2,e2,hd2,hdd2,hl2,he2,hw2⟩:=HM2.out
        obtain⟨e3,h3,hlen3,hno3⟩:=In.rename_end HI2.out hd2 hdd2 (by rw[hl2];exact HKN.out) he2 hw2 k
        obtain⟨z2,hfz2,hz2e⟩: ∃ z2,rfind zs2 dir=some z2∧z2.1=d2:=by
         have h1:=hd2
         rw[←HN2.out,rfind_map] at h1
         cases h2:rfind zs2 dir with
         |none=>rw[h2] at h1;cases h1
         |some z2=>rw[h2] at h1;exact⟨z2,rfl,Option.some.inj h1⟩
        have hz2l:z2.1.names.length≤1000000:=by
         have h1:=names_le (In.find_some hd2).1
         have h2:=HI2.out.tot
         rw[hz2e]
         omega
        have HG2:=qh (fun (W:World) (hA:At (rL ⟨g,s2⟩ t.quota (t.last+1) zs2) W)=>rget_some (hp2.raw hA) hfz2)
        have HW2:=qh (fun (W:World) (hA:At (rL ⟨g,s2⟩ t.quota (t.last+1) zs2) W)=>rwithout_any z2 ⟨hp2.names _ (rfind_mem hfz2).1,fun y hy=>(hp2.raw hA).ents.has y (List.mem_flatMap.2 ⟨z2,(rfind_mem hfz2).1,hy⟩),hz2l⟩ s)
        obtain⟨ca,cc,hcv,-⟩:=slV_open (hp2.names z2 (rfind_mem hfz2).1)
        rw[NodV.open hcv] at HG2 HW2
        have HNO3:=qh (fun p'=>(show(rset zs2 ((z2.1.setNames (In.without z2.1.names s),p'):NodV)).map (·.1)=(In.nameOut (In.loses t tod as_) dir s).nodes by rw[rput_nodes,HN2.out,hz2e];exact In.rput_without HI2.out hd2 s))
        have HI3:=qh h3
        have HL3:=qh hlen3
        have HN3:=qh hno3
        have HF2:=qh hfz2
        have HID2:=qh (HID2'.out)
        clear h3 hlen3 hno3 hfz2 hcv hd2 hdd2 hl2 he2 hw2 hz2e hz2l
        (refine qw ?_;intros;rename_i hM)
        (refine qCB (HG2.out _ (hM.part qpt)) hM ?_;clear hM;intro w' hM)
        (refine qw ?_;intros;rename_i hM)
        (refine qK3 (fun R hR=> ?_))
        refine(HW2.out _ (hM.part qpt)).mono ?_
        rintro e w' ⟨p',rfl,hok,hst⟩;refine hR.out _ _ ?_;clear hR R
        replace hM:=hM.madeM hst (slL_flag _ _ _ _)
        clear hst
        replace hM:=(St.rot hM).forget
        replace hM:=St.rot hM
        (refine qq ?_)
        (refine qw ?_;intros;rename_i hM)
        (refine qK3 (fun R hR=> ?_))
        refine(rputX_any hp2 hM qsf HID2.out hok).mono ?_
        rintro e w' ⟨rfl,s3,hM1,hp3⟩;refine hR.out _ _ ?_;clear hR R hM
        have hM:=St.unF hM1 qsw
        clear hM1
        (refine qq ?_)
        (refine qw ?_;intros;rename_i hM)
        have hno3p:=HNO3.out p'
        generalize hzs3:rset zs2 ((z2.1.setNames (In.without z2.1.names s),p'):NodV)=zs3 at*
        obtain⟨v3,hfv3,hv3e⟩: ∃ v3,rfind zs3 tod=some v3∧v3.1=e3:=by
         have h1:=HI3.out
         rw[←hno3p,rfind_map] at h1
         cases h2:rfind zs3 tod with
         |none=>rw[h2] at h1;cases h1
         |some v3=>rw[h2] at h1;exact⟨v3,rfl,Option.some.inj h1⟩
        have hv3l:v3.1.names.length≤1000000:=by
         have h1:=HL3.out
         rw[hv3e]
         omega
        have hp3':=hp3
        have HG3:=qh (fun (W:World) (hA:At (rL ⟨g,s3⟩ t.quota (t.last+1) zs3) W)=>rget_some (hp3'.raw hA) hfv3)
        have HW3:=qh (fun (W:World) (hA:At (rL ⟨g,s3⟩ t.quota (t.last+1) zs3) W)=>rwith_any v3 ⟨hp3'.names _ (rfind_mem hfv3).1,fun y hy=>(hp3'.raw hA).ents.has y (List.mem_flatMap.2 ⟨v3,(rfind_mem hfv3).1,hy⟩),hv3l⟩ as_ k)
        obtain⟨da,dc,hdv,-⟩:=slV_open (hp3'.names v3 (rfind_mem hfv3).1)
        rw[NodV.open hdv] at HG3 HW3
        have HNO4:=qh (fun p'=>(show(rset zs3 ((v3.1.setNames (ins (as_,k) v3.1.names),p'):NodV)).map (·.1)=(In.renameIn (In.loses t tod as_) dir s tod as_ k).nodes by rw[rput_nodes,hno3p,hv3e];exact HN3.out))
        have HID3:=qh (show Ids zs3 from hzs3▸ids_rset _ HID2.out)
        clear hfv3 hdv hzs3 hno3p hv3e hv3l
        (refine qCB (HG3.out _ (hM.part qpt)) hM ?_;clear hM;intro w' hM)
        (refine qw ?_;intros;rename_i hM)
        (refine qK3 (fun R hR=> ?_))
        refine(HW3.out _ (hM.part qpt)).mono ?_
        rintro e w' ⟨p',rfl,hok,hst⟩;refine hR.out _ _ ?_;clear hR R
        replace hM:=hM.madeM hst (slL_flag _ _ _ _)
        clear hst
        replace hM:=St.rot hM
        (refine qq ?_)
        (refine qw ?_;intros;rename_i hM)
        (refine qK3 (fun R hR=> ?_))
        refine(rputX_any hp3' hM qsf HID3.out hok).mono ?_
        rintro e w' ⟨rfl,s4,hM1,hp4⟩;refine hR.out _ _ ?_;clear hR R hM
        have hM:=St.unF hM1 qsw
        clear hM1
        (refine qq ?_)
        (refine qw ?_;intros;rename_i hM)
        (refine qf ?_)
        rw[HE.out]
        refine⟨rfl,s4,_,HNO4.out p', ?_⟩
        rw[show(In.renameIn (In.loses t tod as_) dir s tod as_ k).quota=t.quota from (In.loses_q tod as_).1,show(In.renameIn (In.loses t tod as_) dir s tod as_ k).last=t.last from (In.loses_q tod as_).2]
        exact hp4.to (hM.part qpt) hM.only
    ·have q1:(c != 0)=true:=bne_iff_ne.2 hc0
     have HE:=qh (In.rename_bad (t:=t) (dir:=dir) (s:=s) (tod:=tod) (as_:=as_) (e:=c) hc0 (by rw[In.renameE_place hU0 (by rw[hc];exact hc0),hc]))
     clear hc hc0 hi hk he hU0 hF hd hdd hl hfn hn
     rw[q1]
     (refine qw ?_;intros;rename_i hM)
     ((refine qf ?_);(rw[HE.out]);exact⟨rfl,HB.out _ (hM.part qpt) hM.only⟩)
 ·(obtain⟨g,xs,va,vc,U,rfl,hv,hU,hM,HRP,HOP,HAT,HB⟩:=r_all h)
  have HFI:=qh (fun (W:World) (hA:At ((g,true,Res.cells [.int .i64 t.quota,.int .i64 (t.last+1),.slice va zs.length vc] 146)::U) W)=>rFindE_any (HAT.out W hA) I hN dir s hs)
  have HE:=qh (show In.rename t dir s tod as_=(In.findE t dir s,t) from In.rename_bad hF (by rw[In.renameE_un (by rw[unlinkE_bad hF];exact hF),unlinkE_bad hF]))
  generalize In.findE t dir s=c at*
  generalize In.findN t dir s=k at*
  have q1:(c != 0)=true:=bne_iff_ne.2 hF
  (have HH:=qh h;have HI:=qh I;clear h I hv hU)
  clear hF
  go_enter Tryz.func147,Tryz.ntmps147
  (refine qw ?_;intros;rename_i hM)
  (refine qCB (HFI.out _ (hM.part qpt)) hM ?_;clear hM;intro w' hM)
  (refine qw ?_;intros;rename_i hM)
  ((refine qf ?_);(rw[HE.out]);exact⟨rfl,HB.out _ (hM.part qpt) hM.only⟩)
end
end
end Go.Proofs.YtcicjklhbnipcaaGreatDoor
