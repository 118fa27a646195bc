/-
  Laid texts.
-/
import Derived.Test.YtcicjklhbnipcaaGreatDoorPkPlyM
set_option maxHeartbeats 16000000
set_option maxRecDepth 1000000
set_option linter.unusedVariables false
set_option linter.unusedSimpArgs false
namespace Go.Proofs.YtcicjklhbnipcaaGreatDoor
section
open Go.RowKit Go.Maps
section
variable {N:Nat}{X:DskX}{x y:FsX}{β γ:Int→Nat×Nat}{D:DskD}{d:FsD}{w w' w0:World}{F:List Nat}{L L' M M' R:List Ent}{b f g n:Nat}{s:Option (Nat×Nat)}
theorem At.stB{e:Ent}(h:At (e::R) w):St w [e.1] w (e::R.map unflag):=by
 refine⟨Only.refl _ w,fun z hz=> ?_, ?_,fun z hz h1=> ?_⟩
 ·rcases List.mem_cons.1 hz with rfl|hz
  ·exact h.has z (.head _)
  ·obtain⟨y,hy,rfl⟩:=List.mem_map.1 hz
   exact h.has y (.tail _ hy)
 ·have:=h.nd
  unfold keysOf at this
  rw[List.map_cons] at this ⊢
  rw[List.map_map]
  exact this
 ·rcases List.mem_cons.1 hz with rfl|hz
  ·exact .inl (by simp)
  ·obtain⟨y,hy,rfl⟩:=List.mem_map.1 hz
   cases h1
theorem log_step{l:List LogD}{k:Nat}{z:LogD}(h:l[k]? =some z)(d:FsD):Ol.replay d (l.take (k+1))=Ol.again (Ol.replay d (l.take k)) z:=by
 rw[List.take_add_one,h,Option.toList_some,Ol.replay_snoc]
theorem own_step{l:List Int}{k:Nat}{o:Int}(h:l[k]? =some o)(d:FsD):(l.take (k+1)).foldl Fs.exit d=Fs.exit ((l.take k).foldl Fs.exit d) o:=by
 rw[List.take_add_one,h,Option.toList_some,List.foldl_append]
 rfl
theorem ents_holds{zs:List LogV}{z:LogV}(hM:St w0 F w L)(hs: ∀ e∈(zs.flatMap LogV.ents).map unflag,e∈L)(hz:z∈zs): ∀ e∈z.ents,e.2.2.holds w.heap[e.1]? :=fun e he=>
 hM.holds (unflag e) (hs _ (List.mem_map_of_mem (List.mem_flatMap.2 ⟨z,hz,he⟩)))
theorem dCut_any{zs:List LogV}(hA:At (dskE b f y.f s zs.length::(logL s (zs.map LogV.val)++(fsL y γ D.base++zs.flatMap LogV.ents))) w0)(hk:SlOK s zs.length (zs.map LogV.val) 1)(hz:zs.map (·.1)=D.log){K0:Nat}(hB:Ol.FInv K0 D.base)(hKN:K0+3*D.log.length≤30000)(hok: ∀ l∈D.log,Ol.LogOk l)(hX:Mx w0)(h0:0∉keysOf (dskE b f y.f s zs.length::(logL s (zs.map LogV.val)++(fsL y γ D.base++zs.flatMap LogV.ents))))(keep:Int):
  Calls Tryz.prog 30 #[.pointer (some ⟨b,0,none⟩),.int .i64 keep] w0 fun e w'=>e= .returned (.int .i64 0)∧ ∃ x1 β1 x2 β2,St w0 [b] w' (dskE b (FsX.f x1) (FsX.f x2) none 0::(fsL x1 β1 (Ol.cutFs D keep)++fsL x2 β2 (Ol.cutFs D keep))):=by
 have hY:FsAt K0 y γ D.base w0:=⟨hA.sub (((List.sublist_append_left _ _).trans (List.sublist_append_right _ _)).cons _),hB.inv,hX,keys_sub (((List.sublist_append_left _ _).trans (List.sublist_append_right _ _)).cons _) h0⟩
 have hM:=hA.stB
 have HY:=qh hY
 have HX:=qh hX
 have F0:0∉([b]:List Nat):=fun h=>h0 (by rcases List.mem_singleton.1 h with rfl;exact .head _)
 have HB:=qh hB
 have HOK:=qh hok
 have HZ:=qh hz
 have HK:=qh hk
 have hlog:zs.length=D.log.length:=by rw[←hz,List.length_map]
 have hln:zs.length≤10000:=by omega
 obtain⟨kk,hkk⟩: ∃ kk:Nat,max 0 (min keep (zs.length:Int))=(kk:Int):=⟨(max 0 (min keep (zs.length:Int))).toNat,by omega⟩
 have hC:Ol.cutFs D keep=Ol.empties (Ol.exits (Ol.replay D.base (D.log.take kk))):=by
  unfold Ol.cutFs
  rw[←hlog,hkk,Int.toNat_natCast]
 rw[hC]
 have hkl:kk≤zs.length:=by omega
 obtain⟨va,vc,hv,hva⟩:=slV_open hk
 have hvc:(kk:Int)≤(vc:Int):=by
  rcases s with _|⟨g,cap⟩
  ·have:=hk.2;omega
  ·obtain⟨-,rfl⟩:=hva g cap rfl
   have:=hk.2.1
   omega
 have HLG:=qh hlog
 clear hA hY hX hB hok hz hk h0 hC hlog
 unfold dskE at hM
 rw[hv] at hM
 rw[List.map_append,List.map_append] at hM
 go_enter Tryz.func30,Tryz.ntmps30
 (refine qw ?_;intros;rename_i hM)
 (refine qKx ?_;intro R hR)
 refine(dgiven_any (f:=f) (g:=y.f) (s:=s) (n:=zs.length) (by
  have:=hM.holds _ (.head _)
  unfold dskE
  rw[hv]
  exact this)).mono ?_
 (refine qgs ?_;clear hR R)
 (refine qw ?_;intros;rename_i hM)
 (refine qKx ?_;intro R hR)
 refine(fClone_any HY.out (by omega)).mono ?_
 rintro e w' ⟨x1,β1,rfl,hN2⟩
 replace hM:=hM.madeM hN2 (fsL_flag _ _ _)
 refine qho ?_;clear hR R hN2
 replace hM:=hM.perm (List.perm_middle)
 (refine qq ?_)
 (refine qw ?_;intros;rename_i hM)
 have RE: ∀ e∈(zs.flatMap LogV.ents).map unflag,e∈List.map unflag (logL s (List.map LogV.val zs))++(List.map unflag (fsL y γ D.base)++List.map unflag (List.flatMap LogV.ents zs)):=fun e he=>List.mem_append_right _ (List.mem_append_right _ he)
 have RG: ∀ g cap,s=some (g,cap)→(g,false,Res.pre (zs.map LogV.val) 138 (cap*1))∈List.map unflag (logL s (List.map LogV.val zs))++(List.map unflag (fsL y γ D.base)++List.map unflag (List.flatMap LogV.ents zs)):=fun g cap hs=>by
  subst hs
  exact List.mem_append_left _ (.head _)
 generalize List.map unflag (logL s (List.map LogV.val zs))++(List.map unflag (fsL y γ D.base)++List.map unflag (List.flatMap LogV.ents zs))=RR at*
 have HRE:=qh RE
 have HRG:=qh RG
 clear RE RG
 go_loopw [32] (fun i wr=> ∃ (k:Nat) (β':Int→Nat×Nat) (dk:FsD),k≤kk∧i= .int .i64 k∧Ol.replay D.base (D.log.take k)=dk∧Ol.FInv (K0+3*k) dk∧St w0 [b] wr ((b,true,.cells [.pointer (some ⟨f,0,none⟩),.pointer (some ⟨y.f,0,none⟩),.slice va zs.length vc] 81)::(fsL x1 β' dk++RR))) (fun i _=>kk - (intOf i).toNat)
 case atStart=>exact⟨0,β1,D.base,by omega,rfl,rfl,HB.out,hM⟩
 case round=>
  clear hM
  obtain⟨k,β1,dk,hk,rfl,hdk,hfi,hM⟩:=hrel
  have HDK:=qh hdk
  have HFK:=qh hfi
  clear hdk hfi
  by_cases hlt:k<kk
  ·obtain⟨z,hzk⟩:=get_at (xs:=zs) (k:=k) (by omega)
   rcases hs:s with _|⟨g,cap⟩
   ·have:=HK.out
    rw[hs] at this
    exact absurd this.2 (by omega)
   obtain⟨rfl,rfl⟩:=hva g cap hs
   have hmem:=HRG.out g vc hs
   have hzm:=List.mem_of_getElem? hzk
   have hvk:((zs.map LogV.val).drop k).take 1=[z.val]:=by
    have h1:(zs.map LogV.val)[k]? =some z.val:=by rw[List.getElem?_map,hzk];rfl
    obtain⟨h2,h3⟩:=List.getElem?_eq_some_iff.1 h1
    rw[List.drop_eq_getElem_cons h2,h3]
    rfl
   have hlk:D.log[k]? =some z.1:=by rw[←HZ.out,List.getElem?_map,hzk];rfl
   have HST:=qh ((log_step hlk D.base).trans (congrArg (fun q=>Ol.again q z.1) HDK.out))
   have hlok:=HOK.out z.1 (List.mem_of_getElem? hlk)
   have hKk:K0+3*k+3≤30000:=by have:=HLG.out;omega
   have HFN:=qh (Ol.finv_again HFK.out (by omega) hlok)
   have hlen:k+1≤(zs.map LogV.val).length:=by rw[List.length_map];omega
   have k1:(k:Int)<(kk:Int):=by omega
   clear hzk hlk hs hlt
   (refine qw ?_;intros;rename_i hM)
   refine St.loadRow rfl hM rfl rfl rfl rfl (.tail _ (List.mem_append_right _ hmem)) (by exact hlen) (by kernel_rfl) ?_
   simp only[Res.known]
   rw[hvk]
   obtain⟨⟨o,_|p⟩,ob,qb⟩:=z
   ·have HH: ∀ w L,St w0 [b] w L→(∀ e∈RR,e∈L)→(Res.cells [.int .i64 o] 3).holds w.heap[ob]? :=fun w L hM hs=>ents_holds (z:=((o,none),ob,qb)) hM (fun e he=>hs e (HRE.out e he)) hzm (ob,true,.cells [.int .i64 o] 3) (.head _)
    simp only[LogV.val]
    (refine qq ?_)
    (refine qw ?_;intros;rename_i hM)
    (refine St.callv rfl rfl rfl rfl (by kernel_rfl) (fun R hR=> ?_);simp only[List.map_toArray,List.map_cons,List.map_nil,Act.eval,getD_lit,qGz,qGs,Array.append_empty,Array.empty_append])
    refine(again_exit (hM.fs (x:=x1) (β:=β1) (d:=dk) (.skip (.skip .here)) HFK.out.inv HX.out F0) (by omega) hlok.1 (HH _ _ hM (fun e he=> .tail _ (.tail _ (List.mem_append_right _ he))))).mono ?_
    rintro e w' ⟨rfl,β2,hN2⟩
    replace hM:=hM.backM (M:=fsL x1 β1 dk) (.skip (.skip .here)) (fsL_flag _ _ _) hN2 (fsL_flag _ _ _)
    refine qho ?_;clear hR R hN2
    (refine qq ?_)
    (refine qw ?_;intros;rename_i hM)
    replace hM:=hM.forget
    simp only[Exit.then]
    (refine⟨?_,qio⟩;repeat(first|exact⟨⟨k+1,β2,_,by omega,rfl,HST.out,HFN.out,hM⟩,rfl⟩|apply Exists.intro))
   ·have HH1: ∀ w L,St w0 [b] w L→(∀ e∈RR,e∈L)→(Res.cells [.int .i64 o] 3).holds w.heap[ob]? :=fun w L hM hs=>ents_holds (z:=((o,some p),ob,qb)) hM (fun e he=>hs e (HRE.out e he)) hzm (ob,true,.cells [.int .i64 o] 3) (.head _)
    have HH2: ∀ w L,St w0 [b] w L→(∀ e∈RR,e∈L)→(Res.cells p.cells 34).holds w.heap[qb]? :=fun w L hM hs=>ents_holds (z:=((o,some p),ob,qb)) hM (fun e he=>hs e (HRE.out e he)) hzm (qb,true,.cells p.cells 34) (.tail _ (.head _))
    simp only[LogV.val]
    (refine qq ?_)
    (refine qw ?_;intros;rename_i hM)
    (refine St.callv rfl rfl rfl rfl (by kernel_rfl) (fun R hR=> ?_);simp only[List.map_toArray,List.map_cons,List.map_nil,Act.eval,getD_lit,qGz,qGs,Array.append_empty,Array.empty_append])
    refine(again_do (hM.fs (x:=x1) (β:=β1) (d:=dk) (.skip (.skip .here)) HFK.out.inv HX.out F0) (by omega) hlok.1 (hlok.2 p rfl) (HH1 _ _ hM (fun e he=> .tail _ (.tail _ (List.mem_append_right _ he)))) (HH2 _ _ hM (fun e he=> .tail _ (.tail _ (List.mem_append_right _ he))))).mono ?_
    rintro e w' ⟨rfl,β2,hN2⟩
    replace hM:=hM.backM (M:=fsL x1 β1 dk) (.skip (.skip .here)) (fsL_flag _ _ _) hN2 (fsL_flag _ _ _)
    refine qho ?_;clear hR R hN2
    (refine qq ?_)
    (refine qw ?_;intros;rename_i hM)
    replace hM:=hM.forget
    simp only[Exit.then]
    (refine⟨?_,qio⟩;repeat(first|exact⟨⟨k+1,β2,_,by omega,rfl,HST.out,HFN.out,hM⟩,rfl⟩|apply Exists.intro))
  ·have k0:¬((k:Int)<(kk:Int)):=by omega
   obtain rfl:k=kk:=by omega
   clear hlt hk
   (refine qw ?_;intros;rename_i hM)
   (refine qKx ?_;intro R hR)
   refine(fOwners_any (hM.fs (x:=x1) (β:=β1) (d:=dk) (.skip .here) HFK.out.inv HX.out F0) (by omega)).mono ?_
   rintro e w' ⟨s2,rfl,hk2,hN2⟩
   replace hM:=hM.madeM hN2 (slL_flag _ _ _ _)
   refine qho ?_;clear hR R hN2
   have hol:(Fs.owners dk).length≤30000:=by
    have:=HFK.out.inv.len
    unfold Fs.owners
    rw[List.length_map]
    have:=HLG.out
    omega
   have HOF:=qh (Ol.owners_fit HFK.out)
   have hex:Ol.exits dk=(Fs.owners dk).foldl Fs.exit dk:=rfl
   have HEX:=qh hex
   have HFK':=qh (HFK.out.more (M:=30000) (by have:=HLG.out;omega))
   obtain⟨v2,c2,hv2,hva2⟩:=slV_open hk2
   have HK2:=qh hk2
   rw[hv2]
   generalize Fs.owners dk=os at*
   clear hex hk2 hkk hvc
   (refine qq ?_)
   (refine qw ?_;intros;rename_i hM)
   go_loopw [9,44] (fun _ i wr=> ∃ (j:Nat) (β':Int→Nat×Nat) (dj:FsD),j≤os.length∧i= .int .i64 j∧(os.take j).foldl Fs.exit dk=dj∧Ol.FInv 30000 dj∧St w0 [b] wr (slL s2 (os.map (Value.int .i64)) 3 1++((b,true,.cells [.pointer (some ⟨f,0,none⟩),.pointer (some ⟨y.f,0,none⟩),.slice va zs.length vc] 81)::(fsL x1 β' dj++RR)))) (fun _ i _=>os.length - (intOf i).toNat)
   case atStart=>exact⟨0,β1,dk,by omega,rfl,rfl,HFK'.out,hM⟩
   case round=>
    clear hM
    obtain⟨j,β2,dj,hj,rfl,hdj,hfj,hM⟩:=hrel
    have HDJ:=qh hdj
    have HFJ:=qh hfj
    clear hdj hfj
    by_cases hlt:j<os.length
    ·obtain⟨o,ho⟩:=get_at hlt
     rcases hs2:s2 with _|⟨g2,cap2⟩
     ·have:=HK2.out
      rw[hs2] at this
      exact absurd this.2 (by omega)
     obtain⟨rfl,rfl⟩:=hva2 g2 cap2 hs2
     have hof:=HOF.out o (List.mem_of_getElem? ho)
     have HST:=qh ((own_step ho dk).trans (congrArg (fun q=>Fs.exit q o) HDJ.out))
     have HFN:=qh (Ol.finv_exit HFJ.out hof)
     have hx':(os.map (Value.int .i64))[j]? =some (.int .i64 o):=by rw[List.getElem?_map,ho];rfl
     have j1:(j:Int)<(os.length:Int):=by omega
     subst hs2
     clear ho hlt
     simp only[slL,List.cons_append,List.nil_append] at hM
     (refine qw ?_;intros;rename_i hM)
     (refine qKx ?_;intro R hR)
     refine(fExit_any (hM.fs (x:=x1) (β:=β2) (d:=dj) (.skip (.skip .here)) HFJ.out.inv HX.out F0) (by omega) hof).mono ?_
     rintro e w' ⟨rfl,⟨β3,hN2⟩,-⟩
     replace hM:=hM.backM (M:=fsL x1 β2 dj) (.skip (.skip .here)) (fsL_flag _ _ _) hN2 (fsL_flag _ _ _)
     refine qho ?_;clear hR R hN2
     (refine qq ?_)
     (refine qw ?_;intros;rename_i hM)
     simp only[Exit.then]
     (refine⟨?_,qio⟩;repeat(first|exact⟨⟨j+1,β3,_,by omega,rfl,HST.out,HFN.out,hM⟩,rfl⟩|apply Exists.intro))
    ·have k0:¬((j:Int)<(os.length:Int)):=by omega
     obtain rfl:j=os.length:=by omega
     have e:=HDJ.out
     rw[List.take_length,←HEX.out] at e
     rw[←e] at hM HFJ
     clear hlt hj e HDJ
     replace hM:=hM.subM (List.sublist_append_right _ _)
     have HCF:=qh (show Ol.exits (Ol.replay D.base (D.log.take k))=Ol.exits dk by rw[HDK.out])
     clear HEX
     generalize Ol.exits dk=de at*
     (refine qw ?_;intros;rename_i hM)
     (refine qKx ?_;intro R hR)
     refine(empties_any (hM.fs (x:=x1) (β:=β2) (d:=de) (.skip .here) HFJ.out.inv HX.out F0) HFJ.out (by omega)).mono ?_
     rintro e w' ⟨rfl,β3,hN2⟩
     replace hM:=hM.backM (M:=fsL x1 β2 de) (.skip .here) (fsL_flag _ _ _) hN2 (fsL_flag _ _ _)
     refine qho ?_;clear hR R hN2
     have HFE:=qh (Ol.finv_empties HFJ.out)
     have HCE:=qh (congrArg Ol.empties HCF.out)
     generalize Ol.empties de=dz at*
     (refine qq ?_)
     (refine qw ?_;intros;rename_i hM)
     (refine qKx ?_;intro R hR)
     rw[←hv] at hM
     have hS:St w0 [b] _ ((dskE b x1.f y.f s zs.length::fsL x1 β3 dz)++RR):=hM
     have hS2:St w0 [b] _ (dskE b x1.f y.f s zs.length::(fsL x1 β3 dz++RR)):=hM
     clear hM
     refine(syncs_any (hS2.fs (x:=x1) (β:=β3) (d:=dz) (.skip .here) HFE.out.inv HX.out F0) (by omega) (hS.part .here)).mono ?_
     rintro e w' ⟨rfl,x2,β4,hN2⟩
     have hM:=hS2.backM (M:=[dskE b x1.f y.f s zs.length]) .one (flag_1 _ _) hN2 (fun y hy=>by
      rcases List.mem_cons.1 hy with rfl|hy
      ·rfl
      ·exact fsL_flag _ _ _ y hy)
     refine qho ?_;clear hR R hN2 hS hS2
     (refine qq ?_)
     (refine qw ?_;intros;rename_i hM)
     (refine qf ?_)
     refine⟨rfl,x1,β3,x2,β4, ?_⟩
     rw[HCE.out]
     have hS3:St w0 [b] w' ((dskE b x1.f x2.f none 0::fsL x2 β4 dz)++fsL x1 β3 dz):=hM.subM (List.Sublist.append_left (List.sublist_append_left _ _) _)
     exact hS3.perm (L':=dskE b x1.f x2.f none 0::(fsL x1 β3 dz++fsL x2 β4 dz)) (perm_by (by intro _ x;simp only[List.append_eq,List.count_append,List.count_cons,List.count_nil,List.cons_append,List.nil_append];omega))
theorem dCut_whole(h:DskAt N X β γ D w)(hN:N≤30000)(keep:Int):
  Calls Tryz.prog 30 #[.pointer (some ⟨X.b,0,none⟩),.int .i64 keep] w fun e w'=>e= .returned (.int .i64 0)∧DGoes w X β γ D w' (Ol.cut D keep):=by
 have hsub:(dskE X.b X.now.f X.sure.f X.s X.zs.length::(logL X.s (X.zs.map LogV.val)++(fsL X.sure γ D.base++X.zs.flatMap LogV.ents))).Sublist (dskL X β γ D):=by
  unfold dskL
  exact(List.sublist_append_right _ _).cons_cons _
 obtain⟨K0,hB,hK⟩:=h.inv.base
 refine(dCut_any (h.at_.sub hsub) h.ok.sl h.ok.log hB (by omega) h.inv.ok h.mx (keys_sub hsub h.zero) keep).mono ?_
 rintro e w' ⟨rfl,x1,β1,x2,β2,hN2⟩
 have hM:St w (keysOf (dskL X β γ D)) w (dskE X.b X.now.f X.sure.f X.s X.zs.length::(fsL X.now β D.now++(logL X.s (X.zs.map LogV.val)++(fsL X.sure γ D.base++X.zs.flatMap LogV.ents)))):=h.at_.st
 have hS:=hM.backM (M:=[dskE X.b X.now.f X.sure.f X.s X.zs.length]) .one (flag_1 _ _) hN2 (fun y hy=>by
  rcases List.mem_cons.1 hy with rfl|hy
  ·rfl
  ·rcases List.mem_append.1 hy with hy|hy
   ·exact fsL_flag _ _ _ y hy
   ·exact fsL_flag _ _ _ y hy)
 refine⟨rfl,⟨X.b,x1,x2,none,[]⟩,β1,β2,rfl,⟨rfl,⟨rfl,rfl⟩⟩, ?_⟩
 have hS2:=hS.front
 exact hS2.perm (L':=dskE X.b x1.f x2.f none 0::(fsL x1 β1 (Ol.cutFs D keep)++([]++(fsL x2 β2 (Ol.cutFs D keep)++[])))) (perm_by (by intro _ x;simp only[List.append_eq,List.count_append,List.count_cons,List.count_nil,List.cons_append,List.nil_append];omega))
theorem dDo_bare(h:DskAt N X β γ D w)(hN:N≤999999980){o:Int}(ho:Fits o)(p:OpD)(hp:p.Ok){er n:Int}{da:ByteArray}{D':DskD}(hd:Ol.do_ D o p=(⟨er,n,da,[]⟩,D')):
  Calls Tryz.prog 34 #[.pointer (some ⟨X.b,0,none⟩),.int .i64 o,.agg p.cells.toArray] w fun e w'=>(∃ a c,e= .returned (.agg #[.int .i64 er,.int .i64 n,.string da,.slice a 0 c]))∧DGoes w X β γ D w' D':=by
 refine(dDo_any h hN ho p hp).mono ?_
 rintro e w' ⟨s,X',β',γ',rfl,hs,hb,hok,hM⟩
 rw[hd] at hM hok ⊢
 refine⟨?_,X',β',γ',hb,hok,hM.subM (List.sublist_append_right _ _)⟩
 rcases s with _|⟨g,c⟩<;> exact⟨_,_,rfl⟩
end
end
section
open Go.RowKit Go.Maps
namespace Ol
def act(D:DskD)(a:ActO):ResD×DskD:=if a.cut=true then(Fs.errR 0,cut D a.keep) else if a.f.exit=true then(Fs.errR 0,exit D a.f.owner) else do_ D a.f.owner a.f.op
structure All (N:Nat) (D:DskD):Prop where
 inv:Inv N D
 good:Good D
 law:Lawful D
section
variable {N M:Nat}{D:DskD}
theorem All.more(h:All N D)(hM:N≤M):All M D:=⟨h.inv.more hM,h.good,h.law⟩
theorem all_new{q:Int}(h0:64≤q)(h1:q≤1099511627776):All 1 (new q):=⟨inv_new h0 h1,good_new q,lawful_new q⟩
theorem all_act(h:All N D)(hN:N≤999999980)(a:ActO)(ho:Fits a.f.owner)(hp:a.f.op.Ok):All (N+3) (act D a).2:=by
 unfold act
 split
 ·exact⟨(inv_cut h.inv (by omega) _).more (by omega),good_cut h.inv h.good (by omega) _,lawful_cut h.inv h.law (by omega) _⟩
 split
 ·exact⟨inv_exit h.inv ho,good_exit h.good,lawful_exit h.inv h.law⟩
 ·exact⟨inv_do h.inv hN ho hp,good_do h.inv h.good,lawful_do h.inv h.law⟩
end
end Ol
section
variable {N:Nat}{X:DskX}{β γ:Int→Nat×Nat}{D:DskD}{w w' w0:World}{F:List Nat}{L L' M M':List Ent}
theorem sdo_any(h:DskAt N X β γ D w)(hN:N≤30000)(a:ActO)(hown:Fits a.f.owner)(ho:a.f.op.Ok):Calls Tryz.prog 26 #[.pointer (some ⟨X.b,0,none⟩),.agg a.cells.toArray] w (DDid w X β γ D (Ol.act D a)):=by
 have hM:=h.at_.st
 unfold DDid
 obtain⟨F,hF⟩: ∃ F,keysOf (dskL X β γ D)=F:=⟨_,rfl⟩
 rw[hF] at hM ⊢
 have F0:0∉F:=hF▸h.zero
 have HK:=qh h.ok
 have HT:=qh h.inv
 have HX:=qh h.mx
 clear h hF
 obtain⟨⟨xo,xe,p⟩,xc,xk⟩:=a
 unfold Ol.act
 simp only at hown ho ⊢
 cases xc with
 |true=>
  rw[if_pos rfl]
  have C:=qh (fun (w1:World) (h:DskAt N X β γ D w1)=>dCut_whole h hN xk)
  generalize Ol.cut D xk=D2 at*
  obtain⟨pk,pp,pd,ph,pa,pn,px,py,pb⟩:=p
  simp only[ActO.cells,ActF.cells,OpD.cells,List.cons_append,List.nil_append]
  go_enter Tryz.func26,Tryz.ntmps26
  (refine qw ?_;intros;rename_i hM)
  (refine qKx ?_;intro R hR)
  refine(C.out _ (hM.dsk (.skip (.skip .all)) HK.out HT.out HX.out F0)).mono ?_
  rintro e w' ⟨rfl,X',β',γ',hb,hk,hN2⟩
  replace hM:=hM.backM (.skip (.skip .all)) (dskL_flag _ _ _ _) hN2 (dskL_flag _ _ _ _)
  refine qho ?_;clear hR R hN2 C
  (refine qq ?_)
  (refine qw ?_;intros;rename_i hM)
  (refine qf ?_)
  exact⟨none,X',β',γ',rfl,⟨rfl,rfl⟩,hb,hk,hM.forget.forget⟩
 |false=>
  rw[if_neg (by simp)]
  cases xe with
  |true=>
   rw[if_pos rfl]
   have C:=qh (fun (w1:World) (h:DskAt N X β γ D w1)=>dExit_any h (by omega) hown)
   generalize Ol.exit D xo=D2 at*
   obtain⟨pk,pp,pd,ph,pa,pn,px,py,pb⟩:=p
   simp only[ActO.cells,ActF.cells,OpD.cells,List.cons_append,List.nil_append]
   go_enter Tryz.func26,Tryz.ntmps26
   (refine qw ?_;intros;rename_i hM)
   (refine qKx ?_;intro R hR)
   refine(C.out _ (hM.dsk (.skip (.skip .all)) HK.out HT.out HX.out F0)).mono ?_
   rintro e w' ⟨rfl,X',β',γ',hb,hk,hN2⟩
   replace hM:=hM.backM (.skip (.skip .all)) (dskL_flag _ _ _ _) hN2 (dskL_flag _ _ _ _)
   refine qho ?_;clear hR R hN2 C
   (refine qq ?_)
   (refine qw ?_;intros;rename_i hM)
   (refine qf ?_)
   exact⟨none,X',β',γ',rfl,⟨rfl,rfl⟩,hb,hk,hM.forget.forget⟩
  |false=>
   rw[if_neg (by simp)]
   have C:=qh (fun (w1:World) (h:DskAt N X β γ D w1)=>dDo_any h (by omega) hown p ho)
   generalize Ol.do_ D xo p=r at*
   obtain⟨pk,pp,pd,ph,pa,pn,px,py,pb⟩:=p
   simp only[ActO.cells,ActF.cells,OpD.cells,List.cons_append,List.nil_append] at C ⊢
   go_enter Tryz.func26,Tryz.ntmps26
   (refine qw ?_;intros;rename_i hM)
   (refine qKx ?_;intro R hR)
   refine(C.out _ (hM.dsk (.skip (.skip .all)) HK.out HT.out HX.out F0)).mono ?_
   rintro e w' ⟨s,X',β',γ',rfl,hs,hb,hk,hN2⟩
   replace hM:=hM.backM (.skip (.skip .all)) (dskL_flag _ _ _ _) hN2 (fun y hy=>(List.mem_append.1 hy).elim (txL_flag _ _ y) (dskL_flag _ _ _ _ y))
   refine qho ?_;clear hR R hN2 C
   obtain⟨va,vc,hv,-⟩:=slV_open hs
   have HS:=qh hs
   clear hs
   rw[hv]
   (refine qq ?_)
   (refine qw ?_;intros;rename_i hM)
   (refine qf ?_)
   exact⟨s,X',β',γ',by rw[hv];rfl,HS.out,hb,hk,hM.forget.forget⟩
end
end
section
open Go.RowKit Go.Maps
section
variable {w w' w0:World}{F:List Nat}{L:List Ent}
def DBare(w:World)(p:Option Addr):Prop:=p=none∨ ∃ f,p=some ⟨f,0,none⟩∧w.rangeAt f 0 [.pointer none,.pointer none,.slice none 0 0]
theorem DBare.below{p:Option Addr}(h:DBare w p)(hb:Below w.heap.size w w'):DBare w' p:=by
 rcases h with h|⟨f,h,hc⟩
 ·exact .inl h
 ·refine .inr ⟨f,h,fun j v hj=> ?_⟩
  have:=hc j v hj
  exact(hb.cell (p:=⟨f,0+j,none⟩) (World.block_lt_of_cell? w _ this)).trans this
end
end
section
open Go.RowKit Go.Maps
namespace Aw10
def o1:OpD:=⟨3,⟨#[97]⟩,⟨#[]⟩,0,0,0,⟨#[]⟩,0,0⟩
def o2:OpD:=⟨14,⟨#[]⟩,⟨#[]⟩,0,0,0,⟨#[]⟩,0,0⟩
def o3:OpD:=⟨7,⟨#[]⟩,⟨#[]⟩,1,0,0,⟨#[120]⟩,0,0⟩
def o4:OpD:=⟨1,⟨#[100]⟩,⟨#[]⟩,0,0,0,⟨#[]⟩,0,0⟩
def o5:OpD:=⟨6,⟨#[]⟩,⟨#[]⟩,1,0,1,⟨#[]⟩,0,0⟩
def s1:FsD:=⟨⟨4096,128,2,[⟨1,true,1,0,⟨#[]⟩,[(⟨#[97]⟩,2)]⟩,⟨2,false,1,1,⟨#[]⟩,[]⟩]⟩,[(1,[0,2,0,0,0,0,0,0,0])]⟩
def s3:FsD:=⟨⟨4096,129,2,[⟨1,true,1,0,⟨#[]⟩,[(⟨#[97]⟩,2)]⟩,⟨2,false,1,1,⟨#[120]⟩,[]⟩]⟩,[(1,[0,2,0,0,0,0,0,0,0])]⟩
def s4:FsD:=⟨⟨4096,193,3,[⟨1,true,1,0,⟨#[]⟩,[(⟨#[97]⟩,2),(⟨#[100]⟩,3)]⟩,⟨2,false,1,1,⟨#[120]⟩,[]⟩,⟨3,true,1,0,⟨#[]⟩,[]⟩]⟩,[(1,[0,2,0,0,0,0,0,0,0])]⟩
def s5:FsD:=⟨⟨4096,129,2,[⟨1,true,1,0,⟨#[]⟩,[(⟨#[97]⟩,2)]⟩,⟨2,false,1,0,⟨#[120]⟩,[]⟩]⟩,[]⟩
def D1:DskD:=⟨s1,Fs.new 4096,[(1,some o1)]⟩
def D2:DskD:=⟨s1,s1,[]⟩
def D3:DskD:=⟨s3,s1,[(1,some o3)]⟩
def D4:DskD:=⟨s4,s1,[(1,some o3),(1,some o4)]⟩
def D5:DskD:=⟨s5,s5,[]⟩
theorem f1:Fs.do_ (Fs.new 4096) 1 o1=(⟨0,1,⟨#[]⟩,[]⟩,s1):=by kernel_rfl
theorem f3:Fs.do_ s1 1 o3=(⟨0,0,⟨#[]⟩,[]⟩,s3):=by kernel_rfl
theorem f4:Fs.do_ s3 1 o4=(⟨0,0,⟨#[]⟩,[]⟩,s4):=by kernel_rfl
theorem f5:Fs.do_ s5 1 o5=(⟨13,0,⟨#[]⟩,[]⟩,s5):=by kernel_rfl
theorem d1:Ol.do_ (Ol.new 4096) 1 o1=(⟨0,1,⟨#[]⟩,[]⟩,D1):=by
 unfold Ol.do_ Ol.doN Ol.new
 rw[if_neg (by decide),f1]
 rw[if_pos (by unfold Ol.logs;decide)]
 rfl
theorem d2:Ol.do_ D1 1 o2=(⟨0,0,⟨#[]⟩,[]⟩,D2):=rfl
theorem d3:Ol.do_ D2 1 o3=(⟨0,0,⟨#[]⟩,[]⟩,D3):=by
 unfold Ol.do_ Ol.doN D2
 rw[if_neg (by decide),f3]
 rw[if_pos (by unfold Ol.logs;decide)]
 rfl
theorem d4:Ol.do_ D3 1 o4=(⟨0,0,⟨#[]⟩,[]⟩,D4):=by
 unfold Ol.do_ Ol.doN D3
 rw[if_neg (by decide),f4]
 rw[if_pos (by unfold Ol.logs;decide)]
 rfl
theorem d5:Ol.cut D4 1=D5:=by kernel_rfl
theorem d6:Ol.do_ D5 1 o5=(⟨13,0,⟨#[]⟩,[]⟩,D5):=by
 unfold Ol.do_ Ol.doN D5
 rw[if_neg (by decide),f5]
 rw[if_neg (by unfold Ol.logs;decide)]
theorem e1:Fs.files s5=[⟨⟨#[97]⟩,false,⟨#[120]⟩⟩]:=by kernel_rfl
theorem e2:Fs.files s4=[⟨⟨#[97]⟩,false,⟨#[120]⟩⟩,⟨⟨#[100]⟩,true,⟨#[]⟩⟩]:=by kernel_rfl
end Aw10
theorem val_one(zs:List LogV):(zs.map LogV.val).all (·.oneCell')=true:=by
 rw[List.all_eq_true]
 intro v hv
 obtain⟨z,-,rfl⟩:=List.mem_map.1 hv
 obtain⟨⟨o,_|p⟩,q⟩:=z<;> rfl
theorem log_sub{X:DskX}{β γ:Int→Nat×Nat}{D:DskD}:(logL X.s (X.zs.map LogV.val)).Sublist (dskL X β γ D):=by
 unfold dskL
 exact(((List.sublist_append_left _ _).trans (List.sublist_append_right _ _))).cons _
theorem awake10_any(w:World)(hX:Mx w):An 25 #[] w (.bool true):=by
 have hM:=St.start w []
 have HX:=qh hX
 have F0:0∉([]:List Nat):=nofun
 have I0:=qh (Ol.inv_new (q:=4096) (by decide) (by decide))
 have I1:=qh (Aw10.d1▸Ol.inv_do I0.out (by decide) (o:=1) (by decide) (p:=Aw10.o1) (by constructor<;> decide))
 have I2:=qh (Aw10.d2▸Ol.inv_do I1.out (by decide) (o:=1) (by decide) (p:=Aw10.o2) (by constructor<;> decide))
 have I3:=qh (Aw10.d3▸Ol.inv_do I2.out (by decide) (o:=1) (by decide) (p:=Aw10.o3) (by constructor<;> decide))
 have I4:=qh (Aw10.d4▸Ol.inv_do I3.out (by decide) (o:=1) (by decide) (p:=Aw10.o4) (by constructor<;> decide))
 have I5:=qh (Aw10.d5▸Ol.inv_cut I4.out (by decide) 1)
 clear hX
 go_enter Tryz.func25,Tryz.ntmps25
 (refine qw ?_;intros;rename_i hM)
 (refine qKx ?_;intro R hR)
 refine(dNew_any 4096 _ rfl (hM.mx HX.out F0)).mono ?_
 rintro e w' ⟨X,β,γ,rfl,hk0,hN⟩
 replace hM:=hM.madeM hN (dskL_flag _ _ _ _)
 rw[List.append_nil] at hM
 refine qho ?_;clear hR R hN
 (refine qq ?_)
 (refine qw ?_;intros;rename_i hM)
 generalize hb:DskX.b X=bb
 (refine qKx ?_;intro R hR)
 have C:=dDo_bare (hM.dsk qpt hk0 I0.out HX.out F0) (by decide) (o:=1) (by decide) Aw10.o1 (by constructor<;> decide) Aw10.d1
 rw[hb] at C
 refine C.mono ?_
 rintro e w' ⟨⟨a0,c0,rfl⟩,X1,β,γ,hb',hk1,hN⟩
 replace hM:=hM.backM qsw (dskL_flag _ _ _ _) hN (dskL_flag _ _ _ _)
 rw[hb] at hb'
 refine qho ?_;clear hR R hN C hb
 have hb:=hb'
 clear hb'
 (refine qq ?_)
 (refine qw ?_;intros;rename_i hM)
 (refine qKx ?_;intro R hR)
 have C:=dDo_bare (hM.dsk qpt hk1 I1.out HX.out F0) (by decide) (o:=1) (by decide) Aw10.o2 (by constructor<;> decide) Aw10.d2
 rw[hb] at C
 refine C.mono ?_
 rintro e w' ⟨⟨a1,c1,rfl⟩,X2,β,γ,hb',hk2,hN⟩
 replace hM:=hM.backM qsw (dskL_flag _ _ _ _) hN (dskL_flag _ _ _ _)
 rw[hb] at hb'
 refine qho ?_;clear hR R hN C hb
 have hb:=hb'
 clear hb'
 (refine qq ?_)
 (refine qw ?_;intros;rename_i hM)
 (refine qKx ?_;intro R hR)
 have C:=dDo_bare (hM.dsk qpt hk2 I2.out HX.out F0) (by decide) (o:=1) (by decide) Aw10.o3 (by constructor<;> decide) Aw10.d3
 rw[hb] at C
 refine C.mono ?_
 rintro e w' ⟨⟨a2,c2,rfl⟩,X3,β,γ,hb',hk3,hN⟩
 replace hM:=hM.backM qsw (dskL_flag _ _ _ _) hN (dskL_flag _ _ _ _)
 rw[hb] at hb'
 refine qho ?_;clear hR R hN C hb
 have hb:=hb'
 clear hb'
 (refine qq ?_)
 (refine qw ?_;intros;rename_i hM)
 (refine qKx ?_;intro R hR)
 have C:=dDo_bare (hM.dsk qpt hk3 I3.out HX.out F0) (by decide) (o:=1) (by decide) Aw10.o4 (by constructor<;> decide) Aw10.d4
 rw[hb] at C
 refine C.mono ?_
 rintro e w' ⟨⟨a3,c3,rfl⟩,X4,β,γ,hb',hk4,hN⟩
 replace hM:=hM.backM qsw (dskL_flag _ _ _ _) hN (dskL_flag _ _ _ _)
 rw[hb] at hb'
 refine qho ?_;clear hR R hN C hb
 have hb:=hb'
 clear hb'
 (refine qq ?_)
 (refine qw ?_;intros;rename_i hM)
 (refine qKx ?_;intro R hR)
 have C:=dLogged_any (hM.dsk qpt hk4 I4.out HX.out F0).row hk4.sl
 rw[hb,show X4.zs.length=2 by have:=congrArg List.length hk4.log;rw[List.length_map] at this;exact this] at C
 refine C.mono ?_
 rintro e w' ⟨rfl,hb'⟩
 replace hM:=hM.below hb'
 refine qho ?_;clear hR R C hb'
 (refine qq ?_)
 (refine qw ?_;intros;rename_i hM)
 (refine qKx ?_;intro R hR)
 have C:=dClone_any hk4.sl (val_one _) (by have:=congrArg List.length hk4.log;rw[List.length_map] at this;rw[this];decide) (by decide) (hM.dsk qpt hk4 I4.out HX.out F0).row (hM.dsk qpt hk4 I4.out HX.out F0).now ((hM.dsk qpt hk4 I4.out HX.out F0).at_.sub log_sub)
 rw[hb,show X4.zs.length=2 by have:=congrArg List.length hk4.log;rw[List.length_map] at this;exact this] at C
 refine C.mono ?_
 rintro e w' ⟨c,y,δ,sc,rfl,hkc,hN⟩
 replace hM:=hM.madeM hN (fun z hz=>by
  rcases List.mem_cons.1 hz with rfl|hz
  ·rfl
  ·rcases List.mem_append.1 hz with hz|hz
   ·exact fsL_flag _ _ _ z hz
   ·exact slL_flag _ _ _ _ z hz)
 refine qho ?_;clear hR R C hN
 have HKC:=qh hkc
 clear hkc
 simp only[List.cons_append,List.append_assoc] at hM
 (refine qq ?_)
 (refine qw ?_;intros;rename_i hM)
 (refine qKx ?_;intro R hR)
 have C:=dCut_whole (hM.dsk (.skip (.past (.past .all))) hk4 I4.out HX.out F0) (by decide) 1
 rw[hb,Aw10.d5] at C
 refine C.mono ?_
 rintro e w' ⟨rfl,X5,β,γ,hb',hk5,hN⟩
 replace hM:=hM.backM (.skip (.past (.past .all))) (dskL_flag _ _ _ _) hN (dskL_flag _ _ _ _)
 rw[hb] at hb'
 refine qho ?_;clear hR R hN C hb
 have hb:=hb'
 clear hb'
 (refine qq ?_)
 (refine qw ?_;intros;rename_i hM)
 (refine qKx ?_;intro R hR)
 have C:=dFiles_any (hM.dsk (.skip (.past (.past .all))) hk5 I5.out HX.out F0).row (hM.dsk (.skip (.past (.past .all))) hk5 I5.out HX.out F0).now I5.out.now.up (by decide)
 rw[hb,show Aw10.D5.now=Aw10.s5 from rfl,Aw10.e1] at C
 refine C.mono ?_
 rintro e w' ⟨sf,rfl,hkf,hN⟩
 replace hM:=hM.madeM hN (slL_flag _ _ _ _)
 refine qho ?_;clear hR R C hN
 rcases sf with _|⟨gf,cf⟩
 ·exact absurd hkf.2 (by decide)
 clear hkf
 simp only[slL,slV,List.length_cons,List.length_nil,Nat.zero_add,List.flatMap_cons,List.flatMap_nil,FileD.cells,List.cons_append,List.nil_append,List.append_nil] at hM ⊢
 (refine qq ?_)
 (refine qw ?_;intros;rename_i hM)
 (refine qKx ?_;intro R hR)
 have C:=dDo_bare (hM.dsk (.skip (.skip (.past (.past .all)))) hk5 I5.out HX.out F0) (by decide) (o:=1) (by decide) Aw10.o5 (by constructor<;> decide) Aw10.d6
 rw[hb] at C
 refine C.mono ?_
 rintro e w' ⟨⟨a5,c5,rfl⟩,X6,β,γ,hb',hk6,hN⟩
 replace hM:=hM.backM (.skip (.skip (.past (.past .all)))) (dskL_flag _ _ _ _) hN (dskL_flag _ _ _ _)
 rw[hb] at hb'
 refine qho ?_;clear hR R hN C hb
 have hb:=hb'
 clear hb'
 (refine qq ?_)
 (refine qw ?_;intros;rename_i hM)
 (refine qKx ?_;intro R hR)
 have C:=dLogged_any (hM.dsk (.skip (.skip (.skip (.past (.past .all))))) hk6 I5.out HX.out F0).row hk6.sl
 rw[hb,show X6.zs.length=0 by have:=congrArg List.length hk6.log;rw[List.length_map] at this;exact this] at C
 refine C.mono ?_
 rintro e w' ⟨rfl,hb'⟩
 replace hM:=hM.below hb'
 refine qho ?_;clear hR R C hb'
 (refine qq ?_)
 (refine qw ?_;intros;rename_i hM)
 (refine qKx ?_;intro R hR)
 have C:=dFiles_any (hM.holds (dskE c y.f X4.sure.f sc 2) (.tail _ (.tail _ (.head _)))) (hM.fs (x:=y) (β:=δ) (d:=Aw10.D4.now) (.skip (.skip (.skip .here))) I4.out.now.inv HX.out F0) I4.out.now.up (by decide)
 rw[show Aw10.D4.now=Aw10.s4 from rfl,Aw10.e2] at C
 refine C.mono ?_
 rintro e w' ⟨sg,rfl,hkg,hN⟩
 replace hM:=hM.below hN.to_below
 refine qho ?_;clear hR R C hN
 obtain⟨ag,cg,hvg,-⟩:=slV_open hkg
 rw[hvg]
 simp only[List.length_cons,List.length_nil,Nat.zero_add,Nat.reduceAdd]
 (refine qq ?_)
 (refine qw ?_;intros;rename_i hM)
 (refine qKx ?_;intro R hR)
 refine(dLogged_any (hM.holds (dskE c y.f X4.sure.f sc 2) (.tail _ (.tail _ (.head _)))) HKC.out).mono ?_
 rintro e w' ⟨rfl,hb'⟩
 replace hM:=hM.below hb'
 refine qho ?_;clear hR R hb'
 (refine qq ?_)
 exact qwf
end
section
open Go.RowKit Go.Maps
section
variable {P:Program}{K:Act→World→Prop}{a:Act}{w w0:World}{ops:Array Oper}{l:List (Oper×Nat)}{o:Oper}{F:List Nat}{L L' Lr:List Ent}{ty:TypeId}{c b q:Nat}{x y:Operand}
theorem St.storeRowX(hx:o.op= .store ty x y)(hM:St w0 F w L)(hc:(c==2||c==3)=true)(hw:Region.wanted o (yielded ops a.tmps)=true){n:Nat}(hT:sizeIn rowTab ty=some n)(hev:a.eval x= .pointer (some ⟨b,q,none⟩)){vs:Array Value}(hy:a.eval y= .agg vs){r:Res}(hu:Upd L (b,true,r) (b,true,r.put (over r.known q vs.toList)) L')(hq:q+vs.size≤r.known.length)(h0:0<vs.size)(h1:rowB P ty vs.size=true)(hv0:vs.toList.all (·.oneCell')=true)
  (hS:c=2→Rest L (b,true,r) Lr) (h: ∀ w',Only [b] w w'→St w0 F w' L'→wpSeq P ops K (Held w0 F Lr) l (a.put o.dst undef) w'):wpSeq P ops K (Held w0 F Lr) ((o,c)::l) a w:=by
 have hr:r.holds w.heap[b]? :=hM.holds _ hu.mem
 have hown: ∀ x∈[b],x∈F∨w0.heap.size≤x:=fun x hx=>by
  have e:x=b:=by simpa using hx
  rw[e];exact hM.own _ hu.mem rfl
 obtain⟨rest,t,hb,hput⟩:=Res.whole (q:=q) hr (by omega)
 have hv:vs.all (·.oneCell')=true:=by simpa using hv0
 obtain⟨d,-,-,e3⟩:=rowB_spec h1
 have hrun:(execOp a.eval o).run P w= .ok .skip (w.setCells b q vs.toList):=by
  unfold execOp
  simp only[hx,hev,hy,Instr.storeAt,Instr.sureAddr,Sem.run_bind,Sem.run_pure,Result.andThen_ok,run_storeVar_mid w b q ty vs (hb.there q vs.size (by rw[List.length_append];omega)) e3 hv]
 have hres:=hput (over r.known q vs.toList) (over_length _ _ _) (w.setCells b q vs.toList) (by have:=hb.setCells vs.toList q;rwa [over_append _ _ _ _ (by simpa using hq)] at this)
 exact wpSeq_turns hc hw hrun (.inr ⟨rfl,rfl⟩) (fun h2 hh=>⟨hh.only.then (only_setCells b vs.toList q w) hown,hh.has.turn (only_setCells b vs.toList q w) ((hS h2).apart hM.nd)⟩) (h _ (only_setCells b vs.toList q w) (hM.turn hu (only_setCells b vs.toList q w) hres))
end
section
variable {w w' w0 w1 wr:World}{Y Y':RDX}{D D':DskD}{V V':RDV}{N M:Nat}{F F' F1 G:List Nat}{L A:List Ent}
theorem St.apartR(hM:St wr F1 w L)(hf:flagged L)(h:RDs N Y D V wr)(hA: ∀ k∈rdK Y D V,k∉F1): ∀ k∈keysOf L,k∉rdK Y D V:=fun k hk hm=>by
 obtain⟨y,hy,rfl⟩:=List.mem_map.1 hk
 rcases hM.own y hy (hf y hy) with h1|h1
 ·exact hA _ hm h1
 ·have:=h.lt _ hm
  omega
theorem rdG_rdK: ∀ k∈rdG Y D V.hs,k∈rdK Y D V:=fun k hk=>List.mem_append_left _ (rdG_keys k hk)
theorem St.rebase(ho:Only F w0 w1)(hM:St w1 F' w L)(hF: ∀ k∈F',k∈F∨w0.heap.size≤k):St w0 F w L:=⟨ho.then hM.only hF,hM.holds,hM.nd,fun y hy h1=>by
 rcases hM.own y hy h1 with h2|h2
 ·exact hF _ h2
 ·exact .inr (Nat.le_trans ho.size h2)⟩
theorem reb1{W:World}(hM:St wr F1 W L)(hfl:flagged L)(HO:Only [] w0 wr)(hR:RDs N Y D V wr)(hA: ∀ k∈rdK Y D V,w0.heap.size≤k∧k∉F1)(hF1: ∀ k∈F1,w0.heap.size≤k):
  St W (keysOf L++rdG Y D V.hs) W L∧RDs N Y D V W∧Only [] w0 W∧(∀ k∈keysOf L,w0.heap.size≤k∧k<W.heap.size∧k∉rdK Y D V):=by
 have hap:=St.apartR hM hfl hR fun k hk=>(hA k hk).2
 have hs:=HO.size
 refine⟨⟨Only.refl _ W,hM.holds,hM.nd,fun y hy _=> .inl (List.mem_append_left _ (List.mem_map_of_mem hy))⟩,hR.only hM.only fun k hk=>(hA k hk).2,HO.then hM.only fun k hk=> .inr (hF1 k hk),fun k hk=>⟨?_,hM.whole.lt k hk,hap k hk⟩⟩
 obtain⟨y,hy,rfl⟩:=List.mem_map.1 hk
 rcases hM.own y hy (hfl y hy) with h1|h1
 ·exact hF1 _ h1
 ·omega
theorem reb2{W:World}(hM:St W F w L)(HO:Only [] w0 W)(hF: ∀ k∈F,w0.heap.size≤k)(hfl:flagged L):St w (keysOf L) w L∧Only [] w0 w∧ ∀ k∈keysOf L,w0.heap.size≤k:=by
 have hs:=HO.size
 refine⟨hM.whole.st,HO.then hM.only fun k hk=> .inr (hF k hk),fun k hk=> ?_⟩
 obtain⟨y,hy,rfl⟩:=List.mem_map.1 hk
 rcases hM.own y hy (hfl y hy) with h1|h1
 ·exact hF _ h1
 ·omega
theorem reb2K{W:World}{K:List Nat}(hM:St W F w L)(HO:Only [] w0 W)(hF: ∀ k∈F,w0.heap.size≤k)(hfl:flagged L)(hK: ∀ k∈K,w0.heap.size≤k∧k∉keysOf L):St w (keysOf L) w L∧Only [] w0 w∧(∀ k∈keysOf L,w0.heap.size≤k)∧ ∀ k∈K,w0.heap.size≤k∧k∉keysOf L:=
 ⟨(reb2 hM HO hF hfl).1,(reb2 hM HO hF hfl).2.1,(reb2 hM HO hF hfl).2.2,hK⟩
theorem RDs.rowD(h:RDs N Y D V w):w.rangeAt Y.d 0 [.pointer (some ⟨Y.now.f,0,none⟩),.pointer (some ⟨Y.base.f,0,none⟩),slV Y.s D.log.length]:=Res.range (q:=0) (n:=3) (h.at_.has (rdE Y D.log.length) (by unfold rdL;exact .head _)) (Nat.le_refl _)
theorem RDs.dK:Y.d∈rdK Y D V:=List.mem_append_left _ (by rw[rdL_keys];exact .head _)
theorem RDs.fK:Y.now.f∈rdK Y D V:=List.mem_append_left _ (by rw[rdL_keys];exact .tail _ (List.mem_append_right _ (by rw[rfL_keys];exact .head _)))
theorem flag_app{A B:List Ent}(ha:flagged A)(hb:flagged B):flagged (A++B):=fun y hy=>(List.mem_append.1 hy).elim (ha y) (hb y)
theorem flag_cons{b:Nat}{r:Res}{B:List Ent}(hb:flagged B):flagged ((b,true,r)::B):=fun y hy=>by
 rcases List.mem_cons.1 hy with rfl|hy
 ·rfl
 ·exact hb y hy
theorem fNew_no(q:Int)(w:World)(hq:In.newE q=1):An 13 #[.int .i64 q] w (.tuple #[.pointer none,.int .i64 1]):=by
 have hM:=St.start w []
 have CN:=qh (fun W:World=>New_no q W hq)
 clear hq
 go_enter Tryz.func13,Tryz.ntmps13
 (refine qw ?_;intros;rename_i hM)
 (refine qK3 (fun R hR=> ?_))
 refine(CN.out _).mono ?_
 rintro e w' ⟨rfl,rfl⟩;refine qho ?_;clear hR R;(refine qq ?_)
 exact qwf
theorem dNew_no(q:Int)(w:World)(hq:In.newE q=1):An 23 #[.int .i64 q] w (.tuple #[.pointer none,.int .i64 1]):=by
 have hM:=St.start w []
 have CN:=qh (fun W:World=>fNew_no q W hq)
 clear hq
 go_enter Tryz.func23,Tryz.ntmps23
 (refine qw ?_;intros;rename_i hM)
 (refine qCB (CN.out _) hM ?_;clear hM;intro w' hM)
 exact qwf
theorem tx_mid(a b c:Ent)(A B:List Ent):(A++(a::b::c::B)).Perm (a::b::c::(A++B)):=(perm_by (by intro _ x;simp only[List.append_eq,List.count_append,List.count_cons,List.count_nil,List.cons_append,List.nil_append];omega))
theorem tx_keys{a b c:Ent}{A B:List Ent}{k:Nat}(h:k∈keysOf (a::b::c::(A++B))):k∈keysOf A∨k∈keysOf (a::b::c::B):=by
 have h1:=((tx_mid a b c A B).map (·.1)).mem_iff.2 h
 rw[List.map_append,List.mem_append] at h1
 exact h1
namespace Ol
theorem list_few{N:Nat}{t:TabD}(I:In.Inv N t)(id:Int):(In.list t id).length≤N:=by
 unfold In.list
 split
 ·rw[List.length_map]
  unfold In.at_
  cases hf:In.find t.nodes id with
  |none=>exact Nat.zero_le _
  |some n=>exact names_most I (In.find_some hf).1
 ·exact Nat.zero_le _
theorem names_few{N:Nat}{D:DskD}{o:Int}{p:OpD}(h:Inv N D):(do_ D o p).1.names.length≤N:=by
 unfold do_
 split
 ·exact Nat.zero_le _
 ·show(Fs.do_ D.now o p).1.names.length≤N
  unfold Fs.do_ Fs.opens Fs.gives Fs.handled Fs.lists Fs.errR
  repeat' split
  all_goals first
   |exact Nat.zero_le _
   |exact list_few h.now.inv.tbl _
end Ol
theorem small_okP{x:ActF}(hf:x.Fit)(hs:SmallF x):x.op.Ok:=⟨hf.op.kind,hf.op.h,hf.op.at_,hf.op.n,by have:=hs.path;omega,by have:=hs.dest;omega,hf.op.data⟩
theorem zs_lenP{X:DskX}{D:DskD}(h:DskOk X D):X.zs.length=D.log.length:=by rw[←h.log,List.length_map]
theorem small_sm{x:ActF}(hs:SmallF x):x.op.Sm:=⟨by have:=hs.path;omega,by have:=hs.dest;omega,by have:=hs.data;omega⟩
end
end
section
open Go.RowKit Go.Maps
namespace Hs
theorem Like.nobody{N:Nat}{d:FsD}{hs:List HndD}(I:Fs.Inv N d)(L:Like hs d.h)(h:Fs.owners d=[]):hs=[]:=by
 have e:=owners_eq I L
 rw[h] at e
 cases hs with
 |nil=>rfl
 |cons z r=>
  obtain⟨-,h2⟩:=owners_fold (z::r) [] .nil
  have h3:=(h2 z.owner).2 (.inr ⟨z,.head _,rfl⟩)
  rw[show(z::r).foldl (fun l z=>ownIns z.owner l) []=owners (z::r) from rfl,e] at h3
  cases h3
end Hs
namespace Fs
theorem files_short{N:Nat}{d:FsD}(I:In.Inv N d.t)(L:Legal d.t): ∀ f∈files d,f.path.size≤96:=fun f hf=>by
 rw[files_T L] at hf
 obtain⟨e,he,rfl⟩:=List.mem_map.1 hf
 obtain⟨h1,h2,h3⟩:=T_mem I he
 exact(L.paths e.1 h1 (by rw[h2];exact h3)).short
end Fs
section
variable {w w' w0 w1 w2:World}{X X':RDX}{Z Z':RFX}{D D':DskD}{V V':RDV}{N M:Nat}{F F' G:List Nat}{L:List Ent}{d:FsD}{zs:List NodV}{hs:List HndD}
theorem RDTo.below(h:RDTo N X D V X' D' V' w w1)(hb:Below w1.heap.size w1 w2):RDTo N X D V X' D' V' w w2:=⟨h.d,h.is.below hb,h.only.below (hb.mono h.only.size),h.own,h.grow⟩
theorem lg_row{g cap:Nat}{l:List LogD}(hA:At (lgL (some (g,cap)) l) w){k:Nat}{z:LogD}(hz:l[k]? =some z):w.rangeAt g (k*11) (logC z):=by
 have hk:=(List.getElem?_eq_some_iff.1 hz).1
 have:=Res.range (q:=k*11) (n:=11) (hA.has (g,true,.pre (l.flatMap logC) 36 (cap*11)) (.head _)) (by show k*11+11≤(l.flatMap logC).length;rw[logsC_len];omega)
 rw[show(Res.pre (l.flatMap logC) 36 (cap*11)).known=l.flatMap logC from rfl,logC_at hz] at this
 exact this
theorem lg_op{g k:Nat}{o:Int}{p:OpD}(h:w.rangeAt g (k*11) (logC (o,some p))):w.rangeAt g (k*11+2) p.cells:=fun j v hj=>by
 have:=h (j+2) v hj
 rwa [show k*11+2+j=k*11+(j+2) by omega]
structure RMade (B:Nat) (K:List Nat) (M:Nat) (Z:RFX) (d:FsD) (zs:List NodV) (hs:List HndD):Prop where
 is: ∀ W,At (rfC Z d zs hs) W→RFs M Z d zs hs W
 keys: ∀ k∈keysOf (rfC Z d zs hs),k∈K∨B≤k
theorem RMade.to{B:Nat}{K:List Nat}{M M':Nat}{d':FsD}{zs':List NodV}{hs':List HndD}(h:RMade B K M Z d zs hs)(hto:RFsTo M' Z d zs hs d' Z' zs' hs' w w')(hw:B≤w.heap.size):RMade B K M' Z' d' zs' hs':=
 ⟨fun _ hA=>hto.fs.at_ hA,fun k hk=>by
  rcases hto.grow k hk with h1|h1
  ·exact h.keys k h1
  ·exact .inr (Nat.le_trans hw h1)⟩
theorem cut_mid{xd:Nat}{xn xb Q:RFX}{xs:Option (Nat×Nat)}{zb z3:List NodV}{hb h3:List HndD}{keep:Int}{dz:FsD}{W:World}(h:RDs N ⟨xd,xn,xb,xs⟩ D ⟨zs,hs,zb,hb⟩ w0)(hN:N≤30000)
  (hQ:RMade w0.heap.size (keysOf (rfC xb D.base zb hb)) M Q dz z3 h3) (hz:Ol.cutFs D keep=dz) (ho:Fs.owners dz=[])
  (hM:St w0 [xd] W ((xd,true,.cells [.pointer (some ⟨Q.f,0,none⟩),.pointer (some ⟨xb.f,0,none⟩),slV xs D.log.length] 72)::rfC Q dz z3 h3)):RDs N ⟨xd,Q,xb,xs⟩ ⟨dz,D.base,D.log⟩ ⟨z3,h3,zb,hb⟩ W:=by
 have hlgA:At (lgL xs D.log) w0:=h.at_.sub (by unfold rdL;exact(List.sublist_append_left _ _).cons _)
 have hlg: ∀ k∈keysOf (lgL xs D.log),k≠xd∧k<w0.heap.size∧k∉keysOf (rfC xb D.base zb hb):=fun k hk=>by
  have h1:=h.at_.nd
  rw[rdL_keys] at h1
  refine⟨fun e=>(List.nodup_cons.1 h1).1 (e▸List.mem_append_left _ hk),hlgA.lt k hk,h.apart k (rdG_mem.2 (.inr (.inl hk)))⟩
 have hnd:=hM.nd
 simp only[List.map_cons,List.nodup_cons] at hnd
 have hxb:xd∉keysOf (rfC xb D.base zb hb):=h.apart xd (rdG_mem.2 (.inl rfl))
 have hB:RFs N xb D.base zb hb W:=h.base.only hM.only fun k hk hm=>by
  rcases List.mem_singleton.1 hm with rfl
  exact hxb hk
 have hL:At (lgL xs D.log) W:=hlgA.only hM.only fun k hk hm=>by
  rcases List.mem_singleton.1 hm with rfl
  exact(hlg _ hk).1 rfl
 have hQA:At (rfC Q dz z3 h3) W:=hM.forget.whole
 have hnow:=hQ.is W hQA
 have hnil:h3=[]:=hnow.like.nobody hnow.inv.inv ho
 have hfi:=Ol.inv_cutFs h.inv (by omega) keep
 rw[hz] at hfi
 have hlw:=(Ol.cut_files h.inv ⟨h.law.now,h.law.base⟩ (by omega) keep).2
 rw[hz] at hlw
 refine⟨⟨fun y hy=> ?_, ?_⟩,h.lok,⟨hnow.is,hnow.like,by rw[hnil];exact Nat.zero_le _,hfi⟩,hB,⟨hfi,h.inv.base,h.inv.ok⟩,⟨hlw,h.law.base,h.law.sm⟩,fun k hk=> ?_⟩
 ·unfold rdL rdE at hy
  rcases List.mem_cons.1 hy with rfl|hy
  ·exact hM.holds _ (.head _)
  ·exact(List.mem_append.1 hy).elim (hL.has y) (hQA.has y)
 ·rw[rdL_keys,List.nodup_cons,List.mem_append,List.nodup_append]
  refine⟨fun hm=>hm.elim (fun h1=>(hlg _ h1).1 rfl) hnd.1,hL.nd,hQA.nd,fun a ha b hb e=> ?_⟩
  subst e
  have h1:=hlg a ha
  rcases hQ.keys a hb with h2|h2
  ·exact h1.2.2 h2
  ·omega
 ·rcases rdG_mem.1 hk with rfl|hk|hk
  ·exact hxb
  ·exact(hlg k hk).2.2
  ·intro hm
   obtain⟨r,hr⟩:=rfG_mem (zs:=z3) (q:=dz.t.quota) (nx:=dz.t.last+1) k hk
   rcases hM.own (k,true,r) (.tail _ hr) rfl with h1|h1
   ·exact hnd.1 (by rw[←List.mem_singleton.1 h1];exact List.mem_map_of_mem (f:=(·.1)) hr)
   ·have:=h.base.is.at_.lt k hm
    exact absurd h1 (by simp only;omega)
theorem cut_end{xd:Nat}{xn xb Q:RFX}{xs:Option (Nat×Nat)}{zb z3:List NodV}{hb h3:List HndD}{dz:FsD}{W:World}(h:RDs N ⟨xd,xn,xb,xs⟩ D ⟨zs,hs,zb,hb⟩ w0)
  (hQ:RMade w0.heap.size (keysOf (rfC xb D.base zb hb)) M Q dz z3 h3)
  (hM:St w0 [xd] W ((xd,true,.cells [.pointer (some ⟨Q.f,0,none⟩),.pointer (some ⟨xb.f,0,none⟩),slV xs D.log.length] 72)::rfC Q dz z3 h3)) (hto:RDTo N ⟨xd,Q,xb,xs⟩ ⟨dz,D.base,D.log⟩ ⟨z3,h3,zb,hb⟩ X' D' V' W w'):RDTo N ⟨xd,xn,xb,xs⟩ D ⟨zs,hs,zb,hb⟩ X' D' V' w0 w':=by
 have hsz:=hM.only.size
 have hg: ∀ k∈rdG ⟨xd,Q,xb,xs⟩ ⟨dz,D.base,D.log⟩ h3,k∈rdG ⟨xd,xn,xb,xs⟩ D hs∨w0.heap.size≤k:=fun k hk=>by
  rcases rdG_mem.1 hk with rfl|hk|hk
  ·exact .inl (rdG_mem.2 (.inl rfl))
  ·exact .inl (rdG_mem.2 (.inr (.inl hk)))
  ·obtain⟨r,hr⟩:=rfG_mem (zs:=z3) (q:=dz.t.quota) (nx:=dz.t.last+1) k hk
   rcases hM.own (k,true,r) (.tail _ hr) rfl with h1|h1
   ·exact .inl (rdG_mem.2 (.inl (List.mem_singleton.1 h1)))
   ·exact .inr h1
 refine⟨hto.d,hto.is,(hM.only.mono (fun k hk=>by rcases List.mem_singleton.1 hk with rfl;exact rdG_mem.2 (.inl rfl))).then hto.only hg,fun k hk=> ?_,fun k hk=> ?_⟩
 ·rcases hto.own k hk with h1|h1
  ·exact hg k h1
  ·exact .inr (Nat.le_trans hsz h1)
 ·rcases hto.grow k hk with h1|h1
  ·rcases List.mem_append.1 h1 with h1|h1
   ·rw[rdL_keys] at h1
    rcases List.mem_cons.1 h1 with rfl|h1
    ·exact .inl (List.mem_append_left _ (by rw[rdL_keys];exact .head _))
    ·rcases List.mem_append.1 h1 with h1|h1
     ·exact .inl (List.mem_append_left _ (by rw[rdL_keys];exact .tail _ (List.mem_append_left _ h1)))
     ·rcases hQ.keys k h1 with h2|h2
      ·exact .inl (List.mem_append_right _ h2)
      ·exact .inr h2
   ·exact .inl (List.mem_append_right _ h1)
  ·exact .inr (Nat.le_trans hsz h1)
theorem file_cell{fs:List FileD}{m:Nat}{x:FileD}(h:fs[m]? =some x):(fs.flatMap FileD.cells)[m*3]? =some (.string x.path)∧(fs.flatMap FileD.cells)[m*3+1]? =some (.bool x.dir):=by
 have h1:=file_at h
 have g: ∀ i,i<3→(fs.flatMap FileD.cells)[m*3+i]? =([.string x.path,.bool x.dir,.string x.data]:List Value)[i]? :=fun i hi=>by
  rw[←h1,List.getElem?_take,if_pos hi,List.getElem?_drop]
 exact⟨g 0 (by omega),g 1 (by omega)⟩
theorem drop_fold{fs:List FileD}{m:Nat}{x:FileD}(h:fs[m]? =some x)(de:FsD):(fs.drop m).reverse.foldl Ol.empty1 de=Ol.empty1 ((fs.drop (m+1)).reverse.foldl Ol.empty1 de) x:=by
 obtain⟨hk,rfl⟩:=List.getElem?_eq_some_iff.1 h
 rw[List.drop_eq_getElem_cons hk,List.reverse_cons,List.foldl_append]
 rfl
theorem rCut10_any(h:RDs N X D V w0)(hN:N≤30000)(keep:Int):Calls Tryz.prog 37 #[.pointer (some ⟨X.d,0,none⟩),.int .i64 keep] w0 fun e w'=>e= .returned (.tuple #[])∧ ∃ X' V',RDTo N X D V X' (Ol.cut D keep) V' w0 w':=by
 have hlog:=log_len h
 have hst:=h.st
 obtain⟨xd,xn,xb,xs⟩:=X
 obtain⟨zs,hs,zb,hb⟩:=V
 obtain⟨va,vc,hv,hva⟩:=slV_open h.lok
 unfold rdL rdE at hst
 simp only at hst hv hva
 rw[hv] at hst
 have hnd:=hst.nd
 have hM:St w0 [xd] w0 [(xd,true,.cells [.pointer (some ⟨xn.f,0,none⟩),.pointer (some ⟨xb.f,0,none⟩),.slice va D.log.length vc] 72)]:=
  ⟨Only.refl _ _,fun y hy=>hst.holds y (by rcases List.mem_singleton.1 hy with rfl;exact .head _),by simp,fun y hy _=> .inl (by rcases List.mem_singleton.1 hy with rfl;exact .head _)⟩
 have HLG:=qh (show At (lgL xs D.log) w0 from hst.whole.sub ((List.sublist_append_left _ _).cons _))
 have HNX:=qh (show ∀ g cap,xs=some (g,cap)→g∉[xd] from fun g cap e hm=>by
  rcases List.mem_singleton.1 hm with rfl
  subst e
  simp only[List.map_cons,List.nodup_cons] at hnd
  exact hnd.1 (by rw[List.map_append];exact List.mem_append_left _ (.head _)))
 have hxb:xd∉keysOf (rfC xb D.base zb hb):=h.apart xd (rdG_mem.2 (.inl rfl))
 have HC:=qh (rCloneF_any h.base)
 have HH:=qh h
 have HV:=qh hv
 have HK:=qh h.lok
 have HSM:=qh h.law.sm
 have HLO:=qh h.inv.ok
 obtain⟨K0,hK0,hK1⟩:=h.inv.base
 have HFB:=qh hK0
 have HLB:=qh h.law.base
 have hbx:=qh (h.base.ents)
 have HBX:=qh (show ∀ k∈keysOf (zb.flatMap NodV.ents),k∉[xd] from fun k hk hm=>by
  rcases List.mem_singleton.1 hm with rfl
  exact hxb (ents_keys _ hk))
 have HBL:=qh (show ∀ k∈keysOf (zb.flatMap NodV.ents),k<w0.heap.size from fun k hk=>h.base.is.at_.lt _ (ents_keys _ hk))
 obtain⟨KB,hKB⟩: ∃ KB,keysOf (rfC xb D.base zb hb)=KB:=⟨_,rfl⟩
 have HKB:=qh hKB
 obtain⟨kk,hkk⟩: ∃ kk:Nat,max 0 (min keep (D.log.length:Int))=(kk:Int):=⟨(max 0 (min keep (D.log.length:Int))).toNat,by omega⟩
 have hC:Ol.cutFs D keep=Ol.empties (Ol.exits (Ol.replay D.base (D.log.take kk))):=by
  unfold Ol.cutFs
  rw[hkk,Int.toNat_natCast]
 have HCF:=qh hC
 have hkl:kk≤D.log.length:=by omega
 clear h hst hnd hv hK0 hxb hKB hC
 go_enter Tryz.func37,Tryz.ntmps37
 (refine qw ?_;intros;rename_i hM)
 (refine qKx ?_;intro R hR)
 refine HC.out.mono ?_
 rintro e w' ⟨X1,rfl,HX,hN1⟩
 have hB1:Below w0.heap.size w0 w':=hN1.only.to_below (Nat.le_refl _) nofun
 have hnew: ∀ k∈keysOf (newL X1 D.base zb hb),w0.heap.size≤k:=fun k hk=>by
  obtain⟨y,hy,rfl⟩:=List.mem_map.1 hk
  exact(hN1.own y hy (newL_flag y hy)).resolve_left nofun
 have hlt0:xd<w0.heap.size:=hM.lt (.head _)
 replace hM:=hM.madeM hN1 newL_flag
 replace hM:=St.cloned (HH.out).base hM (hbx.out.below hB1) (fun k hk hm=>by
  have h1:=HBL.out k hk
  rw[keys_app] at hm
  rcases List.mem_append.1 hm with hm|hm
  ·have:=hnew k hm
   omega
  ·exact HBX.out k hk hm)
 have HMD:=qh (show RMade w0.heap.size KB N X1 D.base zb hb from ⟨HX.out,fun k hk=>by
  rcases new_keys hk with h1|h1
  ·exact .inr (hnew k h1)
  ·exact .inl (by rw[←HKB.out];exact ents_keys k h1)⟩)
 replace hM:=hM.perm List.perm_append_comm
 simp only[List.cons_append,List.nil_append] at hM
 refine qho ?_;clear hR R hN1 HC HX hB1 hnew
 (refine qq ?_)
 (refine qw ?_;intros;rename_i hM)
 go_loopw [5] (fun i wr=> ∃ (k:Nat) (Z:RFX) (dk:FsD) (z1:List NodV) (h1:List HndD),k≤kk∧i= .int .i64 k∧Z.f=X1.f∧Hid (Ol.replay D.base (D.log.take k)=dk)∧Hid (RMade w0.heap.size KB (N+3*k) Z dk z1 h1)∧St w0 [xd] wr ((xd,true,.cells [.pointer (some ⟨xn.f,0,none⟩),.pointer (some ⟨xb.f,0,none⟩),.slice va D.log.length vc] 72)::rfC Z dk z1 h1)) (fun i _=>kk - (intOf i).toNat)
 case atStart=>exact⟨0,X1,D.base,zb,hb,by omega,rfl,rfl,qh rfl,HMD,hM⟩
 case round=>
  clear hM HMD
  obtain⟨k,Z,dk,z1,h1,hk,rfl,hzf,HDK,HMD,hM⟩:=hrel
  have HSZ:=qh hM.only.size
  by_cases hlt:k<kk
  ·obtain⟨z,hzk⟩:=get_at (xs:=D.log) (k:=k) (by omega)
   obtain⟨g,cap,rfl⟩: ∃ g cap,xs=some (g,cap):=by
    rcases xs with _|⟨g,cap⟩
    ·exact absurd HK.out.2 (by omega)
    ·exact⟨g,cap,rfl⟩
   obtain⟨rfl,rfl⟩:=hva g cap rfl
   have hgx:g∉[xd]:=HNX.out g _ rfl
   have r1:=lg_row HLG.out hzk
   have HST:=qh ((log_step hzk D.base).trans (congrArg (fun q=>Ol.again q z) HDK.out))
   have hlok:=HLO.out z (List.mem_of_getElem? hzk)
   have hsm:=HSM.out z (List.mem_of_getElem? hzk)
   have k1:(k:Int)<(D.log.length:Int):=by omega
   have k2:(k:Int)<keep:=by omega
   clear hzk hlt
   obtain⟨o,_|p⟩:=z
   ·have c0:w0.cell? ⟨g,k*11,none⟩=some (.int .i64 o):=r1 0 _ rfl
    have c1:w0.cell? ⟨g,k*11+1,none⟩=some (.bool true):=r1 1 _ rfl
    have HEX:=qh (fun (W:World) (hA:At (rfC Z dk z1 h1) W)=>rExit9_any (HMD.out.is W hA) (by omega) hlok.1)
    clear r1 hlok hsm
    rw[←hzf]
    (refine qw ?_;intros;rename_i hM)
    (refine qKx ?_;intro R hR)
    refine(HEX.out _ (hM.part (Part.skip Part.all))).mono ?_
    rintro e w' ⟨rfl,Z2,z2,h2,hto⟩
    have HMD2:=qh ((HMD.out.to hto (by have:=hM.only.size;omega)))
    have hzf2:=hto.f
    replace hM:=hM.backG (Swap.skip Swap.all) hto.st rfG_mem hto.grow
    refine qho ?_;clear hR R HEX hto HMD
    (refine qq ?_)
    (refine qw ?_;intros;rename_i hM)
    (try simp only[Exit.then])
    rw[hzf]
    (refine⟨?_,qio⟩;repeat(first|exact⟨⟨k+1,Z2,_,z2,h2,by omega,rfl,hzf2.trans hzf,HST,qh ⟨fun W hA=>(HMD2.out.is W hA).more (by omega),HMD2.out.keys⟩,hM⟩,rfl⟩|apply Exists.intro))
   ·have c0:w0.cell? ⟨g,k*11,none⟩=some (.int .i64 o):=r1 0 _ rfl
    have c1:w0.cell? ⟨g,k*11+1,none⟩=some (.bool false):=r1 1 _ rfl
    have r2:=lg_op r1
    have HDO:=qh (fun (W:World) (hA:At (rfC Z dk z1 h1) W)=>rDo9_any (HMD.out.is W hA) (by omega) hlok.1 p (hsm p rfl))
    have HST':=qh (show Ol.replay D.base (D.log.take (k+1))=(Fs.do_ dk o p).2 from HST.out)
    generalize Fs.do_ dk o p=G at*
    obtain⟨⟨er,n,da,ns⟩,d2⟩:=G
    unfold OpD.cells at r2
    simp only[OpD.cells] at HDO
    clear r1 hlok hsm HST
    rw[←hzf]
    (repeat(first|(refine qW0 ?_;clear hM;intros;rename_i hM)|((first|refine qD (id:=6) hM (Sub.take Sub.nil) [4,8,12] [(0,0),(1,0),(2,0),(3,0),(4,1),(5,0),(6,0),(7,0),(8,1),(9,0),(10,0),(11,0),(12,1),(13,2),(14,2),(15,2),(16,2),(17,2)] ?_);clear hM;intro w hM Kr hKr)))
    (refine qKx ?_;intro R hR)
    refine(HDO.out _ (hM.part (Part.skip Part.all))).mono ?_
    rintro e w' ⟨s,Z2,z2,h2,rfl,-,-,-,hto⟩
    have HMD2:=qh ((HMD.out.to hto (by have:=hM.only.size;omega)))
    have hzf2:=hto.f
    replace hM:=hM.backG (Swap.skip Swap.all) hto.st rfG_mem hto.grow
    first|refine hR.out _ _ ?_|refine hR.out _ _ (fun _=>hM.held (fun x hx=>by rcases List.mem_singleton.1 hx with rfl;exact .head _)) ?_
    clear hR R HDO hto HMD
    (refine qq ?_)
    (repeat(first|(refine qW0 ?_;clear hM;intros;rename_i hM)|((first|refine qD (id:=6) hM (Sub.take Sub.nil) [4,8,12] [(0,0),(1,0),(2,0),(3,0),(4,1),(5,0),(6,0),(7,0),(8,1),(9,0),(10,0),(11,0),(12,1),(13,2),(14,2),(15,2),(16,2),(17,2)] ?_);clear hM;intro w hM Kr hKr)))
    (try simp only[Exit.then])
    rw[hzf]
    (refine⟨?_,qio⟩;repeat(first|exact⟨⟨k+1,Z2,_,z2,h2,by omega,rfl,hzf2.trans hzf,HST',qh ⟨fun W hA=>(HMD2.out.is W hA).more (by omega),HMD2.out.keys⟩,hM⟩,rfl⟩|apply Exists.intro))
  ·obtain rfl:k=kk:=by omega
   have HRP:=qh (show Ol.cutFs D keep=Ol.empties (Ol.exits dk) by rw[HCF.out,HDK.out])
   have HOW:=qh (fun (W:World) (hA:At (rfC Z dk z1 h1) W)=>rOwners_any (HMD.out.is W hA).is)
   have HI0:=qh ((HMD.out.is _ (hM.part (Part.skip Part.all))).inv)
   have HLK:=qh ((HMD.out.is _ (hM.part (Part.skip Part.all))).like)
   have HLL:=qh (show Fs.Legal dk.t by
    rw[←HDK.out]
    exact Ol.legal_replay _ (fun x hx=>HLO.out x (List.mem_of_mem_take hx)) HFB.out (by rw[List.length_take];omega) HLB.out)
   rw[Hs.owners_eq HI0.out.inv HLK.out] at HOW
   have hol:(Fs.owners dk).length≤900000:=by
    have:=HI0.out.inv.len
    unfold Fs.owners
    rw[List.length_map]
    omega
   have HOF:=qh (Ol.owners_fit HI0.out)
   have HEX:=qh (show Ol.exits dk=(Fs.owners dk).foldl Fs.exit dk from rfl)
   generalize Fs.owners dk=os at*
   have HCOND:=qh (show ¬((k:Int)<(D.log.length:Int))∨((k:Int)<(D.log.length:Int)∧decide ((k:Int)<keep)=false) by
    by_cases hq:(k:Int)<(D.log.length:Int)
    ·exact .inr ⟨hq,decide_eq_false (by omega)⟩
    ·exact .inl hq)
   clear hlt HCF
   rcases HCOND.out with q1|⟨q1,q2⟩
   all_goals (
    clear hkk
    rw[←hzf]
    (refine qw ?_;intros;rename_i hM)
    (refine qKx ?_;intro R hR)
    refine(HOW.out _ (hM.part (Part.skip Part.all))).mono ?_
    rintro e w' ⟨s,rfl,hok,hst⟩
    replace hM:=hM.madeM hst (slL_flag _ _ _ _)
    refine qho ?_;clear hR R hst HOW
    obtain⟨ua,uc,hu,hua⟩:=slV_open hok
    have HOK:=qh hok
    rw[hu]
    clear hok hu
    (refine qq ?_)
    (refine qw ?_;intros;rename_i hM)
    go_loopw [7] (fun i wr=> ∃ (j:Nat) (Y:RFX) (dj:FsD) (z2:List NodV) (h2:List HndD),j≤os.length∧i= .int .i64 j∧Y.f=Z.f∧Hid ((os.take j).foldl Fs.exit dk=dj)∧Hid (RMade w0.heap.size KB (N+3*k) Y dj z2 h2)∧Hid (Fs.Legal dj.t)∧St w0 [xd] wr (slL s (os.map (Value.int .i64)) 3 1++((xd,true,.cells [.pointer (some ⟨xn.f,0,none⟩),.pointer (some ⟨xb.f,0,none⟩),.slice va D.log.length vc] 72)::rfC Y dj z2 h2))) (fun i _=>os.length - (intOf i).toNat)
    case atStart=>exact⟨0,Z,dk,z1,h1,by omega,rfl,rfl,qh rfl,HMD,HLL,hM⟩
    case round=>
     clear hM
     obtain⟨j,Y,dj,z2,h2,hj,rfl,hyf,HDJ,HMJ,HLJ,hM⟩:=hrel
     by_cases hlt:j<os.length
     ·obtain⟨o,ho⟩:=get_at hlt
      obtain⟨g2,cap2,rfl⟩: ∃ g2 cap2,s=some (g2,cap2):=by
       rcases s with _|⟨g2,cap2⟩
       ·exact absurd HOK.out.2 (by omega)
       ·exact⟨g2,cap2,rfl⟩
      obtain⟨rfl,rfl⟩:=hua g2 cap2 rfl
      have hof:=HOF.out o (List.mem_of_getElem? ho)
      have HST:=qh ((own_step ho dk).trans (congrArg (fun q=>Fs.exit q o) HDJ.out))
      have hx':(os.map (Value.int .i64))[j]? =some (.int .i64 o):=by rw[List.getElem?_map,ho];rfl
      have j1:(j:Int)<(os.length:Int):=by omega
      have HE2:=qh (fun (W:World) (hA:At (rfC Y dj z2 h2) W)=>rExit9_any (HMJ.out.is W hA) (by omega) hof)
      have HLN:=qh (fun (W:World) (hA:At (rfC Y dj z2 h2) W)=>Fs.legal_exit (HMJ.out.is W hA).inv.inv HLJ.out o)
      clear ho hlt hof
      simp only[slL,List.cons_append,List.nil_append] at hM
      rw[←hyf]
      (refine qw ?_;intros;rename_i hM)
      (refine qKx ?_;intro R hR)
      have HL2:=qh (HLN.out _ (hM.part (Part.skip (Part.skip Part.all))))
      refine(HE2.out _ (hM.part (Part.skip (Part.skip Part.all)))).mono ?_
      rintro e w' ⟨rfl,Y2,z3,h3,hto⟩
      have HMD2:=qh ((HMJ.out.to hto (by have:=hM.only.size;omega)))
      have hyf2:=hto.f
      replace hM:=hM.backG (Swap.skip (Swap.skip Swap.all)) hto.st rfG_mem hto.grow
      refine qho ?_;clear hR R HE2 hto HMJ HLN
      (refine qq ?_)
      (refine qw ?_;intros;rename_i hM)
      (try simp only[Exit.then])
      rw[hyf]
      (refine⟨?_,qio⟩;repeat(first|exact⟨⟨j+1,Y2,_,z3,h3,by omega,rfl,hyf2.trans hyf,HST,HMD2,HL2,hM⟩,rfl⟩|apply Exists.intro))
     ·have k0:¬((j:Int)<(os.length:Int)):=by omega
      obtain rfl:j=os.length:=by omega
      have e:=HDJ.out
      rw[List.take_length,←HEX.out] at e
      subst e
      replace hM:=hM.subM (List.sublist_append_right _ _)
      have HIJ:=qh ((HMJ.out.is _ (hM.part (Part.skip Part.all))).inv)
      have HLJK:=qh ((HMJ.out.is _ (hM.part (Part.skip Part.all))).like)
      have HFI:=qh (fun (W:World) (hA:At (rfC Y (Ol.exits dk) z2 h2) W)=>rFiles_any (HMJ.out.is W hA).is HIJ.out.inv (by omega) HIJ.out.up HLJ.out)
      have HFS:=qh (Fs.files_short HIJ.out.inv.tbl HLJ.out)
      have hfl:=Fs.files_len HIJ.out.inv HIJ.out.up
      have HEM:=qh (show Ol.empties (Ol.exits dk)=(Fs.files (Ol.exits dk)).reverse.foldl Ol.empty1 (Ol.exits dk) from rfl)
      have HOE:=qh (Ol.owners_exits HI0.out.inv HLK.out.full)
      clear hlt hj HDJ
      generalize Ol.exits dk=de at*
      generalize Fs.files de=fs at*
      rw[←hyf]
      (refine qw ?_;intros;rename_i hM)
      (refine qKx ?_;intro R hR)
      refine(HFI.out _ (hM.part (Part.skip Part.all))).mono ?_
      rintro e w' ⟨s3,rfl,hok3,hst3⟩
      replace hM:=hM.madeM hst3 (slL_flag _ _ _ _)
      refine qho ?_;clear hR R hst3 HFI
      obtain⟨ub,ud,hu3,hua3⟩:=slV_open hok3
      have HOK3:=qh hok3
      rw[hu3]
      clear hok3 hu3
      have hw0:IntKind.i64.wrap ((fs.length:Int) - 1)=(fs.length:Int) - 1:=wrap_in _ (by omega)
      (refine qq ?_)
      (refine qw ?_;intros;rename_i hM)
      go_loopw [9,10] (fun i _ wr=> ∃ (j:Nat) (Q:RFX) (dj:FsD) (z3:List NodV) (h3:List HndD),j≤fs.length∧i= .int .i64 ((j:Int) - 1)∧Q.f=Y.f∧Hid ((fs.drop j).reverse.foldl Ol.empty1 de=dj)∧Hid (RMade w0.heap.size KB (N+3*k+3*(fs.length - j)) Q dj z3 h3)∧St w0 [xd] wr (fileL s3 fs++((xd,true,.cells [.pointer (some ⟨xn.f,0,none⟩),.pointer (some ⟨xb.f,0,none⟩),.slice va D.log.length vc] 72)::rfC Q dj z3 h3))) (fun i _ _=>(intOf i+1).toNat)
      case atStart=>exact⟨fs.length,Y,de,z2,h2,by omega,rfl,rfl,qh (by rw[List.drop_length];rfl),qh ⟨fun W hA=>(HMJ.out.is W hA).more (by omega),HMJ.out.keys⟩,hM⟩
      case round=>
       clear hM
       obtain⟨j,Q,dj,z3,h3,hj,rfl,hqf,HDJ,HMQ,hM⟩:=hrel
       have hqy:Q.f=Y.f:=hqf
       rcases j with _|m
       ·have e0:=HDJ.out
        rw[List.drop_zero,←HEM.out] at e0
        subst e0
        have HRP2:=qh HRP.out
        replace hM:=hM.subM (List.sublist_append_right _ _)
        have HOZ:=qh (show Fs.owners (Ol.empties de)=[] by
         have:=HOE.out
         unfold Fs.owners at this ⊢
         rw[Ol.empties_h]
         exact this)
        clear HDJ hj HEM HRP
        generalize Ol.empties de=dz at*
        rw[←hqy]
        (refine qw ?_;intros;rename_i hM)
        (refine qK3 (fun R hR=> ?_))
        rw[←HV.out] at hM
        have hQ:=HMQ.out
        rw[←HKB.out] at hQ
        have hmid:=cut_mid HH.out hN hQ HRP2.out HOZ.out hM
        refine(rsync_any hmid).mono ?_
        rintro e w' ⟨rfl,X',V',hto⟩
        have HEND:=qh (cut_end HH.out hQ hM hto)
        have e3:Ol.sync ⟨dz,D.base,D.log⟩=Ol.cut D keep:=by unfold Ol.sync Ol.cut;rw[HRP2.out]
        rw[e3] at HEND
        clear hM hto hmid
        refine hR.out _ _ ?_
        clear hR R
        have hM:=St.start w' []
        (refine qq ?_)
        (refine qw ?_;intros;rename_i hM)
        (refine qf ?_)
        exact⟨rfl,X',V',HEND.out.below hM.to_below⟩
       ·obtain⟨x,hx⟩:=get_at (xs:=fs) (k:=m) (by omega)
        obtain⟨g3,cap3,rfl⟩: ∃ g3 cap3,s3=some (g3,cap3):=by
         rcases s3 with _|⟨g3,cap3⟩
         ·exact absurd HOK3.out.2 (by omega)
         ·exact⟨g3,cap3,rfl⟩
        obtain⟨rfl,rfl⟩:=hua3 g3 cap3 rfl
        obtain⟨hx0,hx1⟩:=file_cell hx
        have hxs:=HFS.out x (List.mem_of_getElem? hx)
        have HST:=qh ((drop_fold hx de).trans (congrArg (fun q=>Ol.empty1 q x) HDJ.out))
        have m0:(0:Int)≤(m:Int):=by omega
        have m1:(m:Int)<(fs.length:Int):=by omega
        have hwm:IntKind.i64.wrap ((m:Int) - 1)=(m:Int) - 1:=wrap_in _ (by omega)
        have e1:((m+1:Nat):Int) - 1=(m:Int):=by omega
        obtain⟨fp,fd,ft⟩:=x
        simp only at hx0 hx1 hxs
        have CU:=qh (fun W:World=>rUnder_any fp ⟨#[114,117,110]⟩ W (by omega) (by decide))
        rw[show(⟨#[114,117,110]⟩:ByteArray)=Pt.run from rfl] at CU
        have HST2:=HST.out
        unfold Ol.empty1 at HST2
        simp only at HST2
        have HDO:=qh (fun (k:Int) (hk:Fits k) (W:World) (hA:At (rfC Q dj z3 h3) W)=>rDo9_any (HMQ.out.is W hA) (by omega) (show Fits 0 by decide) (opK k fp) ⟨by show fp.size≤_;omega,Nat.zero_le _,Nat.zero_le _⟩)
        clear hx HST
        rw[e1]
        simp only[slL,List.cons_append,List.nil_append] at hM
        cases hu:Pt.under fp Pt.run with
        |false=>
         rw[hu] at CU HST2
         have HS3:=qh HST2
         clear HST2 hu HDO
         (refine qw ?_;intros;rename_i hM)
         (refine qKx ?_;intro R hR)
         refine(CU.out _).mono ?_
         ((refine qj ?_;clear hR R hM;intro w' hM))
         (refine qw ?_;intros;rename_i hM)
         (try simp only[Exit.then])
         (refine⟨?_,qio⟩;repeat(first|exact⟨⟨m,Q,_,z3,h3,by omega,rfl,hqf,HS3,qh ⟨fun W hA=>(HMQ.out.is W hA).more (by omega),HMQ.out.keys⟩,hM⟩,rfl⟩|apply Exists.intro))
        |true=>
         rw[hu] at CU HST2
         rw[if_pos rfl] at HST2
         cases fd with
         |false=>
          rw[if_neg (by simp)] at HST2
          have HS3:=qh HST2
          have HD2:=qh (HDO.out 11 (by decide))
          clear HST2 hu HDO
          generalize Fs.do_ dj 0 (opK 11 fp)=G at*
          obtain⟨⟨er,n,da,ns⟩,d2⟩:=G
          simp only[opK,OpD.cells] at HD2
          rw[←hqy]
          (refine qw ?_;intros;rename_i hM)
          (refine qKx ?_;intro R hR)
          refine(CU.out _).mono ?_
          ((refine qj ?_;clear hR R hM;intro w' hM))
          (refine qw ?_;intros;rename_i hM)
          (refine qKx ?_;intro R hR)
          refine(HD2.out _ (hM.part (Part.skip (Part.skip Part.all)))).mono ?_
          rintro e w' ⟨s,Q2,z4,h4,rfl,-,-,-,hto⟩
          have HMD2:=qh ((HMQ.out.to hto (by have:=hM.only.size;omega)))
          have hqf2:=hto.f
          replace hM:=hM.backG (Swap.skip (Swap.skip Swap.all)) hto.st rfG_mem hto.grow
          refine qho ?_;clear hR R HD2 hto HMQ
          (refine qq ?_)
          (refine qw ?_;intros;rename_i hM)
          (try simp only[Exit.then])
          rw[hqy]
          (refine⟨?_,qio⟩;repeat(first|exact⟨⟨m,Q2,_,z4,h4,by omega,rfl,hqf2.trans hqf,HS3,qh ⟨fun W hA=>(HMD2.out.is W hA).more (by omega),HMD2.out.keys⟩,hM⟩,rfl⟩|apply Exists.intro))
         |true=>
          rw[if_pos rfl] at HST2
          have HS3:=qh HST2
          have HD2:=qh (HDO.out 2 (by decide))
          clear HST2 hu HDO
          generalize Fs.do_ dj 0 (opK 2 fp)=G at*
          obtain⟨⟨er,n,da,ns⟩,d2⟩:=G
          simp only[opK,OpD.cells] at HD2
          rw[←hqy]
          (refine qw ?_;intros;rename_i hM)
          (refine qKx ?_;intro R hR)
          refine(CU.out _).mono ?_
          ((refine qj ?_;clear hR R hM;intro w' hM))
          (refine qw ?_;intros;rename_i hM)
          (refine qKx ?_;intro R hR)
          refine(HD2.out _ (hM.part (Part.skip (Part.skip Part.all)))).mono ?_
          rintro e w' ⟨s,Q2,z4,h4,rfl,-,-,-,hto⟩
          have HMD2:=qh ((HMQ.out.to hto (by have:=hM.only.size;omega)))
          have hqf2:=hto.f
          replace hM:=hM.backG (Swap.skip (Swap.skip Swap.all)) hto.st rfG_mem hto.grow
          refine qho ?_;clear hR R HD2 hto HMQ
          (refine qq ?_)
          (refine qw ?_;intros;rename_i hM)
          (try simp only[Exit.then])
          rw[hqy]
          (refine⟨?_,qio⟩;repeat(first|exact⟨⟨m,Q2,_,z4,h4,by omega,rfl,hqf2.trans hqf,HS3,qh ⟨fun W hA=>(HMD2.out.is W hA).more (by omega),HMD2.out.keys⟩,hM⟩,rfl⟩|apply Exists.intro)))
end
end
section
open Go.RowKit Go.Maps
theorem oplogPlays_walk(q:Int)(a:Option Addr)(n c:Nat)(xs:List ActO)(w0:World)(_hw:(Lit.int .i64 q).wf=true)(hx:RActOs w0 w0.heap.size [.slice a n c] xs)(hX:Mx w0):An 8 #[.int .i64 q,.slice a n c] w0 (.bool true):=by
 have hM:=St.start w0 []
 have HX:=qh hX
 have HAC:=qh (actOs_in hx)
 have F0:0∉([]:List Nat):=nofun
 obtain rfl:n=xs.length:=HAC.out.1
 have hn:xs.length≤maxLen:=HAC.out.2.1
 rw[maxLen_val] at hn
 clear hX hx
 go_enter Tryz.func8,Tryz.ntmps8
 (refine qw ?_;intros;rename_i hM)
 (refine qKx ?_;intro R hR)
 refine(small10_any 40 (by decide) (by decide) (HAC.out.below hM.to_below)).mono ?_
 rintro e w' ⟨b,rfl,hsm,hb⟩
 replace hM:=hM.below hb
 refine qho ?_;clear hR R hb
 have HSM:=qh hsm
 clear hsm
 (refine qq ?_)
 cases b with
 |false=>
  (refine qw ?_;intros;rename_i hM)
  (refine qCB (awake10_any _ (hM.mx HX.out F0)) hM ?_;clear hM;intro w' hM)
  exact qwf
 |true=>
  have hlen:xs.length≤40:=by have:=(HSM.out rfl).1;omega
  by_cases hq:In.newE q=0
  ·have hqr:64≤q∧q≤1099511627776:=by
    unfold In.newE at hq
    by_cases c:(decide (q<64)||decide (1099511627776<q))=true
    ·rw[if_pos c] at hq;cases hq
    ·simp only[Bool.or_eq_true,decide_eq_true_eq] at c
     omega
   have HN1:=qh (fun (W:World) (hm:Mx W)=>dNew_any q W hq hm)
   have HN2:=qh (fun (W:World)=>rNew10_yes q hqr.1 hqr.2 W)
   have HAL:=qh (Ol.all_new hqr.1 hqr.2)
   clear hq hqr
   (refine qw ?_;intros;rename_i hM)
   (refine qK3 (fun R hR=> ?_))
   refine(HN1.out _ (hM.mx HX.out F0)).mono ?_
   rintro e w' ⟨X,β,γ,rfl,hkx,hN⟩
   replace hM:=hM.madeM hN (dskL_flag _ _ _ _)
   rw[List.append_nil] at hM
   refine qho ?_;clear hR R hN HN1
   generalize hbx:DskX.b X=xb
   (refine qq ?_)
   (refine qw ?_;intros;rename_i hM)
   (refine qK3 (fun R hR=> ?_))
   refine(HN2.out _).mono ?_
   rintro e w' ⟨Y,V,rfl,hrd,hb,hfr⟩
   have HA:=qh (show ∀ k∈rdK Y (Ol.new q) V,w0.heap.size≤k∧k∉keysOf (dskL X β γ (Ol.new q)) from fun k hk=>by
    have h1:=hfr k hk
    have h2:=hM.only.size
    exact⟨by omega,fun h3=>by have:=hM.whole.lt k h3;omega⟩)
   replace hM:=hM.below hb
   refine qho ?_;clear hR R hb hfr HN2
   have HR:=qh hrd
   clear hrd
   generalize hyd:RDX.d Y=yd
   (refine qq ?_)
   (refine qw ?_;intros;rename_i hM)
   go_loopw [9,10,11,12,69,76] (fun i _ _ _ _ _ wr=> ∃ (j:Nat) (X:DskX) (β γ:Int→Nat×Nat) (D:DskD) (Y:RDX) (V:RDV),j≤xs.length∧i= .int .i64 j∧X.b=xb∧Y.d=yd∧Hid (DskOk X D)∧Hid (Ol.All (1+3*j) D)∧Hid (RDs (1+3*j) Y D V wr)∧Hid (∀ k∈rdK Y D V,w0.heap.size≤k∧k∉keysOf (dskL X β γ D))∧St w0 [] wr (dskL X β γ D)) (fun i _ _ _ _ _ _=>xs.length - (intOf i).toNat)
   case atStart=>exact⟨0,X,β,γ,_,Y,V,by omega,rfl,hbx,hyd,qh hkx,HAL,HR,HA,hM⟩
   case round=>
    clear hM hkx hbx hyd HAL HR HA
    obtain⟨j,X,β,γ,D,Y,V,hj,rfl,hbx,hyd,HK,HAL,HR,HA,hM⟩:=hrel
    have HO:=qh hM.only
    have HXr:=qh (hM.mx HX.out F0)
    have hF1: ∀ k∈keysOf (dskL X β γ D),w0.heap.size≤k:=fun k hk=>by
     obtain⟨y,hy,rfl⟩:=List.mem_map.1 hk
     exact(hM.own y hy (dskL_flag _ _ _ _ y hy)).resolve_left nofun
    have hM2:=hM.whole.st
    have HA1:=HA
    obtain⟨F1,hF1e⟩: ∃ F1,keysOf (dskL X β γ D)=F1:=⟨_,rfl⟩
    rw[hF1e] at hM2 hF1 HA1
    have HF1:=qh hF1
    have F01:0∉F1:=fun h0=>by have:=hF1 0 h0;have:=HX.out.pos;omega
    clear hM hF1 hF1e
    have hM:=hM2
    clear hM2
    by_cases hlt:j<xs.length
    ·obtain⟨x,hxj⟩:=get_at hlt
     obtain⟨hf,bb,off,rfl,hc0,-,-⟩:=HAC.out.get hxj
     have hsx:=(HSM.out rfl).2 j x hxj
     have hop:=small_okP hf.f hsx
     have hsm:=small_sm hsx
     have how:=hf.f.owner
     have hbb:bb∉F1:=fun h1=>by
      have h2:=HF1.out bb h1
      have h3:=World.block_lt_of_cell? w0 ⟨bb,off+j*13,none⟩ (hc0 0 _ rfl)
      simp only at h3
      omega
     have hcw:=only_row HO.out hc0 (List.not_mem_nil)
     have j1:(j:Int)<(xs.length:Int):=by omega
     have CP:=qh (fun (W:World) (hA:DskAt (1+3*j) X β γ D W)=>sdo_any hA (by omega) x how hop)
     have HN:=qh (Ol.all_act HAL.out (by omega) x how hop)
     have HI:=qh HAL.out.inv
     obtain⟨⟨o,xe,⟨pk,pp,pd,ph,pa,pn,px,py,pb⟩⟩,xc,xk⟩:=x
     simp only[ActO.cells,ActF.cells,OpD.cells,List.cons_append,List.nil_append] at hcw CP
     simp only at hop hsm how
     unfold Ol.act at CP HN
     simp only at CP HN
     clear hc0 hxj hf hsx hlt
     cases xc
     case' true=>
      rw[if_pos rfl] at CP HN
      have CD:=qh (fun (W:World) (hR:RDs (1+3*j) Y D V W)=>rCut10_any hR (by omega) xk)
      rw[hyd] at CD
      clear hop hsm how
      generalize Ol.cut D xk=D2 at*
     case' false=>
      rw[if_neg (by simp)] at CP HN
      cases xe
      case false=>
       rw[if_neg (by simp)] at CP HN
       have CD:=qh (fun (W:World) (hR:RDs (1+3*j) Y D V W)=>rDo10_any hR (by omega) how ⟨pk,pp,pd,ph,pa,pn,px,py,pb⟩ hsm hop)
       rw[hyd] at CD
       clear hop hsm how
       have HNM:=qh (Ol.names_few (o:=o) (p:=⟨pk,pp,pd,ph,pa,pn,px,py,pb⟩) HI.out)
       generalize Ol.do_ D o ⟨pk,pp,pd,ph,pa,pn,px,py,pb⟩=G at*
       obtain⟨⟨er,nn,da,ns⟩,D2⟩:=G
       (refine qw ?_;intros;rename_i hM)
       (refine qK3 (fun R hR=> ?_))
       have C:=CP.out _ (hM.dsk (.skip .all) HK.out HI.out HXr.out F01)
       rw[hbx] at C
       refine C.mono ?_
       rintro e w' ⟨s1,X2,β2,γ2,rfl,hok1,hbx2,hkx2,hN⟩
       replace hM:=hM.backM (.skip .all) (dskL_flag _ _ _ _) hN (flag_app (txL_flag _ _) (dskL_flag _ _ _ _))
       refine qho ?_;clear hR R hN C CP
       obtain⟨sa,sc,hsv,-⟩:=slV_open hok1
       have HOK1:=qh hok1
       have HK2:=qh hkx2
       rw[hbx] at hbx2
       have hsv':slV s1 ns.length=_:=hsv
       have HSV:=qh hsv'
       rw[hsv]
       clear hok1 hkx2 hsv hsv'
       (refine qq ?_)
       (repeat(first|(refine qWo ?_;clear hM;intros;rename_i hM)|((refine qMk ?_);clear hM;intro w bk hM)))
       (refine qM ?_)
       (repeat(refine qWc ?_;clear hM;intros;rename_i hM))
       (repeat(first|(refine qWo ?_;clear hM;intros;rename_i hM)|((refine qMk ?_);clear hM;intro w bk hM)))
       (refine qM ?_)
       obtain⟨hM2,hR2,hO2,hAP⟩:=reb1 hM (flag_cons (flag_cons (flag_cons (flag_app (txL_flag _ _) (dskL_flag _ _ _ _))))) HO.out HR.out HA1.out HF1.out
       have HR1:=qh hR2
       have HO1:=qh hO2
       have HAP:=qh hAP
       clear hM hR2 hO2 hAP
       have hM:=hM2
       clear hM2
       (refine qw ?_;intros;rename_i hM)
       (refine qK3 (fun R hR=> ?_))
       refine(CD.out _ HR1.out).mono ?_
       rintro e w' ⟨s2,Y2,V2,rfl,hok2,hA2,hf2,hto⟩
       replace hto:RDTo (1+3*j+3) Y D V Y2 D2 V2 _ _:=hto
       replace hM:=hM.beside hto.only (fun k hk=>⟨.inl (List.mem_append_right _ hk),fun hm=>(HAP.out k hm).2.2 (rdG_rdK k hk)⟩)
       replace hM:=(hM.beTx hA2 (fun k hk=>⟨(hf2 k hk).1,fun hm=>by have:=(HAP.out k hm).2.1;have:=(hf2 k hk).1;omega⟩)).perm (tx_mid _ _ _ _ _)
       obtain⟨sb,sd,hsv2,-⟩:=slV_open hok2
       have HOK2:=qh hok2
       have HSV2:=qh hsv2
       rw[hsv2]
       have HF2':=qh hf2
       have HTO:=qh hto
       refine hR.out _ _ ?_;clear hR R hok2 hsv2 hA2 hf2 hto
       (refine qq ?_)
       (repeat(first|(refine qWn ?_;clear hM;intros;rename_i hM)|((refine qMk ?_);clear hM;intro w bk hM)))
       (refine St.storeRowX rfl hM rfl rfl rfl rfl rfl qm (Nat.le_of_ble_eq_true rfl) (Nat.le_of_ble_eq_true rfl) (by kernel_rfl) rfl ?_ ?_;(focus(first|(intro h;cases h;done)|(intro _;repeat(first|exact Rest.here (Sub.all _)|exact Rest.here Sub.nil|apply Rest.take|apply Rest.skip))));clear hM;intro w hox hM;(try simp only[Res.put,Res.known,Act.eval,Value.cells,getD_lit,qGz,qGs,List.toList_toArray,qSz,qSs,over,Nat.reduceAdd] at hM);(refine qq ?_))
       (repeat(first|(refine qWo ?_;clear hM;intros;rename_i hM)|((refine qMk ?_);clear hM;intro w bk hM)))
       (refine qM ?_)
       have hto:=HTO.out
       have hwant:=HAP.out _ (List.Mem.head _)
       have hR2:=hto.is.only hox (fun k hk hm=>by
        rcases hto.grow k hk with h1|h1
        ·exact hwant.2.2 (by rw[←List.mem_singleton.1 hm];exact h1)
        ·exact absurd h1 (Nat.not_le.2 (by rw[List.mem_singleton.1 hm];exact hwant.2.1)))
       have hKK: ∀ k∈rdK Y2 D2 V2,w0.heap.size≤k∧k∉keysOf _:=fun k hk=>by
        have hs:=HO1.out.size
        have h3:k∉keysOf (txL s2 ns):=fun hm=>(HF2'.out k hm).2 hk
        rcases hto.grow k hk with h1|h1
        ·exact⟨(HA1.out k h1).1,fun h2=>(tx_keys h2).elim h3 (fun h2=>(HAP.out k h2).2.2 h1)⟩
        ·exact⟨by omega,fun h2=>(tx_keys h2).elim h3 (fun h2=>by have:=(HAP.out k h2).2.1;omega)⟩
       have HR2:=qh hR2
       have hyd2:=hto.d.trans hyd
       obtain⟨hM2,hO2,hF2,hA2⟩:=reb2K hM HO1.out (fun k hk=>(List.mem_append.1 hk).elim (fun h=>(HAP.out k h).1) (fun h=>(HA1.out k (rdG_rdK k h)).1)) (flag_cons (flag_cons (flag_cons (flag_app (txL_flag _ _) (flag_app (txL_flag _ _) (dskL_flag _ _ _ _)))))) hKK
       have HA2:=qh hA2
       have HO2:=qh hO2
       have HF2:=qh hF2
       clear hM hto hO2 hF2 hA2 CD HAP HR1 HO1 HR hox hwant hR2 HTO HF2'
       have hM:=hM2
       clear hM2
       have hnl:ns.length≤_:=HNM.out
       have HTX1:=qh (fun (U:World) (hA:At (txL s1 ns) U) (hB:At (txL s2 ns) U)=>sameRes_any (w0:=U) er nn da (xs:=ns) (s1:=s1) (s2:=s2) HOK1.out HOK2.out (by omega) hA hB)
       rw[HSV.out,HSV2.out] at HTX1
       have HA3:=qh (show ∀ k∈rdK Y2 D2 V2,w0.heap.size≤k∧k∉keysOf (dskL X2 β2 γ2 D2) from fun k hk=>⟨(hKK k hk).1,fun h=>(hKK k hk).2 ((List.Sublist.map _ (((((List.sublist_append_right (txL s1 ns) _).trans (List.sublist_append_right (txL s2 ns) _)).cons _).cons _).cons _)).subset h)⟩)
       clear hKK
       generalize keysOf _=F2 at hM HA2 HF2
       have cY0:w.cell? ⟨Y2.d,0,none⟩=some (.pointer (some ⟨Y2.now.f,0,none⟩)):=HR2.out.rowD 0 _ rfl
       have cY2:w.cell? ⟨Y2.d,2,none⟩=some (slV Y2.s D2.log.length):=HR2.out.rowD 2 _ rfl
       have cF0:w.cell? ⟨Y2.now.f,0,none⟩=some (.pointer (some ⟨Y2.now.x.g,0,none⟩)):=HR2.out.now.is.row 0 _ rfl
       have hnd2:Y2.d∉F2:=(HA2.out _ RDs.dK).2
       have hnf2:Y2.now.f∉F2:=(HA2.out _ RDs.fK).2
       obtain⟨ya,yc,hyv,-⟩:=slV_open HR2.out.lok
       rw[hyv] at cY2
       rw[hyd2] at cY0 cY2 hnd2
       have HMX:=qh (show Mx w by obtain⟨m,hm⟩:=HX.out;exact⟨m,only_cell HO2.out hm nofun⟩)
       have F02:0∉F2:=fun h0=>by have:=HF2.out 0 h0;have:=HX.out.pos;omega
       have HI2:=qh HN.out.inv
       have HRW:=qh (fun (W:World) (ho:Only F2 w W)=>HR2.out.only ho (fun k hk=>(HA2.out k hk).2))
       have HUS:=qh (fun (W:World) (hR:RDs (1+3*j+3) Y2 D2 V2 W)=>(show An 40 #[.pointer (some ⟨Y2.now.x.g,0,none⟩)] W (.int .i64 D2.now.t.used) by
        have h1:=rUsed_any hR.now.is.tbl.raw (hR.now.is.tbl.dl hR.now.inv.inv.tbl)
        rwa [hR.now.is.tbl.sum hR.now.inv.inv.tbl] at h1))
       have HOW:=qh (fun (W:World) (hR:RDs (1+3*j+3) Y2 D2 V2 W)=>(show Calls Tryz.prog 42 #[.pointer (some ⟨Y2.now.f,0,none⟩)] W (SomeInts (Fs.owners D2.now) W) by
        have h1:=rOwners_any hR.now.is
        rw[Hs.owners_eq hR.now.inv.inv hR.now.like] at h1
        exact h1))
       have hol:(Fs.owners D2.now).length≤1000000:=by
        have:=HR2.out.now.inv.inv.len
        unfold Fs.owners
        rw[List.length_map]
        omega
       have HYV:=qh hyv
       clear hyv
       (refine qw ?_;intros;rename_i hM)
       (refine qCB (HTX1.out _ (hM.part (.skip (.skip (.skip (.past .here))))) (hM.part (.skip (.skip (.skip .here))))) hM ?_;clear hM;intro w' hM)
       (refine qw ?_;intros;rename_i hM)
       (refine qKx ?_;intro R hR)
       have C:=dLogged_any (hM.dsk (.skip (.skip (.skip (.past (.past .all))))) HK2.out HI2.out HMX.out F02).row HK2.out.sl
       rw[hbx2,zs_lenP HK2.out] at C
       refine C.mono ?_
       clear C
       (refine qj ?_;clear hR R hM;intro w' hM)
       (refine qw ?_;intros;rename_i hM)
       (refine qKx ?_;intro R hR)
       have C:=dUsed_any (hM.dsk (.skip (.skip (.skip (.past (.past .all))))) HK2.out HI2.out HMX.out F02).row (hM.dsk (.skip (.skip (.skip (.past (.past .all))))) HK2.out HI2.out HMX.out F02).now
       rw[hbx2] at C
       refine C.mono ?_
       clear C
       (refine qj ?_;clear hR R hM;intro w' hM)
       (refine qw ?_;intros;rename_i hM)
       (refine qCB (HUS.out _ (HRW.out _ hM.only)) hM ?_;clear hM;intro w' hM)
       (refine qw ?_;intros;rename_i hM)
       (refine qKx ?_;intro R hR)
       have C:=dOwners_any (hM.dsk (.skip (.skip (.skip (.past (.past .all))))) HK2.out HI2.out HMX.out F02).row (hM.dsk (.skip (.skip (.skip (.past (.past .all))))) HK2.out HI2.out HMX.out F02).now (by omega)
       rw[hbx2] at C
       refine C.mono ?_
       clear C
       rintro e w' ⟨s3,rfl,hok3,hst3⟩
       replace hM:=hM.madeM hst3 (slL_flag _ _ _ _)
       (first|refine hR.out _ _ ?_|refine hR.out _ _ (fun h=>h.below hst3.to_below) ?_);clear hR R hst3
       have HOK3:=qh hok3
       clear hok3
       (refine qq ?_)
       (refine qw ?_;intros;rename_i hM)
       (refine qKx ?_;intro R hR)
       refine(HOW.out _ (HRW.out _ hM.only)).mono ?_
       rintro e w' ⟨s4,rfl,hok4,hst4⟩
       replace hM:=hM.madeM hst4 (slL_flag _ _ _ _)
       (first|refine hR.out _ _ ?_|refine hR.out _ _ (fun h=>h.below hst4.to_below) ?_);clear hR R hst4
       have HOK4:=qh hok4
       clear hok4
       (refine qq ?_)
       (refine qw ?_;intros;rename_i hM)
       (refine qCB (sameI_any HOK3.out HOK4.out hol (hM.part (.past .here)) (hM.part .here)) hM ?_;clear hM;intro w' hM)
       (refine qw ?_;intros;rename_i hM)
       (try simp only[Exit.then])
       (refine⟨?_,qio⟩;repeat(first|exact⟨⟨j+1,X2,β2,γ2,D2,Y2,V2,by omega,rfl,hbx2,hyd2,HK2,qh (HN.out.more (by omega)),qh ((HRW.out _ hM.only).more (by omega)),HA3,St.rebase HO2.out (hM.subM (((((((List.sublist_append_right (txL s1 ns) _).trans (List.sublist_append_right (txL s2 ns) _)).cons _).cons _).cons _).trans (List.sublist_append_right _ _)).trans (List.sublist_append_right _ _))) (fun k hk=> .inr (HF2.out k hk))⟩,rfl⟩|apply Exists.intro))
      rw[if_pos rfl] at CP HN
      have CD:=qh (fun (W:World) (hR:RDs (1+3*j) Y D V W)=>rExit10_any hR (by omega) how)
      rw[hyd] at CD
      clear hop hsm how
      generalize Ol.exit D o=D2 at*
     all_goals
      (refine qw ?_;intros;rename_i hM)
      (refine qK3 (fun R hR=> ?_))
      have C:=CP.out _ (hM.dsk (.skip .all) HK.out HI.out HXr.out F01)
      rw[hbx] at C
      refine C.mono ?_
      rintro e w' ⟨s1,X2,β2,γ2,rfl,hok1,hbx2,hkx2,hN⟩
      replace hM:=hM.backM (.skip .all) (dskL_flag _ _ _ _) hN (flag_app (txL_flag _ _) (dskL_flag _ _ _ _))
      refine qho ?_;clear hR R hN C CP
      obtain⟨sa,sc,hsv,-⟩:=slV_open hok1
      have HOK1:=qh hok1
      have HK2:=qh hkx2
      rw[hbx] at hbx2
      have hsv':slV s1 ([]:List ByteArray).length=_:=hsv
      have HSV:=qh hsv'
      rw[hsv]
      clear hok1 hkx2 hsv hsv'
      (refine qq ?_)
      (repeat(first|(refine qWo ?_;clear hM;intros;rename_i hM)|((refine qMk ?_);clear hM;intro w bk hM)))
      (refine qM ?_)
      (repeat(refine qWc ?_;clear hM;intros;rename_i hM))
      (repeat(first|(refine qWo ?_;clear hM;intros;rename_i hM)|((refine qMk ?_);clear hM;intro w bk hM)))
      (refine qM ?_)
      obtain⟨hM2,hR2,hO2,hAP⟩:=reb1 hM (flag_cons (flag_cons (flag_cons (flag_app (txL_flag _ _) (dskL_flag _ _ _ _))))) HO.out HR.out HA1.out HF1.out
      have HR1:=qh hR2
      have HO1:=qh hO2
      have HAP:=qh hAP
      clear hM hR2 hO2 hAP
      have hM:=hM2
      clear hM2
      (refine qw ?_;intros;rename_i hM)
      (refine qK3 (fun R hR=> ?_))
      refine(CD.out _ HR1.out).mono ?_
      rintro e w' ⟨rfl,Y2,V2,hto⟩
      replace hM:=hM.beside hto.only (fun k hk=>⟨.inl (List.mem_append_right _ hk),fun hm=>(HAP.out k hm).2.2 (rdG_rdK k hk)⟩)
      refine hR.out _ _ ?_;clear hR R
      (refine qq ?_)
      (repeat(first|(refine qWo ?_;clear hM;intros;rename_i hM)|((refine qMk ?_);clear hM;intro w bk hM)))
      (refine qM ?_)
      have hKK: ∀ k∈rdK Y2 D2 V2,w0.heap.size≤k∧k∉keysOf _:=fun k hk=>by
       have hs:=HO1.out.size
       rcases hto.grow k hk with h1|h1
       ·exact⟨(HA1.out k h1).1,fun h2=>(HAP.out k h2).2.2 h1⟩
       ·exact⟨by omega,fun h2=>by have:=(HAP.out k h2).2.1;omega⟩
      have HA2:=qh hKK
      have HR2:=qh (hto.is.more (M:=1+3*j+3) (by omega))
      have hyd2:=hto.d.trans hyd
      obtain⟨hM2,hO2,hF2⟩:=reb2 hM HO1.out (fun k hk=>(List.mem_append.1 hk).elim (fun h=>(HAP.out k h).1) (fun h=>(HA1.out k (rdG_rdK k h)).1)) (flag_cons (flag_cons (flag_cons (flag_app (txL_flag _ _) (dskL_flag _ _ _ _)))))
      have HO2:=qh hO2
      have HF2:=qh hF2
      clear hM hto hO2 hF2 CD HAP HR1 HO1 HR
      have hM:=hM2
      clear hM2
      have hs2v:slV (none:Option (Nat×Nat)) ([]:List ByteArray).length= .slice none 0 0:=rfl
      have HTX1:=qh (fun (W:World) (hA:At (txL s1 ([]:List ByteArray)) W)=>sameRes_any (w0:=W) 0 0 ⟨#[]⟩ (xs:=[]) (s1:=s1) (s2:=none) HOK1.out ⟨rfl,rfl⟩ (by decide) hA ⟨nofun,List.nodup_nil⟩)
      rw[HSV.out,hs2v] at HTX1
      have HA3:=qh (show ∀ k∈rdK Y2 D2 V2,w0.heap.size≤k∧k∉keysOf (dskL X2 β2 γ2 D2) from fun k hk=>⟨(hKK k hk).1,fun h=>(hKK k hk).2 ((List.Sublist.map _ ((((List.sublist_append_right (txL s1 ([]:List ByteArray)) _).cons _).cons _).cons _)).subset h)⟩)
      clear hKK
      generalize keysOf _=F2 at hM HA2 HF2
      have cY0:w'.cell? ⟨Y2.d,0,none⟩=some (.pointer (some ⟨Y2.now.f,0,none⟩)):=HR2.out.rowD 0 _ rfl
      have cY2:w'.cell? ⟨Y2.d,2,none⟩=some (slV Y2.s D2.log.length):=HR2.out.rowD 2 _ rfl
      have cF0:w'.cell? ⟨Y2.now.f,0,none⟩=some (.pointer (some ⟨Y2.now.x.g,0,none⟩)):=HR2.out.now.is.row 0 _ rfl
      have hnd2:Y2.d∉F2:=(HA2.out _ RDs.dK).2
      have hnf2:Y2.now.f∉F2:=(HA2.out _ RDs.fK).2
      obtain⟨ya,yc,hyv,-⟩:=slV_open HR2.out.lok
      rw[hyv] at cY2
      rw[hyd2] at cY0 cY2 hnd2
      have HMX:=qh (show Mx w' by obtain⟨m,hm⟩:=HX.out;exact⟨m,only_cell HO2.out hm nofun⟩)
      have F02:0∉F2:=fun h0=>by have:=HF2.out 0 h0;have:=HX.out.pos;omega
      have HI2:=qh HN.out.inv
      have HRW:=qh (fun (W:World) (ho:Only F2 w' W)=>HR2.out.only ho (fun k hk=>(HA2.out k hk).2))
      have HUS:=qh (fun (W:World) (hR:RDs (1+3*j+3) Y2 D2 V2 W)=>(show An 40 #[.pointer (some ⟨Y2.now.x.g,0,none⟩)] W (.int .i64 D2.now.t.used) by
       have h1:=rUsed_any hR.now.is.tbl.raw (hR.now.is.tbl.dl hR.now.inv.inv.tbl)
       rwa [hR.now.is.tbl.sum hR.now.inv.inv.tbl] at h1))
      have HOW:=qh (fun (W:World) (hR:RDs (1+3*j+3) Y2 D2 V2 W)=>(show Calls Tryz.prog 42 #[.pointer (some ⟨Y2.now.f,0,none⟩)] W (SomeInts (Fs.owners D2.now) W) by
       have h1:=rOwners_any hR.now.is
       rw[Hs.owners_eq hR.now.inv.inv hR.now.like] at h1
       exact h1))
      have hol:(Fs.owners D2.now).length≤1000000:=by
       have:=HR2.out.now.inv.inv.len
       unfold Fs.owners
       rw[List.length_map]
       omega
      have HYV:=qh hyv
      clear hyv
      (refine qw ?_;intros;rename_i hM)
      (refine qCB (HTX1.out _ (hM.part (.skip (.skip (.skip .here))))) hM ?_;clear hM;intro w' hM)
      (refine qw ?_;intros;rename_i hM)
      (refine qKx ?_;intro R hR)
      have C:=dLogged_any (hM.dsk (.skip (.skip (.skip (.past .all)))) HK2.out HI2.out HMX.out F02).row HK2.out.sl
      rw[hbx2,zs_lenP HK2.out] at C
      refine C.mono ?_
      clear C
      (refine qj ?_;clear hR R hM;intro w' hM)
      (refine qw ?_;intros;rename_i hM)
      (refine qKx ?_;intro R hR)
      have C:=dUsed_any (hM.dsk (.skip (.skip (.skip (.past .all)))) HK2.out HI2.out HMX.out F02).row (hM.dsk (.skip (.skip (.skip (.past .all)))) HK2.out HI2.out HMX.out F02).now
      rw[hbx2] at C
      refine C.mono ?_
      clear C
      (refine qj ?_;clear hR R hM;intro w' hM)
      (refine qw ?_;intros;rename_i hM)
      (refine qCB (HUS.out _ (HRW.out _ hM.only)) hM ?_;clear hM;intro w' hM)
      (refine qw ?_;intros;rename_i hM)
      (refine qKx ?_;intro R hR)
      have C:=dOwners_any (hM.dsk (.skip (.skip (.skip (.past .all)))) HK2.out HI2.out HMX.out F02).row (hM.dsk (.skip (.skip (.skip (.past .all)))) HK2.out HI2.out HMX.out F02).now (by omega)
      rw[hbx2] at C
      refine C.mono ?_
      clear C
      rintro e w' ⟨s3,rfl,hok3,hst3⟩
      replace hM:=hM.madeM hst3 (slL_flag _ _ _ _)
      (first|refine hR.out _ _ ?_|refine hR.out _ _ (fun h=>h.below hst3.to_below) ?_);clear hR R hst3
      have HOK3:=qh hok3
      clear hok3
      (refine qq ?_)
      (refine qw ?_;intros;rename_i hM)
      (refine qKx ?_;intro R hR)
      refine(HOW.out _ (HRW.out _ hM.only)).mono ?_
      rintro e w' ⟨s4,rfl,hok4,hst4⟩
      replace hM:=hM.madeM hst4 (slL_flag _ _ _ _)
      (first|refine hR.out _ _ ?_|refine hR.out _ _ (fun h=>h.below hst4.to_below) ?_);clear hR R hst4
      have HOK4:=qh hok4
      clear hok4
      (refine qq ?_)
      (refine qw ?_;intros;rename_i hM)
      (refine qCB (sameI_any HOK3.out HOK4.out hol (hM.part (.past .here)) (hM.part .here)) hM ?_;clear hM;intro w' hM)
      (refine qw ?_;intros;rename_i hM)
      (try simp only[Exit.then])
      (refine⟨?_,qio⟩;repeat(first|exact⟨⟨j+1,X2,β2,γ2,D2,Y2,V2,by omega,rfl,hbx2,hyd2,HK2,qh (HN.out.more (by omega)),qh ((HRW.out _ hM.only).more (by omega)),HA3,St.rebase HO2.out (hM.subM ((((((List.sublist_append_right (txL s1 ([]:List ByteArray)) _).cons _).cons _).cons _).trans (List.sublist_append_right _ _)).trans (List.sublist_append_right _ _))) (fun k hk=> .inr (HF2.out k hk))⟩,rfl⟩|apply Exists.intro))
    ·have k0:¬((j:Int)<(xs.length:Int)):=by omega
     obtain rfl:j=xs.length:=by omega
     clear hlt hj
     have cY0:wr.cell? ⟨Y.d,0,none⟩=some (.pointer (some ⟨Y.now.f,0,none⟩)):=HR.out.rowD 0 _ rfl
     have hnd2:Y.d∉F1:=(HA1.out _ RDs.dK).2
     rw[hyd] at cY0 hnd2
     have HRW:=qh (fun (W:World) (ho:Only F1 wr W)=>HR.out.only ho (fun k hk=>(HA1.out k hk).2))
     have HI:=qh HAL.out.inv
     have hup:=HI.out.now.up
     have HUP:=qh hup
     have HFL:=qh (Fs.files_len HI.out.now.inv hup)
     have HFI:=qh (fun (W:World) (hR:RDs (1+3*xs.length) Y D V W)=>rFiles_any hR.now.is hR.inv.now.inv (by omega) hR.inv.now.up hR.law.now)
     clear hup
     (refine qw ?_;intros;rename_i hM)
     (refine qKx ?_;intro R hR)
     have C:=dFiles_any (hM.dsk .all HK.out HI.out HXr.out F01).row (hM.dsk .all HK.out HI.out HXr.out F01).now HUP.out (by omega)
     rw[hbx] at C
     refine C.mono ?_
     clear C
     rintro e w' ⟨s3,rfl,hok3,hst3⟩
     replace hM:=hM.madeM hst3 (slL_flag _ _ _ _)
     (first|refine hR.out _ _ ?_|refine hR.out _ _ (fun h=>h.below hst3.to_below) ?_);clear hR R hst3
     have HOK3:=qh hok3
     clear hok3
     (refine qq ?_)
     (refine qw ?_;intros;rename_i hM)
     (refine qKx ?_;intro R hR)
     refine(HFI.out _ (HRW.out _ hM.only)).mono ?_
     rintro e w' ⟨s4,rfl,hok4,hst4⟩
     replace hM:=hM.madeM hst4 (slL_flag _ _ _ _)
     (first|refine hR.out _ _ ?_|refine hR.out _ _ (fun h=>h.below hst4.to_below) ?_);clear hR R hst4
     have HOK4:=qh hok4
     clear hok4
     (refine qq ?_)
     (refine qw ?_;intros;rename_i hM)
     (refine qCB (sameF_any HOK3.out HOK4.out (by have:=HFL.out;omega) (hM.part (.past .here)) (hM.part .here)) hM ?_;clear hM;intro w' hM)
     (refine qw ?_;intros;rename_i hM)
     (refine qCB (awake10_any _ (hM.mx HXr.out F01)) hM ?_;clear hM;intro w' hM)
     (refine qw ?_;intros;rename_i hM)
     (refine qf ?_)
     exact⟨rfl,(HO.out.then hM.only (fun k hk=> .inr (HF1.out k hk))).to_below (Nat.le_refl _) nofun⟩
  ·have hq1:In.newE q=1:=by
    unfold In.newE at hq ⊢
    split
    ·rfl
    ·rename_i h;rw[if_neg h] at hq;exact absurd rfl hq
   have hqr:q<64∨1099511627776<q:=by
    unfold In.newE at hq1
    by_cases c:(decide (q<64)||decide (1099511627776<q))=true
    ·simp only[Bool.or_eq_true,decide_eq_true_eq] at c
     omega
    ·rw[if_neg c] at hq1;cases hq1
   have HN1:=qh (fun (W:World)=>dNew_no q W hq1)
   have HN2:=qh (fun (W:World)=>rNew10_no q hqr W)
   clear hq hq1 hqr
   (refine qw ?_;intros;rename_i hM)
   (refine qCB (HN1.out _) hM ?_;clear hM;intro w' hM)
   (refine qw ?_;intros;rename_i hM)
   (refine qCB (HN2.out _) hM ?_;clear hM;intro w' hM)
   (refine qw ?_;intros;rename_i hM)
   (refine qCB (awake10_any _ (hM.mx HX.out F0)) hM ?_;clear hM;intro w' hM)
   exact qwf
end
end Go.Proofs.YtcicjklhbnipcaaGreatDoor
