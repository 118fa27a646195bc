/-
  Laid texts.
-/
import Derived.Test.YtcicjklhbnipcaaGreatDoorPkWpE
import Derived.ChangeKeysEq
import Derived.ChangeOld
import Derived.Deep.DeepHandedRow
import Derived.Deep.DeepWitnessRowRef
import Derived.LaidSub
import Derived.Lib.LaidIn
import Derived.Lib.LaidU8T
import Derived.OpenShut
import Derived.ProofKit
import Derived.SevenTiedAt
import Derived.SizedLaws
import Derived.Test.YtcicjklhbnipcaaGreatDoorCards
import Derived.Test.YtcicjklhbnipcaaGreatDoorRows
import Derived.Test.YtcicjklhbnipcaaGreatDoorTie
set_option maxHeartbeats 16000000
set_option maxRecDepth 1000000
set_option linter.unusedVariables false
set_option linter.unusedSimpArgs false
namespace Go.Proofs.YtcicjklhbnipcaaGreatDoor
section
open Go.RowKit Go.Maps
namespace Fs
theorem Inv.more{N M:Nat}{d:FsD}(h:Inv N d)(hM:N≤M):Inv M d:=⟨h.tbl.more hM,h.rows,Nat.le_trans h.len hM⟩
theorem yW{l:List Int}(hl:l.length=9∧ ∀ i∈l,0≤i∧i≤4611686018427387904)(n:Nat){v:Int}(hv:0≤v∧v≤4611686018427387904):(l.set n v).length=9∧ ∀ i∈l.set n v,0≤i∧i≤4611686018427387904:=by
 refine⟨by rw[List.length_set];exact hl.1,fun i hi=> ?_⟩
 rcases List.mem_or_eq_of_mem_set hi with h|rfl
 ·exact hl.2 i h
 ·exact hv
theorem inv_closes{N:Nat}{d:FsD}(h:Inv N d)(o:Int)(n:Nat):Inv (N+1) (closes d o n):=by
 have hr:=zdi h.rows (o:=o) (yW (hOf_row h o) n (v:=0) (by omega))
 have hl:=xD d.h o ((hOf d.h o).set n 0)
 have hN:=h.len
 refine⟨(In.inv_drop h.tbl _).more (by omega), ?_, ?_⟩
 ·unfold closes shut
  simp only
  split
  ·exact zhj hr o
  ·exact hr
 ·unfold closes shut
  simp only
  split
  ·have:(del (put d.h o ((hOf d.h o).set n 0)) o).length≤(put d.h o ((hOf d.h o).set n 0)).length:=lbYz _ _
   omega
  ·omega
theorem zdI{N:Nat}{d:FsD}(h:Inv N d)(o:Int){id:Int}(hid:0≤id∧id≤4611686018427387904):Inv (N+1) (gives d o id).2:=by
 have hN:=h.len
 unfold gives
 split
 ·refine⟨(In.inv_hold h.tbl id).more (by omega),zdi h.rows (yW (hOf_row h o) _ hid), ?_⟩
  have:=xD d.h o ((hOf d.h o).set (free d o) id)
  show(put d.h o ((hOf d.h o).set (free d o) id)).length≤N+1
  omega
 ·exact⟨(In.inv_hold h.tbl id).more (by omega),h.rows,by show d.h.length≤N+1;omega⟩
theorem inv_new{q:Int}(h0:64≤q)(h1:q≤1099511627776):Inv 1 (new q):=⟨In.inv_new h0 h1,nofun,by simp[new]⟩
theorem zjT{N:Nat}{d:FsD}(h:Inv N d)(hN:N≤999999990)(o:Int)(p:OpD):Inv (N+3) (opens d o p).2:=by
 unfold opens
 have hN':=h.len
 split
 ·exact h.more (by omega)
 split
 ·exact h.more (by omega)
 split
 ·have hm:=zkU h.tbl (at_ d p.path).1.1 (at_ d p.path).1.2 false
  have I2:Inv (N+2) ⟨(In.make d.t (at_ d p.path).1.1 (at_ d p.path).1.2 false).2.2,d.h⟩:=⟨In.inv_make h.tbl _ _ false,h.rows,by show d.h.length≤N+2;omega⟩
  split
  ·exact I2.more (by omega)
  ·exact zdI I2 o (by omega)
 split
 ·exact h.more (by omega)
 ·rename_i hE
  have hm:=xO h.tbl (Decidable.not_not.1 hE)
  exact(zdI h o (by omega)).more (by omega)
theorem inv_tbl{N M:Nat}{d:FsD}{t:TabD}(h:Inv N d)(ht:In.Inv M t)(hM:N≤M):Inv M ⟨t,d.h⟩:=⟨ht,h.rows,Nat.le_trans h.len hM⟩
theorem zeO{N:Nat}{d:FsD}(h:Inv N d)(o:Int)(p:OpD):Inv (N+3) (handled d o p).2:=by
 unfold handled
 split
 ·exact h.more (by omega)
 split
 ·exact(inv_closes h o _).more (by omega)
 split
 ·exact h.more (by omega)
 split
 ·exact(inv_tbl h (In.inv_write h.tbl _ _ _) (Nat.le_refl _)).more (by omega)
 split
 ·exact(inv_tbl h (In.inv_trunc h.tbl _ _) (Nat.le_refl _)).more (by omega)
 ·exact h.more (by omega)
theorem zjA{N:Nat}{d:FsD}(h:Inv N d)(p:OpD):Inv (N+3) ⟨(named d p).2,d.h⟩:=by
 unfold named namedAt
 split
 ·exact(inv_tbl h h.tbl (Nat.le_refl _)).more (by omega)
 split
 ·exact(inv_tbl h (In.inv_make h.tbl _ _ true) (by omega)).more (by omega)
 split
 ·exact(inv_tbl h (In.inv_remove h.tbl _ _) (Nat.le_refl _)).more (by omega)
 split
 ·exact(inv_tbl h (In.inv_unlink h.tbl _ _) (Nat.le_refl _)).more (by omega)
 split
 ·split
  ·exact(inv_tbl h h.tbl (Nat.le_refl _)).more (by omega)
  split
  ·exact(inv_tbl h h.tbl (Nat.le_refl _)).more (by omega)
  ·exact(inv_tbl h (In.inv_link h.tbl _ _ _) (by omega)).more (by omega)
 split
 ·exact(inv_tbl h h.tbl (Nat.le_refl _)).more (by omega)
 ·exact(inv_tbl h (In.inv_rename h.tbl _ _ _ _) (by omega)).more (by omega)
theorem inv_do{N:Nat}{d:FsD}(h:Inv N d)(hN:N≤999999990)(o:Int)(p:OpD):Inv (N+3) (do_ d o p).2:=by
 unfold do_
 split
 ·exact h.more (by omega)
 split
 ·exact zjT h hN o p
 split
 ·exact zeO h o p
 split
 ·exact h.more (by omega)
 ·exact zjA h p
end Fs
section
variable {N:Nat}{x:FsX}{β:Int→Nat×Nat}{d:FsD}{w w' w0:World}{F:List Nat}{L L' M M':List Ent}
theorem zjI(h:FsAt N x β d w):An 18 #[.pointer (some ⟨x.f,0,none⟩)] w (.int .i64 d.t.used):=by
 have hM:=h.at_.ro
 unfold fsL at hM
 simp only[laDz,zx] at hM
 have HF:=qh h
 have hq:0<d.t.quota:=by have:=h.inv.tbl.q0;omega
 clear h
 go_enter Tryz.func18,Tryz.ntmps18
 (refine qw ?_;intros;rename_i hM)
 (refine qK3 (fun R hR=> ?_))
 refine(yy (HF.out.below hM.to_below)).mono ?_
 (refine qgs ?_;clear hR R)
 (refine qw ?_;intros;rename_i hM)
 (refine qK3 (fun R hR=> ?_))
 refine(zlV (HF.out.below hM.to_below).tbl hq).mono ?_
 (refine qgs ?_;clear hR R)
 exact qwf
theorem zie{o:Int}{l:List Int}{k:Nat}{c:Int}{d:FsD}(h:l[k]? =some c):Fs.exitL o (l.drop k) k d=Fs.exitL o (l.drop (k+1)) (k+1) (if c≠0 then Fs.closes d o k else d):=by
 obtain⟨hk,rfl⟩:=laHz.1 h
 rw[lbIz hk]
 rfl
theorem zaW(h:FsAt N x β d w)(hN:N≤999999980){o:Int}(ho:Fits o):
  Calls Tryz.prog 17 #[.pointer (some ⟨x.f,0,none⟩),.int .i64 o] w fun e w'=>e= .returned (.tuple #[])∧YE w x β d w' (Fs.exit d o)∧Fs.Inv (N+9) (Fs.exit d o):=by
 have hM:=h.at_.st
 unfold YE
 obtain⟨F,hF⟩: ∃ F,ze (fsL x β d)=F:=⟨_,rfl⟩
 rw[hF] at hM ⊢
 have F0:0∉F:=hF▸h.zero
 clear hF
 have HI:=qh h.inv
 have HX:=qh h.mx
 have CG:=qh (fun (W:World) (β':Int→Nat×Nat) (hA:FsAt N x β' d W)=>yy hA)
 obtain⟨R0,hR0⟩: ∃ R0,Fs.exit d o=R0:=⟨_,rfl⟩
 rw[hR0]
 unfold Fs.exit at hR0
 have hrw:=Fs.hOf_row h.inv o
 obtain⟨a0,a1,a2,a3,a4,a5,a6,a7,a8,hl⟩:=row9 hrw.1
 have hrow:rowV (Fs.hOf d.h o)= .agg #[.int .i64 a0,.int .i64 a1,.int .i64 a2,.int .i64 a3,.int .i64 a4,.int .i64 a5,.int .i64 a6,.int .i64 a7,.int .i64 a8]:=by rw[hl];rfl
 rw[hl] at hR0
 have HR:=qh hR0
 clear h hl hR0 hrw
 unfold fsL at hM
 go_enter Tryz.func17,Tryz.ntmps17
 (refine qw ?_;intros;rename_i hM)
 (refine qK3 (fun R hR=> ?_))
 refine(CG.out _ β (hM.fs qpt HI.out HX.out F0)).mono ?_
 (refine qgs ?_;clear hR R)
 (refine qw ?_;intros;rename_i hM)
 ((first|refine St.lookup rfl hM rfl rfl rfl rfl qm zq Tryz.underlying42 zJ (keyOf_int_mk Tryz.underlying3 (by assumption)) ((zI _ _).trans (by assumption)) ?_|refine St.lookup1 rfl rfl rfl rfl qm zq Tryz.underlying42 zJ (keyOf_int_mk Tryz.underlying3 (by assumption)) ((zI _ _).trans (by assumption)) ?_);(refine qq ?_))
 (refine qw ?_;intros;rename_i hM)
 go_loopw [15] (fun i wr=> ∃ (k:Nat) (β':Int→Nat×Nat) (dk:FsD),k≤9∧i= .int .i64 k∧Fs.exitL o ([a0,a1,a2,a3,a4,a5,a6,a7,a8].drop k) k dk=R0∧Fs.Inv (N+k) dk∧St w F wr (fsL x β' dk)) (fun i _=>9 - (intOf i).toNat)
 case atStart=>exact⟨0,β,d,by omega,rfl,HR.out,HI.out,hM⟩
 case round=>
  clear hM
  obtain⟨k,β,dk,hk,rfl,hex,hin,hM⟩:=hrel
  have HEX:=qh hex
  have HIN:=qh hin
  clear hex hin
  by_cases hlt:k<9
  ·obtain⟨c,hc⟩:=zK (xs:=[a0,a1,a2,a3,a4,a5,a6,a7,a8]) (k:=k) hlt
   have hix:(#[.int .i64 a0,.int .i64 a1,.int .i64 a2,.int .i64 a3,.int .i64 a4,.int .i64 a5,.int .i64 a6,.int .i64 a7,.int .i64 a8]:Array Value)[k]? =some (.int .i64 c):=zjM (l:=[a0,a1,a2,a3,a4,a5,a6,a7,a8]) hlt (by rw[lbDz,hc];rfl)
   have e:=HEX.out
   rw[zie hc] at e
   have k1:(k:Int)<9:=by omega
   have d1:decide ((k:Int)<9)=true:=decide_eq_true k1
   clear hc hlt
   by_cases h0:c=0
   ·subst h0
    rw[if_neg (by simp)] at e
    have HE:=qh e
    clear e
    unfold fsL at hM
    (refine qw ?_;intros;rename_i hM)
    (refine⟨?_,qio⟩;repeat(first|exact⟨⟨k+1,β,dk,by omega,rfl,HE.out,HIN.out.more (by omega),hM⟩,rfl⟩|apply Exists.intro))
   ·rw[if_pos h0] at e
    have HE:=qh e
    have q1:=zG h0
    have CC:=qh (fun (W:World) (β':Int→Nat×Nat) (hA:FsAt (N+k) x β' dk W)=>zcw hA (by omega) ho (n:=k) (by omega))
    have HIC:=qh (Fs.inv_closes HIN.out o k)
    clear e h0
    generalize Fs.closes dk o k=dn at*
    unfold fsL at hM
    (refine qw ?_;intros;rename_i hM)
    (refine qK3 (fun R hR=> ?_))
    refine(CC.out _ β (hM.fs qpt HIN.out HX.out F0)).mono ?_
    (rintro e w' ⟨rfl,β,hN⟩;replace hM:=hM.backM qsw (zr _ _ _) hN (zr _ _ _);clear hN;refine hR.out _ _ ?_;clear hR R;unfold fsL at hM;(refine qq ?_))
    (refine qw ?_;intros;rename_i hM)
    (refine⟨?_,qio⟩;repeat(first|exact⟨⟨k+1,β,dn,by omega,rfl,HE.out,HIC.out.more (by omega),hM⟩,rfl⟩|apply Exists.intro))
  ·have k0:¬((k:Int)<9):=by omega
   obtain rfl:k=9:=by omega
   have e:=HEX.out
   rw[show([a0,a1,a2,a3,a4,a5,a6,a7,a8]:List Int).drop 9=[] from rfl] at e
   have e':dk=R0:=e
   subst e'
   clear hlt hk HEX HR e
   (refine qw ?_;intros;rename_i hM)
   (refine qf ?_)
   exact⟨rfl,⟨β,hM⟩,HIN.out⟩
end
end
section
open Go.RowKit Go.Maps
section
variable {N:Nat}{x:FsX}{β:Int→Nat×Nat}{d:FsD}{w w' w0:World}{F:List Nat}{L L' M M':List Ent}
theorem zmC(h:At M w')(hb:Below w.heap.size w w')(hk: ∀ k∈ze M,w.heap.size≤k):St w [] w' M:=
 ⟨Only.of_below hb,h.has,h.nd,fun y hy _=> .inr (hk _ (laLz hy))⟩
theorem zmA(q:Int)(w:World)(hq:In.newE q=0):Calls Tryz.prog 13 #[.int .i64 q] w fun e w'=> ∃ x β,e= .returned (.tuple #[.pointer (some ⟨FsX.f x,0,none⟩),.int .i64 0])∧St w [] w' (fsL x β (Fs.new q)):=by
 have hM:=St.start w []
 have CN:=qh (fun W:World=>zod q W hq)
 clear hq
 go_enter Tryz.func13,Tryz.ntmps13
 (repeat(first|(refine qW ?_;intros;rename_i hM)|(refine qMk ?_;clear hM;intro w bk hM)))
 (refine qK3 (fun R hR=> ?_))
 refine(CN.out _).mono ?_
 rintro e w' ⟨rfl,hT,hb⟩
 have hst:=zmC hT.at_ hb (fun k hk=>by
  rw[Yc] at hk
  rcases zE.1 hk with rfl|rfl|⟨n,hn,h⟩
  ·omega
  ·omega
  ·rcases h with rfl|rfl
   ·show _≤_+3;omega
   ·show _≤_+2;omega)
 refine hR.out _ _ ?_;clear hR R
 replace hM:=hM.madeM hst zD
 clear hst hT hb
 rw[laYz] at hM
 generalize hgg:w.heap.size+1=g at*
 generalize hmm:w.heap.size=mb at*
 (refine qq ?_)
 (repeat(first|(refine qW ?_;intros;rename_i hM)|(refine qMk ?_;clear hM;intro w bk hM)))
 refine St.makeMap (kt:=3) rfl hM rfl rfl (fun w=> ?_) ?_
 ·go_simp
  simp[Instr.makeMap,newObj,Sem.run]
 clear hM;intro w hb0 hM
 (refine qq ?_)
 (repeat(first|(refine qW ?_;intros;rename_i hM)|(refine qMk ?_;clear hM;intro w bk hM)))
 (refine qf ?_)
 exact⟨⟨bk,hb0,g,mb⟩,_,rfl,hM⟩
def znC(w:World)(p:Option Addr):Prop:=p=none∨ ∃ f,p=some ⟨f,0,none⟩∧w.cell? ⟨f,0,none⟩=some (.pointer none)
theorem znC.below{p:Option Addr}(h:znC w p)(hb:Below w.heap.size w w'):znC w' p:=by
 rcases h with h|⟨f,h,hc⟩
 ·exact .inl h
 ·exact .inr ⟨f,h,(hb.cell (p:=⟨f,0,none⟩) (World.block_lt_of_cell? w ⟨f,0,none⟩ hc)).trans hc⟩
end
end
section
namespace Aw
def bs(l:List UInt8):ByteArray:=⟨l.toArray⟩
def o1:OpD:=⟨3,⟨#[97]⟩,⟨#[]⟩,0,0,0,⟨#[]⟩,0,0⟩
def o2:OpD:=⟨7,⟨#[]⟩,⟨#[]⟩,1,0,0,⟨#[120,121]⟩,0,0⟩
def o3:OpD:=⟨11,⟨#[97]⟩,⟨#[]⟩,0,0,0,⟨#[]⟩,0,0⟩
def o4:OpD:=⟨6,⟨#[]⟩,⟨#[]⟩,1,1,9,⟨#[]⟩,0,0⟩
def o5:OpD:=⟨6,⟨#[]⟩,⟨#[]⟩,1,0,1,⟨#[]⟩,0,0⟩
def s1:FsD:=⟨⟨4096,128,2,[⟨1,true,1,0,⟨#[]⟩,[(⟨#[97]⟩,2)]⟩,⟨2,false,1,1,⟨#[]⟩,[]⟩]⟩,[(1,[0,2,0,0,0,0,0,0,0])]⟩
def s2:FsD:=⟨⟨4096,130,2,[⟨1,true,1,0,⟨#[]⟩,[(⟨#[97]⟩,2)]⟩,⟨2,false,1,1,⟨#[120,121]⟩,[]⟩]⟩,[(1,[0,2,0,0,0,0,0,0,0])]⟩
def s3:FsD:=⟨⟨4096,130,2,[⟨1,true,1,0,⟨#[]⟩,[]⟩,⟨2,false,0,1,⟨#[120,121]⟩,[]⟩]⟩,[(1,[0,2,0,0,0,0,0,0,0])]⟩
theorem d1:Fs.do_ (Fs.new 4096) 1 o1=(⟨0,1,⟨#[]⟩,[]⟩,s1):=by kernel_rfl
theorem d2:Fs.do_ s1 1 o2=(⟨0,0,⟨#[]⟩,[]⟩,s2):=by kernel_rfl
theorem d3:Fs.do_ s2 1 o3=(⟨0,0,⟨#[]⟩,[]⟩,s3):=by kernel_rfl
theorem d4:Fs.do_ s3 1 o4=(⟨0,0,⟨#[121]⟩,[]⟩,s3):=by kernel_rfl
end Aw
end
section
open Go.RowKit Go.Maps Go.Sort Go.Shelf
theorem zbw{ss ks:List Int}(h:ss.Perm ks)(hs:ks.Pairwise fun a b=>a<b):ss.mergeSort leI=ks:=by
 rw[mergeSort_of_perm_i h]
 refine List.mergeSort_of_pairwise (hs.imp fun {a b} hab=> ?_)
 simp only[leI,decide_eq_true_eq]
 omega
theorem ziq(β:Int→Nat×Nat)(l:List NodeD):intKeys (Zh (zz β l))=l.map fun n=>n.id:=by
 simp[Zh,zz,intKeys,Go.intOf]
theorem zgI(m:Nat):AnyZI.SortsIn Tryz.prog Tryz.sortedI_ren Fence.wide m:=
 ⟨fun blk off cap ss W hH hblk hsz=>callsIn_wide.2 (AnyM.slices_Sort_int Tryz.sortI blk off cap ss W hH hblk hsz),fun p cap W=>callsIn_wide.2 (AnyM.slices_Sort_int_none Tryz.sortI p cap W)⟩
theorem zkY(mb:Option Nat)(W:World):Calls Tryz.prog 120 #[.map mb] W fun e w'=>e= .returned (.func (.func 168) #[] #[.pointer (some ⟨W.heap.size,0,none⟩)])∧w'=W.alloc (.cells #[.map mb] 160):=
 (callsIn_wide (n:=5)).1 (AnyZI.keys_in Tryz.keysI Fence.wide 5 trivial rfl mb W)
theorem zfj{m:Nat}{β:Int→Nat×Nat}{l:List NodeD}(w:World)(h:zkV w m β l)(hl:l.length≤4611686018427):
  Calls Tryz.prog 72 #[.func (.func 168) #[] #[.pointer (some ⟨w.heap.size,0,none⟩)]] (w.alloc (.cells #[.map (some m)] 160)) fun e w'=> ∃ v:Value,e= .returned v∧
   w'.ownsRow (w.heap.size+1) 3 1 v l.length (l.map fun n=> .int .i64 n.id)∧Below w.heap.size w w':=by
 have hbl:=zA.lt h
 have hsz:Maps.size (Zh (zz β l))=l.length:=by rw[yl];simp[zz]
 have hown:w.ownsMap Tryz.prog 3 Ze m (zz β l).length (Zh (zz β l)):=h
 have hseq:SeqGives Fence.wide 2 Tryz.prog 168 #[.pointer (some ⟨w.heap.size,0,none⟩)] encZ (fun ss=>ss.Perm (intKeys (Zh (zz β l)))) (Maps.size (Zh (zz β l))) (w.alloc (.cells #[.map (some m)] 160)):=
  AnyZI.keys_gives (ρ:=Tryz.keysI_ren) {Tryz.keysI with} Fence.wide _ trivial rfl (by omega) w.heap.size m _ _ _ (by simp) (by simp) (by
   obtain⟨es,clock,hb,Ft,hs,hD⟩:=hown
   exact⟨es,clock,(Below.heap_alloc _ _ m hbl).trans hb,Ft,hs,hD⟩)
 have key:=AnyZI.sorted_in Tryz.sortedI Fence.wide 5 trivial trivial trivial trivial rfl (by omega) (zgI _) (enters_of Tryz.func124 (by kernel_rfl) rfl) 168 #[.pointer (some ⟨w.heap.size,0,none⟩)] trivial (enters_of Tryz.func168 (by kernel_rfl) rfl) _ _ (by rw[hsz,zj];omega) (by rw[hsz];omega) _ hseq
 refine((callsIn_wide (n:=5)).1 key).mono fun e w' hx=> ?_
 obtain⟨v,ss,he,hp,hrow,_,hb⟩:=hx
 refine⟨v,he, ?_,((Below.refl _ w).alloc (Nat.le_refl _) _).trans (hb.mono (by simp))⟩
 rw[ziq] at hp
 have hs:(l.map fun n=>n.id).Pairwise fun a b=>a<b:=by
  have:=zA.sorted h zq
  unfold zz at this
  rw[lcJz] at this ⊢
  exact this.imp fun h=>by simpa[Lit.before] using h
 have e:=zbw hp hs
 have hlen:ss.length=l.length:=by rw[hp.length_eq];simp
 rw[show(fun x y:Int=>decide (x≤y))=leI from rfl,e,hlen,lbZz] at hrow
 rw[zH] at hrow
 exact hrow
end
section
open Go.RowKit Go.Maps
abbrev NodV:=NodeD×Option (Nat×Nat)
def entC(d:List (ByteArray×Int)):List Value:=d.flatMap fun p=>[.string p.1,.int .i64 p.2]
def NodV.cells(z:NodV):List Value:=[.int .i64 z.1.id,.bool z.1.dir,.int .i64 z.1.links,.int .i64 z.1.holds,.string z.1.data,slV z.2 z.1.names.length]
def NodV.ents(z:NodV):List Ent:=slL z.2 (entC z.1.names) 127 2
end
section
open Go.RowKit
section
variable {P:Program}{K:Act→World→Prop}{a:Act}{w w0:World}{ops:Array Oper}{l:List (Oper×Nat)}{c:Nat}{o:Oper}{F:List Nat}{L Lr:List Ent}{t e:TypeId}{x y:Operand}
theorem St.appendCore2(hM:St w0 F w L)(hc:(c==2||c==3)=true)(hw:Region.wanted o (yielded ops a.tmps)=true){s:Option (Nat×Nat)}{n m size:Nat}{xs news:List Value}{L':Option (Nat×Nat)→List Ent}(hL: ∀ s',Swap L (slL s xs e size) (slL s' (xs++news) e size) (L' s')){v':Value}{w':World}
  (hrun0:(execOp a.eval o).run P w= .ok (.value v') w') (ho':w'.ownsRow 0 e size v' (n+m) (xs++news)) (hg:w.grownBy w' (slV s n).ownBlock) (hat:v'.ownBlock=(slV s n).ownBlock∨v'.ownBlock=some w.heap.size)
  (hS:c=2→ ∀ z∈Lr,∀ k,s.map (·.1)=some k→z.1≠k) (h: ∀ w' s',St w0 F w' (L' s')→SlOK s' (n+m) (xs++news) size→(0<n+m→s'≠none)→(s≠none→s'≠none)→zg P ops K (Held w0 F Lr) l (a.put o.dst (slV s' (n+m))) w'):zg P ops K (Held w0 F Lr) ((o,c)::l) a w:=by
 obtain⟨s',rfl,hk',hh',hb'⟩:=zbR ho'
 have hrun:(execOp a.eval o).run P w= .ok (.value (slV s' (n+m))) w':=hrun0
 have hob:(slV s n).ownBlock=s.map (·.1):=by cases s<;> rfl
 have hO:Only ((s.map (·.1)).toList) w w':=⟨hg.os,hg.tape,hg.output,hg.size,fun k hk hn=>hg.block k hk (fun e=>by rw[hob] at e;exact hn (by rw[←e];simp))⟩
 obtain⟨A',B',hA',hL'⟩:=(hL s').split
 have hM':St w0 F w' (L' s'):=by
  have hnd:=hM.nd
  rw[hA'] at hnd
  have hsown: ∀ k,s.map (·.1)=some k→(k∈F∨w0.heap.size≤k)∧k<w.heap.size:=fun k hk=>by
   match s with
   |none=>cases hk
   |some (g,cp)=>
    obtain rfl:g=k:=by simpa using hk
    have hm:(g,true,Res.pre xs e (cp*size))∈L:=by rw[hA'];simp[slL]
    exact⟨hM.own _ hm rfl,hM.lt hm⟩
  have hsnew: ∀ k,s'.map (·.1)=some k→(k∈F∨w0.heap.size≤k)∧(s.map (·.1)=some k∨k=w.heap.size):=fun k hk=>by
   rw[hb',hob] at hat
   rcases hat with h1|h1
   ·rw[h1] at hk;exact⟨(hsown k hk).1,.inl hk⟩
   ·rw[h1] at hk;obtain rfl:w.heap.size=k:=by simpa using hk
    exact⟨.inr hM.only.size,.inr rfl⟩
  have hrestne: ∀ z,z∈A'∨z∈B'→(∀ k,s.map (·.1)=some k→z.1≠k)∧z∈L:=fun z hz=>by
   refine⟨fun k hk=> ?_,by rw[hA'];rcases hz with h|h<;> simp[h]⟩
   match s with
   |none=>cases hk
   |some (g,cp)=>
    obtain rfl:g=k:=by simpa using hk
    simp only[slL,laMz,laDz,lbBz,laSz,laAz,laBz,laKz] at hnd
    obtain⟨-,⟨-,-,h2⟩,h3⟩:=hnd
    rcases hz with h|h
    ·exact fun e=>h3 z.1 ⟨z,h,rfl⟩ g (.inl (.inl rfl)) e
    ·exact fun e=>h2 g (.inl rfl) z.1 ⟨z,h,rfl⟩ e.symm
  refine⟨hM.only.then hO (fun k hk=>(hsown k (by simpa using hk)).1),fun z hz=> ?_, ?_,fun z hz h1=> ?_⟩
  ·rw[hL'] at hz
   rcases laAz.1 hz with hz|hz
   ·obtain⟨hne,hzL⟩:=hrestne z (.inl hz)
    rw[hO.block z.1 (hM.lt hzL) (fun hm=>hne z.1 (by simpa using hm) rfl)]
    exact hM.holds z hzL
   ·rcases laAz.1 hz with hz|hz
    ·exact hh' z hz
    ·obtain⟨hne,hzL⟩:=hrestne z (.inr hz)
     rw[hO.block z.1 (hM.lt hzL) (fun hm=>hne z.1 (by simpa using hm) rfl)]
     exact hM.holds z hzL
  ·rw[hL']
   cases hse:s' with
   |none=>
    simp only[slL,laJz]
    have:(A' ++B').Sublist (A' ++(slL s xs e size++B')):=List.Sublist.append_left (laFz _ _) _
    exact List.Sublist.nodup (this.map _) hnd
   |some gc=>
    obtain⟨g',cp'⟩:=gc
    have hn:=hsnew g' (by rw[hse];rfl)
    have hfree: ∀ z,z∈A'∨z∈B'→z.1≠g':=fun z hz e=>by
     obtain⟨hne,hzL⟩:=hrestne z hz
     rcases hn.2 with h2|h2
     ·exact hne g' h2 e
     ·have:=hM.lt hzL
      omega
    have hAB:((A' ++B').map (·.1)).Nodup:=by
     have:(A' ++B').Sublist (A' ++(slL s xs e size++B')):=List.Sublist.append_left (laFz _ _) _
     exact List.Sublist.nodup (this.map _) hnd
    simp only[laMz,laSz,laKz] at hAB
    simp only[slL,laMz,laDz,lbBz,laSz,laAz,laBz,laKz,laIz,laJz,laTz]
    refine⟨hAB.1,⟨fun ⟨z,hz,e⟩=>hfree z (.inr hz) e,hAB.2.1⟩,fun k hk u hu=> ?_⟩
    obtain⟨z,hz,rfl⟩:=hk
    rcases hu with rfl|hu
    ·exact hfree z (.inl hz)
    ·exact hAB.2.2 z.1 ⟨z,hz,rfl⟩ u hu
  ·rw[hL'] at hz
   rcases laAz.1 hz with hz|hz
   ·exact hM.own z (hrestne z (.inl hz)).2 h1
   ·rcases laAz.1 hz with hz|hz
    ·cases hse:s' with
     |none=>rw[hse] at hz;cases hz
     |some gc=>
      obtain⟨g',cp'⟩:=gc
      rw[hse] at hz
      obtain rfl:=laGz.1 hz
      exact(hsnew g' (by rw[hse];rfl)).1
    ·exact hM.own z (hrestne z (.inr hz)).2 h1
 refine zM hc hw hrun (.inl rfl) (fun h2 hh=> ?_) (h w' s' hM' hk' (fun hp e=> ?_) fun hs0 e=> ?_)
 ·refine⟨hM'.only, ?_⟩
  exact fun z hz=>by
   rw[hO.block z.1 (hh.has.lt hz) (fun hm=>hS h2 z hz z.1 (by simpa using hm) rfl)]
   exact hh.has z hz
 ·subst e
  have:=hk'.2
  simp only at this
  omega
 ·subst e
  rw[hb',hob] at hat
  rcases hat with h1|h1
  ·cases s with
   |none=>exact hs0 rfl
   |some _=>cases h1
  ·cases h1
theorem St.append2(hx:o.op= .call {callee:= .builtin .append,args:= #[x,y],argTypes:= #[t,t]})(hM:St w0 F w L)(hc:(c==2||c==3)=true)(hw:Region.wanted o (yielded ops a.tmps)=true){s:Option (Nat×Nat)}{n:Nat}(hs:a.eval x=slV s n){ad:Addr}{m cap:Nat}(hy:a.eval y= .slice (some ad) m cap){size bytes:Nat}(hE:zgP zfg t=some (e,size,bytes))(hB:appB P t e size bytes=true)
  {xs news:List Value} {L':Option (Nat×Nat)→List Ent} (hL: ∀ s',Swap L (slL s xs e size) (slL s' (xs++news) e size) (L' s')) (hk:SlOK s n xs size) (hl:news.length=m*size) (hnews: ∀ j u,news[j]? =some u→w.cell? (ad.add j)=some u) (h1:news.all (·.oneCell')=true) (h63:n+m≤maxLen) (hby:(n+m)*bytes≤140737488355328)
  (hS:c=2→ ∀ z∈Lr,∀ k,s.map (·.1)=some k→z.1≠k) (h: ∀ w' s',St w0 F w' (L' s')→SlOK s' (n+m) (xs++news) size→(0<n+m→s'≠none)→zg P ops K (Held w0 F Lr) l (a.put o.dst (slV s' (n+m))) w'):zg P ops K (Held w0 F Lr) ((o,c)::l) a w:=by
 obtain⟨i,z,e1,e2,e3,e4,e5,e6,e7⟩:=xR hB
 obtain⟨A,B,hA,-⟩:=(hL none).split
 have hown:w.ownsRow 0 e size (slV s n) n xs:=XA (fun z hz=>hM.holds z (by rw[hA];simp[hz])) hk
 obtain⟨v',w',hr,ho',hg,-,hat⟩:=run_append_own_at (P:=P) w 0 t o.type e i z size bytes e1 e2 e3 e4 e5 e6 e7 (slV s n) n xs hown ad m cap news hl hnews (by simpa using h1) h63 hby (Nat.zero_le _)
 refine St.appendCore2 (v':=v') (w':=w') hM hc hw hL ?_ ho' hg hat hS fun w' s' a1 a2 a3 _=>h w' s' a1 a2 a3
 unfold execOp
 simp only[hx,resolve,invoke,builtin,Sem.run_bind,Sem.run_pure,Result.andThen_ok,lbOz,laDz,lbBz,hs,hy,hr]
end
end
theorem qH2{p q:Prop}(k:q)(h:Hd q→p:=by
 intro q1k
 first|refine qD (id:=8) hM (Sub.all _) [4,8,12,16] [(0,0),(1,0),(2,0),(3,0),(4,1),(5,0),(6,0),(7,0),(8,1),(9,0),(10,0),(11,0),(12,1),(13,0),(14,0),(15,0),(16,1),(17,0),(18,2),(19,3)] ?_|refine qD (id:=12) hM (Sub.skip (Sub.take Sub.nil)) [1,6] [(0,0),(1,1),(2,0),(3,0),(4,0),(5,0),(6,1),(7,2),(8,2),(9,2),(10,2),(11,2),(12,3),(13,3)] ?_|fail
 exact q1k.out):p:=h ⟨k⟩
section
open Go.RowKit Go.Maps
theorem St.subM{w0 w:World}{F:List Nat}{L L':List Ent}(h:St w0 F w L)(hs:L'.Sublist L):St w0 F w L':=h.drop (fun _ hx=>hs.subset hx) ((hs.map _).nodup h.nd)
section
variable {P:Program}{K:Act→World→Prop}{a:Act}{w w0:World}{ops:Array Oper}{l:List (Oper×Nat)}{c:Nat}{o:Oper}{L Lr:List Ent}{b:Nat}{ty kt et:TypeId}{x y:Operand}{S:World→Prop}{m:List (Lit×Value)}{kl:Lit}{key:Value}
theorem zju(h:Only [] w0 w)(hm:zA P kt w0 b m):(mapR P kt m).holds w.heap[b]? :=by
 have:=Yx (zA.on hm (h.block b (zA.lt hm) (by simp)))
 exact this
theorem St.lookupF(hx:o.op= .lookup ty x y false)(hM:St w0 [] w L)(hc:(c==2||c==3)=true)(hw:Region.wanted o (yielded ops a.tmps)=true)(hev:a.eval x= .map (some b))(hy:a.eval y=key)(hm:zA P kt w0 b m)(hK:Keyed P kt)(ht:P.underlying ty=some (.map kt et)){zv:Value}(hz: ∀ w,(zeroValue et).run P w= .ok zv w)(hkey:keyOf P kt key=some kl){v:Value}(hv:yb m kl zv=v)
  (h:zg P ops K S l (a.put o.dst v) w):zg P ops K S ((o,c)::l) a w:=
 zB hc hw (by rw[←hv];exact Yn hx hev hy (zju hM.only hm) hK ht hz hkey) h
theorem St.lookupF1(hx:o.op= .lookup ty x y false)(hw:Region.wanted o (yielded ops a.tmps)=true)(hev:a.eval x= .map (some b))(hy:a.eval y=key)(hm:zA P kt w0 b m)(hK:Keyed P kt)(ht:P.underlying ty=some (.map kt et)){zv:Value}(hz: ∀ w,(zeroValue et).run P w= .ok zv w)(hkey:keyOf P kt key=some kl){v:Value}(hv:yb m kl zv=v)
  (h:zg P ops K (Held w0 [] Lr) l (a.put o.dst v) w):zg P ops K (Held w0 [] Lr) ((o,1)::l) a w:=
 yh hw (fun w hS=>by rw[←hv];exact Yn hx hev hy (zju hS.only hm) hK ht hz hkey) h
end
def zka(ns:List NodeD)(w:World)(e:Ending)(w':World):Prop:=
 ∃ (s:Option (Nat×Nat)) (zs:List NodV),e= .returned (slV s zs.length)∧zs.map (·.1)=ns∧SlOK s zs.length (zs.flatMap NodV.cells) 6∧(∀ z∈zs,SlOK z.2 z.1.names.length (entC z.1.names) 2)∧
  St w [] w' (slL s (zs.flatMap NodV.cells) 124 6++zs.flatMap NodV.ents)
section
variable {w0:World}{g mb:Nat}{β:Int→Nat×Nat}{t:TabD}
theorem znY{w w':World}{base:Nat}{v:Value}{xs:List Int}(h:w'.ownsRow base 3 1 v xs.length (xs.map (Value.int .i64)))(hb:Below w.heap.size w w')(hB:w.heap.size≤base):
  ∃ s,v=slV s xs.length∧SlOK s xs.length (xs.map (Value.int .i64)) 1∧St w [] w' (slL s (xs.map (Value.int .i64)) 3 1):=Yi h hb hB
theorem zhU(h:TblAt w0 g mb β t)(hq:0<t.quota)(hid: ∀ n∈t.nodes,Fits n.id)(hl:t.nodes.length≤1000000)(hlen: ∀ n∈t.nodes,n.names.length≤1000000)(hso: ∀ n∈t.nodes,In.nameSorted n.names):
  Calls Tryz.prog 69 #[.pointer (some ⟨g,0,none⟩)] w0 (zka t.nodes w0):=by
 have hM:=St.start w0 []
 have hg:=qh (fun (W:World) (hb:Below w0.heap.size w0 W)=>yZ (h.below hb) hq)
 have c3:=(zS h).2.2.2
 have CK:=qh (fun W:World=>zkY (some mb) W)
 have CS:=qh (fun (W:World) (hb:Below w0.heap.size w0 W)=>zfj W (h.below hb).map (by omega))
 have HT:=qh h
 have HID:=qh hid
 have HLN:=qh hlen
 have HSO:=qh hso
 clear h hq hid hlen hso
 go_enter Tryz.func69,Tryz.ntmps69
 (repeat(first|(refine qW ?_;intros;rename_i hM)|(refine qMk ?_;clear hM;intro w bk hM)))
 (refine qK3 (fun R hR=> ?_))
 refine(hg.out _ hM.to_below).mono ?_
 (refine qgs ?_;clear hR R)
 (repeat(first|(refine qW ?_;intros;rename_i hM)|(refine qMk ?_;clear hM;intro w bk hM)))
 (refine qK3 (fun R hR=> ?_))
 have hbl:=hM.to_below
 refine(CK.out _).mono ?_
 (refine qgs ?_;clear hR R)
 (refine qK3 (fun R hR=> ?_))
 refine(CS.out _ hbl).mono ?_
 rintro e w' ⟨v,rfl,hrow,hb⟩
 have e1:(t.nodes.map fun n=>Value.int .i64 n.id)=(t.nodes.map (·.id)).map (Value.int .i64):=by rw[lbZz];rfl
 have e2:t.nodes.length=(t.nodes.map (·.id)).length:=by simp
 rw[e1,e2] at hrow
 obtain⟨s1,rfl,hok1,hst⟩:=znY hrow hb (Nat.le_succ _)
 refine hR.out _ _ ?_;clear hR R hM hbl hrow hb e1
 have hM:=hst
 clear hst
 obtain⟨va,vc,hsv,hsa⟩:=zf hok1
 rw[hsv]
 rw[←e2] at hsv hok1 ⊢
 have HK1:=qh hok1
 clear hok1 hsv e2 CS
 (refine qq ?_)
 (repeat(first|(refine qW ?_;intros;rename_i hM)|(refine qMk ?_;clear hM;intro w bk hM)))
 go_loopw [3,20] (fun v i wr=> ∃ (k:Nat) (s:Option (Nat×Nat)) (zs:List NodV),k≤t.nodes.length∧i= .int .i64 k∧v=slV s zs.length∧zs.map (·.1)=t.nodes.take k∧SlOK s zs.length (zs.flatMap NodV.cells) 6∧(∀ z∈zs,SlOK z.2 z.1.names.length (entC z.1.names) 2)∧
  St w0 [] wr (slL s1 ((t.nodes.map (·.id)).map (Value.int .i64)) 3 1++(slL s (zs.flatMap NodV.cells) 124 6++zs.flatMap NodV.ents))) (fun _ i _=>t.nodes.length - (intOf i).toNat)
 case atStart=>exact⟨0,none,[],by omega,rfl,rfl,rfl,⟨rfl,rfl⟩,nofun,by simpa[slL] using hM⟩
 case round=>
  clear hM
  obtain⟨k,s,zs,hk,rfl,rfl,hzs,hsl,hen,hM⟩:=hrel
  have HZ:=qh hzs
  have HS:=qh hsl
  have HE:=qh hen
  have zl:zs.length≤1000000:=by
   have h1:=congrArg List.length hzs
   rw[lbMz,lbTz] at h1
   omega
  clear hzs hsl hen
  by_cases hlt:k<t.nodes.length
  ·obtain⟨n,hn⟩:=zK hlt
   cases s1 with
   |none=>exact absurd HK1.out.2 (by omega)
   |some gc=>
   obtain⟨g1,cap1⟩:=gc
   obtain⟨rfl,rfl⟩:=hsa g1 cap1 rfl
   have hnm:=laQz hn
   have hx':((t.nodes.map (·.id)).map (Value.int .i64))[k]? =some (.int .i64 n.id):=by rw[lbCz,lbCz,hn];rfl
   have k1:(k:Int)<(t.nodes.length:Int):=by omega
   have hA:=HT.out.node n hnm
   obtain⟨d0,d1,d2,d3,d4⟩:=zw hA
   have hfit:=HID.out n hnm
   have hptr:yb (zz β t.nodes) (.int .i64 n.id) (.pointer none)= .pointer (some ⟨(β n.id).1,0,none⟩):=by rw[zbP,zon HT.out.ids hnm]
   have HMP:=qh HT.out.map
   have HNM:=qh hA.names
   have HSN:=qh (HSO.out n hnm)
   have hnl:=HLN.out n hnm
   have CS2:=qh (fun (W:World) (hb:Below w0.heap.size w0 W)=>zbe W (zA.on HNM.out (hb.block _ (zA.lt HNM.out))) (by omega))
   have CK2:=qh (fun W:World=>zdk (some (β n.id).2) W)
   have HN:=qh hn
   clear hn hlt hnm hA
   change St w0 [] wr ((g1,true,Res.pre ((t.nodes.map (·.id)).map (Value.int .i64)) 3 (vc*1))::(slL s (zs.flatMap NodV.cells) 124 6++zs.flatMap NodV.ents)) at hM
   (repeat(first|(refine qW ?_;intros;rename_i hM)|(refine qMk ?_;clear hM;intro w bk hM)))
   refine St.lookupF rfl hM rfl rfl rfl rfl HMP.out zq Tryz.underlying160 zhh (keyOf_int_mk Tryz.underlying3 hfit) hptr ?_
   clear hptr HMP
   (refine qq ?_)
   (repeat(first|(refine qW ?_;intros;rename_i hM)|(refine qMk ?_;clear hM;intro w bk hM)))
   (refine qK3 (fun R hR=> ?_))
   have hbl:=hM.to_below
   have hMw:=hM
   refine(CK2.out _).mono ?_
   (refine qgs ?_;clear hR R)
   (repeat(first|(refine qW ?_;intros;rename_i hM)|(refine qMk ?_;clear hM;intro w bk hM)))
   (refine qK3 (fun R hR=> ?_))
   refine(CS2.out _ hbl).mono ?_
   rintro e w' ⟨v,rfl,hrow,hb⟩
   have e1:(n.names.map fun p=>Value.string p.1)=(n.names.map Prod.fst).map Value.string:=by rw[lbZz];rfl
   have e2:n.names.length=(n.names.map Prod.fst).length:=by simp
   rw[e1,e2] at hrow
   obtain⟨s2,rfl,hok2,hst⟩:=Yi hrow hb (Nat.le_succ _)
   refine hR.out _ _ ?_;clear hR R hM hbl hrow hb e1
   have hM:=hMw.madeM hst (zL s2 (n.names.map Prod.fst))
   clear hst hMw
   obtain⟨vb,vd,hsv2,hsb⟩:=zf hok2
   rw[hsv2]
   rw[←e2] at hsv2 hok2 ⊢
   have HK2:=qh hok2
   clear hok2 hsv2 e2 CS2 CK2
   (refine qq ?_)
   (repeat(first|(refine qW ?_;intros;rename_i hM)|(refine qMk ?_;clear hM;intro w bk hM)))
   generalize bk=nb at*
   go_loopw [55] (fun i wr2=> ∃ (j:Nat) (s3:Option (Nat×Nat)),j≤n.names.length∧i= .int .i64 j∧SlOK s3 j (entC (n.names.take j)) 2∧
    St w0 [] wr2 (txL s2 (n.names.map Prod.fst)++((nb,true,.cells [.int .i64 n.id,.bool n.dir,.int .i64 n.links,.int .i64 n.holds,.string n.data,slV s3 j] 124)::(slL s3 (entC (n.names.take j)) 127 2++
     ((g1,true,Res.pre ((t.nodes.map (·.id)).map (Value.int .i64)) 3 (vc*1))::(slL s (zs.flatMap NodV.cells) 124 6++zs.flatMap NodV.ents)))))) (fun i _=>n.names.length - (intOf i).toNat)
   case atStart=>exact⟨0,none,by omega,rfl,⟨rfl,rfl⟩,hM⟩
   case round=>
    clear hM
    obtain⟨j,s3,hj,rfl,hok3,hM⟩:=hrel
    have HK3:=qh hok3
    clear hok3
    by_cases hlt:j<n.names.length
    ·obtain⟨p,hp⟩:=zK hlt
     obtain⟨nm,idv⟩:=p
     cases s2 with
     |none=>exact absurd HK2.out.2 (by omega)
     |some gc=>
     obtain⟨g2,cap2⟩:=gc
     obtain⟨rfl,rfl⟩:=hsb g2 cap2 rfl
     have hpm:=laQz hp
     have hx2:((n.names.map Prod.fst).map Value.string)[j]? =some (.string nm):=by rw[lbCz,lbCz,hp];rfl
     have j1:(j:Int)<(n.names.length:Int):=by omega
     have hks:=zcb HNM.out (nm,idv) hpm
     have hlk:yb (Zk n.names) (.string nm.data.toList) (.int .i64 0)= .int .i64 idv:=by rw[zbG,In.leads_at HSN.out hpm]
     have hen:entC (n.names.take j)++[.string nm,.int .i64 idv]=entC (n.names.take (j+1)):=by
      unfold entC
      rw[lbJz,hp,Option.toList_some,laWz]
      rfl
     clear hp hpm hlt
     change St w0 [] _ ((g2,true,Res.pre ((n.names.map Prod.fst).map Value.string) 9 (vd*1))::(nb,true,_)::(slL s3 (entC (n.names.take j)) 127 2++_)) at hM
     (repeat(first|(refine qW0 ?_;clear hM;intros;rename_i hM)|((refine qMk ?_);clear hM;intro w bk hM)|((refine qH2 ?_);clear hM;intro w hM Kr hKr)))
     (first|refine St.lookupF rfl hM rfl rfl rfl rfl HNM.out yC Tryz.underlying164 zy (WideMaps.keyOf_string_mk Tryz.underlying9 hks) hlk ?_|refine St.lookupF1 rfl rfl rfl rfl HNM.out yC Tryz.underlying164 zy (WideMaps.keyOf_string_mk Tryz.underlying9 hks) hlk ?_)
     (refine qq ?_)
     (repeat(first|(refine qW0 ?_;clear hM;intros;rename_i hM)|((refine qMk ?_);clear hM;intro w bk hM)|((refine qH2 ?_);clear hM;intro w hM Kr hKr)))
     have hap: ∀ k',s3.map (·.1)=some k'→nb≠k':=fun k' hk' e=>by
      cases s3 with
      |none=>cases hk'
      |some gg=>
       have hnd:=hM.nd
       simp only[slL,laDz,laMz,laTz,laBz,laAz,lbBz,lbRz,or_false,not_or] at hnd
       have:gg.1=k':=by simpa using hk'
       omega
     refine St.append2 (s:=s3) (n:=j) (xs:=entC (n.names.take j)) rfl hM rfl rfl rfl rfl rfl (by kernel_rfl) qsf HK3.out rfl (hM.news qm) rfl (by rw[zj];omega) (by omega) (fun _ z hz=>by rcases laGz.1 hz with rfl;exact hap) ?_
     clear hM hap;intro w s4 hM hk4 hs4
     simp only[Res.known] at hM hk4
     rw[hen] at hM hk4
     cases s4 with
     |none=>exact absurd rfl (hs4 (Nat.succ_pos _))
     |some gc4=>
     obtain⟨g4,cap4⟩:=gc4
     have HK4:=qh hk4
     replace hM:=hM.forget
     clear hs4 hk4 hlk hen
     (refine qq ?_)
     (repeat(first|(refine qW0 ?_;clear hM;intros;rename_i hM)|((refine qMk ?_);clear hM;intro w bk hM)|((refine qH2 ?_);clear hM;intro w hM Kr hKr)))
     (refine⟨?_,qio⟩;repeat(first|exact⟨⟨j+1,some (g4,cap4),by omega,rfl,HK4.out,hM⟩,rfl⟩|apply Exists.intro))
    ·have k0:¬((j:Int)<(n.names.length:Int)):=by omega
     obtain rfl:j=n.names.length:=by omega
     clear hlt hj
     rw[lbSz] at hM HK3
     replace hM:=hM.subM (laFz _ _)
     obtain⟨v3,c3',hsv3,-⟩:=zf HK3.out
     rw[hsv3] at hM
     have HV3:=qh hsv3
     clear hsv3
     (repeat(first|(refine qW ?_;intros;rename_i hM)|(refine qMk ?_;clear hM;intro w bk hM)))
     refine St.append (s:=s) (n:=zs.length) (xs:=zs.flatMap NodV.cells) rfl hM rfl rfl rfl rfl rfl (by kernel_rfl) qsf HS.out rfl (hM.news qm) rfl (by rw[zj];omega) (by omega) (fun _=> .inl rfl) ?_
     clear hM;intro w s' hM hk' hs'
     simp only[Res.known] at hM hk'
     let z:NodV:=(n,s3)
     have hfl:zs.flatMap NodV.cells++[.int .i64 n.id,.bool n.dir,.int .i64 n.links,.int .i64 n.holds,.string n.data,.slice v3 n.names.length c3']=(zs++[z]).flatMap NodV.cells:=by
      rw[←HV3.out]
      simp[z,laWz,NodV.cells]
     have hle:zs.length+1=(zs++[z]).length:=by simp
     have hee:(zs++[z]).flatMap NodV.ents=zs.flatMap NodV.ents++slL s3 (entC n.names) 127 2:=by simp[z,laWz,NodV.ents]
     rw[hfl] at hM hk'
     replace hM:=(hM.forget.forget).perm (L':=(g1,true,Res.pre ((t.nodes.map (·.id)).map (Value.int .i64)) 3 (vc*1))::(slL s' ((zs++[z]).flatMap NodV.cells) 124 6++(zs++[z]).flatMap NodV.ents)) (by
      rw[hee]
      refine List.perm_append_comm.trans ?_
      simp only[laIz,lcAz]
      exact List.Perm.refl _)
     rw[hle] at hk' ⊢
     have HS':=qh hk'
     have hz':(zs++[z]).map (·.1)=t.nodes.take (k+1):=by
      rw[lbJz,HN.out,laMz,HZ.out]
      rfl
     have hn': ∀ y∈zs++[z],SlOK y.2 y.1.names.length (entC y.1.names) 2:=fun y hy=>by
      rcases laAz.1 hy with hy|hy
      ·exact HE.out y hy
      ·rcases laGz.1 hy with rfl
       exact HK3.out
     generalize zs++[z]=zs' at*
     clear hk' hs' hfl hle hee
     (refine qq ?_)
     (repeat(first|(refine qW ?_;intros;rename_i hM)|(refine qMk ?_;clear hM;intro w bk hM)))
     (refine⟨?_,qio⟩;repeat(first|exact⟨⟨k+1,s',zs',by omega,rfl,rfl,hz',HS'.out,hn',hM⟩,rfl⟩|apply Exists.intro))
  ·have k0:¬((k:Int)<(t.nodes.length:Int)):=by omega
   obtain rfl:k=t.nodes.length:=by omega
   clear hlt hk
   (repeat(first|(refine qW ?_;intros;rename_i hM)|(refine qMk ?_;clear hM;intro w bk hM)))
   (refine qf ?_)
   have e:=HZ.out
   rw[lbSz] at e
   refine⟨s,zs,rfl,e,HS.out,HE.out, ?_⟩
   exact hM.subM (laFz _ _)
end
end
section
open Go.RowKit Go.Maps
namespace Pt
def join(d n:ByteArray):ByteArray:=if d.data.toList=[]∨n.data.toList=[] then d++n else d++slash++n
end Pt
theorem zlN(d n:ByteArray)(w:World)(hd:d.size≤4611686018427387904)(hn:n.size≤1000000):Calls Tryz.prog 71 #[.string d,.string n] w fun e w'=>e= .returned (.string (Pt.join d n))∧w=w':=by
 have hM:=St.start w []
 by_cases h1:d.data.toList=[]
 ·have q1:=Zn h1
  have e:Pt.join d n=d++n:=if_pos (.inl h1)
  rw[e]
  clear h1 e
  go_enter Tryz.func71,Tryz.ntmps71
  (refine qw ?_;intros;rename_i hM)
  (refine qf ?_)
  exact⟨rfl,rfl⟩
 ·have q1:=Zt h1
  by_cases h2:n.data.toList=[]
  ·have q2:=Zn h2
   have e:Pt.join d n=d++n:=if_pos (.inr h2)
   rw[e]
   clear h1 h2 e
   go_enter Tryz.func71,Tryz.ntmps71
   (refine qw ?_;intros;rename_i hM)
   (refine qf ?_)
   exact⟨rfl,rfl⟩
  ·have q2:=Zt h2
   have e:Pt.join d n=d++Pt.slash++n:=if_neg (fun h=>h.elim h1 h2)
   rw[e]
   clear h1 h2 e
   go_enter Tryz.func71,Tryz.ntmps71
   (refine qw ?_;intros;rename_i hM)
   (refine qf ?_)
   exact⟨rfl,rfl⟩
def fldB(P:Program)(t:TypeId)(i off:Nat):Bool:=match P.underlying t with|some (.struct fs)=>(match fs[i]? with|some f=>f.offset==off&&oneB P f.type|none=>false)|_=>false
section
variable {P:Program}{K:Act→World→Prop}{a:Act}{w:World}{ops:Array Oper}{l:List (Oper×Nat)}{c:Nat}{o:Oper}{ty:TypeId}{x:Operand}{S:World→Prop}{i off:Nat}
theorem zhz(w:World)(hx:o.op= .field ty x i){cs:Array Value}(e1:a.eval x= .agg cs)(hB:fldB P ty i off=true){v:Value}(hv:cs[off]? =some v):(execOp a.eval o).run P w= .ok (.value v) w:=by
 unfold fldB at hB
 split at hB
 ·rename_i fs hu
  split at hB
  ·rename_i f hf
   simp only[Bool.and_eq_true,beq_iff_eq] at hB
   obtain⟨rfl,hB⟩:=hB
   obtain⟨d,u1,u2,u3⟩:=xY hB
   have hagg:(isAgg f.type).run P w= .ok false w:=by
    unfold isAgg
    rw[Sem.run_bind,run_underlying u1 w]
    cases d<;> simp_all
   have hr:(Instr.field ty (.agg cs) i).run P w= .ok v w:=by
    unfold Instr.field
    simp only[Sem.run_bind,Sem.run_pure,Result.andThen_ok,run_underlying hu w,hf,asAgg,part,hagg,Bool.false_eq_true,if_false,hv]
   unfold execOp
   simp only[hx,e1,Sem.run_bind,hr,Result.andThen_ok,Sem.run_pure]
  ·cases hB
 ·cases hB
theorem St.field(hx:o.op= .field ty x i)(hc:(c==0||c==2||c==3)=true)(hw:Region.wanted o (yielded ops a.tmps)=true){cs:Array Value}(e1:a.eval x= .agg cs)(hB:fldB P ty i off=true){v:Value}(hv:cs[off]? =some v)(h:zg P ops K S l (a.put o.dst v) w):zg P ops K S ((o,c)::l) a w:=
 St.soft hc hw (fun w=>zhz w hx e1 hB hv) h
end
def zN:Value:= .agg #[.int .i64 0,.bool false,.int .i64 0,.int .i64 0,.string ⟨#[]⟩,.slice none 0 0]
theorem zbp(w:World):(zeroValue 124).run Tryz.prog w= .ok zN w:=by kernel_rfl
end
section
open Go.RowKit Go.Maps
variable {N:Nat}{w:World}{x:FsX}{β:Int→Nat×Nat}
inductive Pick:List Ent→List Ent→Prop where
 |nil {L:List Ent}:Pick [] L
 |cons {x:Ent} {L L' M:List Ent} (h:Del L x L') (t:Pick M L'):Pick (x::M) L
theorem Pick.spec{M L:List Ent}(h:Pick M L)(hnd:(L.map (·.1)).Nodup):(∀ x∈M,x∈L)∧(M.map (·.1)).Nodup:=by
 induction h with
 |nil=>exact⟨nofun,lcHz⟩
 | @cons x L L' M hd _ ih=>
  obtain⟨h1,h2,h3⟩:=hd.mem
  obtain⟨g1,g2⟩:=h3 hnd
  obtain⟨i1,i2⟩:=ih g1
  refine⟨fun z hz=> ?_, ?_⟩
  ·rcases laBz.1 hz with rfl|hz
   ·exact h1
   ·exact h2 _ (i1 z hz)
  ·simp only[laDz,laTz]
   refine⟨fun hm=> ?_,i2⟩
   obtain⟨u,hu,e⟩:=laKz.1 hm
   exact g2 _ (i1 u hu) e
theorem St.pick{w0:World}{F:List Nat}{L M:List Ent}(h:St w0 F w L)(hp:Pick M L):St w0 F w M:=h.drop (hp.spec h.nd).1 (hp.spec h.nd).2
end
section
open Go.ChangeShapes Go.WideShapes Go.RowKit
theorem len9{cs:List Value}(h:cs.length=9): ∃ c0 c1 c2 c3 c4 c5 c6 c7 c8,cs=[c0,c1,c2,c3,c4,c5,c6,c7,c8]:=by
 match cs,h with
 |[c0,c1,c2,c3,c4,c5,c6,c7,c8],_=>exact⟨c0,c1,c2,c3,c4,c5,c6,c7,c8,rfl⟩
structure OpD.Fit (o:OpD):Prop where
 kind:Fits o.kind
 h:Fits o.h
 at_:Fits o.at_
 n:Fits o.n
 path:o.path.size≤maxLen
 dest:o.dest.size≤maxLen
 data:o.data.size≤maxLen
 pid:Fits o.pid
 birth:Fits o.birth
structure ActF where
 owner:Int
 exit:Bool
 op:OpD
def ActF.cells(a:ActF):List Value:= .int .i64 a.owner:: .bool a.exit::a.op.cells
structure ActF.Fit (a:ActF):Prop where
 owner:Fits a.owner
 op:a.op.Fit
def ROp9:Rep OpD:=fun _ _ cs x=>cs=x.cells∧x.Fit
theorem yH:Opens Tryz.prog 9 RStr:=zjn Tryz.underlying9
theorem zX:Opens Tryz.prog 3 (RInt .i64):=zdL Tryz.underlying3
theorem zkG:Tryz.prog.cellsOf 34=9:=by kernel_rfl
theorem zji:Opens Tryz.prog 34 ROp9:=⟨by
 intro H enc w sp held k B cs y h hp
 obtain⟨hl,hf⟩:=XQ Tryz.underlying34 h hp
 rw[zkG] at hl
 obtain⟨c0,c1,c2,c3,c4,c5,c6,c7,c8,rfl⟩:=len9 hl
 obtain⟨x0,h0⟩:=hf 0 _ rfl zX
 replace h0:(RInt .i64) w B (([c0,c1,c2,c3,c4,c5,c6,c7,c8].drop 0).take (Tryz.prog.cellsOf 3)) x0:=h0
 rw[show Tryz.prog.cellsOf 3=1 from by kernel_rfl] at h0
 replace h0:(RInt .i64) w B [c0] x0:=h0
 obtain⟨x1,h1⟩:=hf 1 _ rfl yH
 replace h1:RStr w B (([c0,c1,c2,c3,c4,c5,c6,c7,c8].drop 1).take (Tryz.prog.cellsOf 9)) x1:=h1
 rw[show Tryz.prog.cellsOf 9=1 from by kernel_rfl] at h1
 replace h1:RStr w B [c1] x1:=h1
 obtain⟨x2,h2⟩:=hf 2 _ rfl yH
 replace h2:RStr w B (([c0,c1,c2,c3,c4,c5,c6,c7,c8].drop 2).take (Tryz.prog.cellsOf 9)) x2:=h2
 rw[show Tryz.prog.cellsOf 9=1 from by kernel_rfl] at h2
 replace h2:RStr w B [c2] x2:=h2
 obtain⟨x3,h3⟩:=hf 3 _ rfl zX
 replace h3:(RInt .i64) w B (([c0,c1,c2,c3,c4,c5,c6,c7,c8].drop 3).take (Tryz.prog.cellsOf 3)) x3:=h3
 rw[show Tryz.prog.cellsOf 3=1 from by kernel_rfl] at h3
 replace h3:(RInt .i64) w B [c3] x3:=h3
 obtain⟨x4,h4⟩:=hf 4 _ rfl zX
 replace h4:(RInt .i64) w B (([c0,c1,c2,c3,c4,c5,c6,c7,c8].drop 4).take (Tryz.prog.cellsOf 3)) x4:=h4
 rw[show Tryz.prog.cellsOf 3=1 from by kernel_rfl] at h4
 replace h4:(RInt .i64) w B [c4] x4:=h4
 obtain⟨x5,h5⟩:=hf 5 _ rfl zX
 replace h5:(RInt .i64) w B (([c0,c1,c2,c3,c4,c5,c6,c7,c8].drop 5).take (Tryz.prog.cellsOf 3)) x5:=h5
 rw[show Tryz.prog.cellsOf 3=1 from by kernel_rfl] at h5
 replace h5:(RInt .i64) w B [c5] x5:=h5
 obtain⟨x6,h6⟩:=hf 6 _ rfl yH
 replace h6:RStr w B (([c0,c1,c2,c3,c4,c5,c6,c7,c8].drop 6).take (Tryz.prog.cellsOf 9)) x6:=h6
 rw[show Tryz.prog.cellsOf 9=1 from by kernel_rfl] at h6
 replace h6:RStr w B [c6] x6:=h6
 obtain⟨x7,h7⟩:=hf 7 _ rfl zX
 replace h7:(RInt .i64) w B (([c0,c1,c2,c3,c4,c5,c6,c7,c8].drop 7).take (Tryz.prog.cellsOf 3)) x7:=h7
 rw[show Tryz.prog.cellsOf 3=1 from by kernel_rfl] at h7
 replace h7:(RInt .i64) w B [c7] x7:=h7
 obtain⟨x8,h8⟩:=hf 8 _ rfl zX
 replace h8:(RInt .i64) w B (([c0,c1,c2,c3,c4,c5,c6,c7,c8].drop 8).take (Tryz.prog.cellsOf 3)) x8:=h8
 rw[show Tryz.prog.cellsOf 3=1 from by kernel_rfl] at h8
 replace h8:(RInt .i64) w B [c8] x8:=h8
 obtain⟨e0,b0⟩:=h0
 obtain⟨e1,b1⟩:=h1
 obtain⟨e2,b2⟩:=h2
 obtain⟨e3,b3⟩:=h3
 obtain⟨e4,b4⟩:=h4
 obtain⟨e5,b5⟩:=h5
 obtain⟨e6,b6⟩:=h6
 obtain⟨e7,b7⟩:=h7
 obtain⟨e8,b8⟩:=h8
 simp only[List.cons.injEq,and_true] at e0 e1 e2 e3 e4 e5 e6 e7 e8
 subst e0 e1 e2 e3 e4 e5 e6 e7 e8
 exact⟨⟨x0,x1,x2,x3,x4,x5,x6,x7,x8⟩,rfl,⟨b0,b3,b4,b5,b1,b2,b6,b7,b8⟩⟩⟩
def XM(w:World)(a:Option Addr)(n:Nat)(xs:List ActF):Prop:=
 n=xs.length∧n≤maxLen∧ ∀ k x,xs[k]? =some x→x.Fit∧ ∃ b off,a=some ⟨b,off,none⟩∧ ∀ j,j<11→w.cell? ⟨b,off+k*11+j,none⟩=x.cells[j]?
theorem XM.below{w w':World}{a:Option Addr}{n:Nat}{xs:List ActF}(h:XM w a n xs)(hb:Below w.heap.size w w'):XM w' a n xs:=by
 obtain⟨h1,h2,h3⟩:=h
 refine⟨h1,h2,fun k x hk=> ?_⟩
 obtain⟨hf,b,off,ha,hc⟩:=h3 k x hk
 refine⟨hf,b,off,ha,fun j hj=> ?_⟩
 have:=hc j hj
 have hlen:x.cells.length=11:=rfl
 have hs:x.cells[j]? =some x.cells[j]:=laRz (by omega)
 rw[hs] at this ⊢
 exact(hb.cell (p:=⟨b,off+k*11+j,none⟩) (World.block_lt_of_cell? w _ this)).trans this
end
section
open Go.Shelf
open Go.ChangeShapes Go.WideShapes Go.ChangeAt Go.RowKit
open Go.Lib hiding intOf
theorem band{a b:Bool}(ha:a=true)(hb:b=true):(a&&b)=true:=by rw[ha,hb];rfl
theorem zoT:ownKnob Tryz.prog.godebug=none:=by kernel_rfl
theorem zko:laidOutB Tryz.prog=true:=by kernel_rfl
abbrev zdu:List (String×DataW Unit):=[("unicode/utf8.acceptRanges",Rows.laid_unicode_utf8_acceptRanges),("unicode/utf8.first",Rows.laid_unicode_utf8_first)]
noncomputable def YX (os:Os):World:=
 let w0:=World.holding Tryz.prog os ⟨#[],#[],[]⟩
 let put (h:Array Obj) (g:Nat) (cs:Array Value):Array Obj:=h.modify g fun
  | .cells _ t frozen=> .cells cs t frozen
  |o=>o
 let h1:=put w0.heap 1 (Lib.firstTab.map fun z=>Value.int .u8 z).toArray
 let h2:=put h1 2 ((List.range 16).flatMap fun i=>[Value.int .u8 (Lib.accLo i),Value.int .u8 (Lib.accHi i)]).toArray
 {w0 with heap:=h2}
theorem zlu(os:Os)(args:Array Value):laidMet Tryz.prog zdu ((YX os).forCall (fun _ _=>0) ⟨#[],args,[]⟩).memory:=
 (LaidIn.of_run (l:=zdu) [2,1] 8 (by kernel_rfl) (by kernel_rfl) (by kernel_rfl) (by kernel_rfl)).met
theorem zpn{W:World}(hsh:W.ShapedOpen Tryz.prog):Mx W:=
 Go.Proofs.cell_of_shapedOpen_int (zero:= #[.int .i64 0]) (t:=3) hsh (of_decide_eq_true (by kernel_rfl)) (by kernel_rfl) rfl (by kernel_rfl) (by kernel_rfl) Tryz.underlying3
theorem XF{H:Type}{enc:TypeId×Value→H}{W:World}{t:TypeId}{v:Value}{d:DataW H}{ps:List MemPlace}(h:DataW.Trod enc Tryz.prog W 0 (fun _=>true) true t v d ps): ∀ x∈ps,x.block<W.heap.size:=by
 obtain⟨m,hm⟩:=h;exact DataW.trod_lt m _ _ _ hm
theorem zno{H:Type}{enc:TypeId×Value→H}{W:World}{t:TypeId}{v:Value}{d:DataW H}{ps:List MemPlace}{α:Type}{R:Rep α}(hR:Opens Tryz.prog t R)
  (h:DataW.Trod enc Tryz.prog W 0 (fun _=>true) true t v d ps) (hc:v.cells.toList=[v]): ∃ x,R W W.heap.size [v] x:=by
 have lt:=XF h
 obtain⟨fuel,hf⟩:=h
 rw[hc] at hf
 exact hR.out hf lt
end
section
open Go.ChangeShapes Go.WideShapes Go.RowKit
theorem zpi{cs:List Value}(h:cs.length=12): ∃ c0 c1 c2 c3 c4 c5 c6 c7 c8 c9 c10 c11,cs=[c0,c1,c2,c3,c4,c5,c6,c7,c8,c9,c10,c11]:=by
 match cs,h with
 |[c0,c1,c2,c3,c4,c5,c6,c7,c8,c9,c10,c11],_=>exact⟨c0,c1,c2,c3,c4,c5,c6,c7,c8,c9,c10,c11,rfl⟩
structure ActV where
 kind:Int
 pid:Int
 keep:Int
 op:OpD
def ActV.cells(a:ActV):List Value:= .int .i64 a.kind:: .int .i64 a.pid:: .int .i64 a.keep::a.op.cells
structure ActV.Fit (a:ActV):Prop where
 kind:Fits a.kind
 pid:Fits a.pid
 keep:Fits a.keep
 op:a.op.Fit
def zoV:Rep ActV:=fun _ _ cs x=>cs=x.cells∧x.Fit
def zly:Rep (List ActV):=znn 12 zoV
theorem zch:Tryz.prog.cellsOf 90=12:=by kernel_rfl
theorem zhD:Opens Tryz.prog 90 zoV:=⟨by
 intro H enc w sp held k B cs y h hp
 obtain⟨hl,hf⟩:=XQ Tryz.underlying90 h hp
 rw[zch] at hl
 obtain⟨c0,c1,c2,c3,c4,c5,c6,c7,c8,c9,c10,c11,rfl⟩:=zpi hl
 obtain⟨x0,h0⟩:=hf 0 _ rfl zX
 replace h0:(RInt .i64) w B (([c0,c1,c2,c3,c4,c5,c6,c7,c8,c9,c10,c11].drop 0).take (Tryz.prog.cellsOf 3)) x0:=h0
 rw[show Tryz.prog.cellsOf 3=1 from by kernel_rfl] at h0
 replace h0:(RInt .i64) w B [c0] x0:=h0
 obtain⟨x1,h1⟩:=hf 1 _ rfl zX
 replace h1:(RInt .i64) w B (([c0,c1,c2,c3,c4,c5,c6,c7,c8,c9,c10,c11].drop 1).take (Tryz.prog.cellsOf 3)) x1:=h1
 rw[show Tryz.prog.cellsOf 3=1 from by kernel_rfl] at h1
 replace h1:(RInt .i64) w B [c1] x1:=h1
 obtain⟨x2,h2⟩:=hf 2 _ rfl zX
 replace h2:(RInt .i64) w B (([c0,c1,c2,c3,c4,c5,c6,c7,c8,c9,c10,c11].drop 2).take (Tryz.prog.cellsOf 3)) x2:=h2
 rw[show Tryz.prog.cellsOf 3=1 from by kernel_rfl] at h2
 replace h2:(RInt .i64) w B [c2] x2:=h2
 obtain⟨x3,h3⟩:=hf 3 _ rfl zji
 replace h3:ROp9 w B (([c0,c1,c2,c3,c4,c5,c6,c7,c8,c9,c10,c11].drop 3).take (Tryz.prog.cellsOf 34)) x3:=h3
 rw[show Tryz.prog.cellsOf 34=9 from by kernel_rfl] at h3
 replace h3:ROp9 w B [c3,c4,c5,c6,c7,c8,c9,c10,c11] x3:=h3
 obtain⟨e0,b0⟩:=h0
 obtain⟨e1,b1⟩:=h1
 obtain⟨e2,b2⟩:=h2
 obtain⟨e3,b3⟩:=h3
 simp only[List.cons.injEq,and_true] at e0 e1 e2
 subst e0 e1 e2
 exact⟨⟨x0,x1,x2,x3⟩,congrArg (fun r=>Value.int .i64 x0::Value.int .i64 x1::Value.int .i64 x2::r) e3,⟨b0,b1,b2,b3⟩⟩⟩
theorem zeI:Opens Tryz.prog 84 zly:=zfk Tryz.underlying84 zch (by omega) zhD
def xF(w:World)(a:Option Addr)(n:Nat)(xs:List ActV):Prop:=
 n=xs.length∧n≤maxLen∧ ∀ k x,xs[k]? =some x→x.Fit∧ ∃ b off,a=some ⟨b,off,none⟩∧ ∀ j,j<12→w.cell? ⟨b,off+k*12+j,none⟩=x.cells[j]?
theorem zms{w:World}{B:Nat}{a:Option Addr}{n cap:Nat}{xs:List ActV}(h:zly w B [.slice a n cap] xs):xF w a n xs:=by
 obtain⟨a',cap',h1,h2,h3,h5,h4⟩:=h
 simp only[List.cons.injEq,Value.slice.injEq,and_true] at h1
 obtain⟨rfl,rfl,rfl⟩:=h1
 refine⟨rfl,by omega,fun k x hk=> ?_⟩
 have hp:0<xs.length:=by have:=(laHz.1 hk).1;omega
 obtain⟨b,off,rfl,hb,hx⟩:=h4 hp
 obtain⟨es,hl,hc,rfl,hs⟩:=hx k x hk
 exact⟨hs,b,off,rfl,hc⟩
theorem xF.below{w w':World}{a:Option Addr}{n:Nat}{xs:List ActV}(h:xF w a n xs)(hb:Below w.heap.size w w'):xF w' a n xs:=by
 obtain⟨h1,h2,h3⟩:=h
 refine⟨h1,h2,fun k x hk=> ?_⟩
 obtain⟨hf,b,off,ha,hc⟩:=h3 k x hk
 refine⟨hf,b,off,ha,fun j hj=> ?_⟩
 have:=hc j hj
 have hlen:x.cells.length=12:=rfl
 have hs:x.cells[j]? =some x.cells[j]:=laRz (by omega)
 rw[hs] at this ⊢
 exact(hb.cell (p:=⟨b,off+k*12+j,none⟩) (World.block_lt_of_cell? w _ this)).trans this
end
section
open Go.RowKit
section
theorem qWn{p q:Prop}(k:q)(h:Hd q→p:=by
  intro q1k
  first
   |((with_reducible refine qT ?_);first|((with_reducible refine qM ?_);(try clear q1r q1R))|refine qC ?_|refine qCat ?_|refine qI ?_|refine qP ?_|refine qId ?_|refine qId0 ?_|refine qL hM ?_|refine qL1 ?_|refine qLR hM ?_|refine qLS ?_|refine qF1 hM ?_|refine qF2 ?_|refine qF3 hM ?_|refine qF4 ?_|refine qO ?_)
   |refine ZI (fun q1K q1h=> ?_)|refine qX hM (fun q1R q1r=> ?_)|refine wp_block ?_|refine wp_skip ?_|refine wp_cond_true rfl ?_|refine wp_cond_false rfl ?_
   |(refine wp_exit ?_;simp only[Exit.then,Exit.inBlock,if_true,if_false,reduceCtorEq,Nat.reduceEqDiff,Nat.succ_ne_zero])|((refine q1h.out _ _ ?_);clear q1h q1K)|refine qE ?_|fail
  repeat(first
   |((with_reducible refine qT ?_);first|((with_reducible refine qM ?_);(try clear q1r q1R))|refine qC ?_|refine qCat ?_|refine qI ?_|refine qP ?_|refine qId ?_|refine qId0 ?_|refine qL hM ?_|refine qL1 ?_|refine qLR hM ?_|refine qLS ?_|refine qF1 hM ?_|refine qF2 ?_|refine qF3 hM ?_|refine qF4 ?_|refine qO ?_)
   |refine ZI (fun q1K q1h=> ?_)|refine qX hM (fun q1R q1r=> ?_)|refine wp_block ?_|refine wp_skip ?_|refine wp_cond_true rfl ?_|refine wp_cond_false rfl ?_
   |(refine wp_exit ?_;simp only[Exit.then,Exit.inBlock,if_true,if_false,reduceCtorEq,Nat.reduceEqDiff,Nat.succ_ne_zero])|((refine q1h.out _ _ ?_);clear q1h q1K)|refine qE ?_)
  have q1M:=hM
  (try clear hM)
  revert q1M
  (repeat revert q1R)
  (repeat revert q1K)
  exact q1k.out):p:=h ⟨k⟩
theorem qWo {p q : Prop} (k : q) (h : Hd q → p := by
    intro q1k
    first
      | ((with_reducible refine qT ?_); first | refine qC ?_ | refine qCat ?_ | refine qI ?_ | refine qP ?_ | refine qId ?_ | refine qId0 ?_ | refine qL hM ?_ | refine qL1 ?_ | refine qLR hM ?_ | refine qLS ?_ | refine qF1 hM ?_ | refine qF2 ?_ | refine qF3 hM ?_ | refine qF4 ?_ | refine qO ?_ | ((refine qU hM ?_); (try clear hM); intro q1w hM) | ((refine qV hM ?_); (try clear hM); intro q1w hM))
      | fail
    repeat (first
      | ((with_reducible refine qT ?_); first | refine qC ?_ | refine qCat ?_ | refine qI ?_ | refine qP ?_ | refine qId ?_ | refine qId0 ?_ | refine qL hM ?_ | refine qL1 ?_ | refine qLR hM ?_ | refine qLS ?_ | refine qF1 hM ?_ | refine qF2 ?_ | refine qF3 hM ?_ | refine qF4 ?_ | refine qO ?_ | ((refine qU hM ?_); (try clear hM); intro q1w hM) | ((refine qV hM ?_); (try clear hM); intro q1w hM))
     )
    have q1M := hM
    (try clear hM)
    revert q1M
    (repeat revert q1w)
    exact q1k.out) : p := h ⟨k⟩
end
end
section
open Go.RowKit
theorem zny{d:List (ByteArray×Int)}{j:Nat}{nm:ByteArray}{idv:Int}(h:d[j]? =some (nm,idv)):((entC d).drop (j*2)).take 2=[.string nm,.int .i64 idv]:=by
 induction d generalizing j with
 |nil=>simp at h
 |cons p r ih=>
  cases j with
  |zero=>
   rw[lbPz] at h
   cases h
   rfl
  |succ j=>
   rw[lbFz] at h
   have:=ih h
   rw[show(j+1)*2=j*2+2 by omega]
   exact this
theorem yN(d:List (ByteArray×Int)):(entC d).length=d.length*2:=by
 unfold entC
 induction d with
 |nil=>rfl
 |cons p r ih=>rw[laOz,laNz,ih,laPz];simp;omega
end
section
open Go.RowKit
section
variable {P:Program}{K:Act→World→Prop}{a:Act}{w:World}{ops:Array Oper}{l:List (Oper×Nat)}{c:Nat}{o:Oper}{ty:TypeId}{x y z:Operand}{S:World→Prop}{s:ByteArray}
theorem zit(w:World)(hx:o.op= .slice ty x (some y) (some z) none)(e1:a.eval x= .string s){i j:Nat}(e2:a.eval y= .int .i64 (i:Int))(e3:a.eval z= .int .i64 (j:Int))(ht:P.underlying ty=some .string)(hij:i≤j)(hj:j≤s.size):(execOp a.eval o).run P w= .ok (.value (.string (s.extract i j))) w:=by
 have h0:(0:Int)≤(i:Int):=Int.natCast_nonneg i
 have h1:(0:Int)≤(j:Int):=Int.natCast_nonneg j
 have h2:(i:Int)≤(j:Int):=by omega
 have h3:(j:Int)≤(s.size:Int):=by omega
 unfold execOp
 simp[hx,e1,e2,e3,Instr.sliceAt,Instr.slice,Instr.sliceBounds,Instr.sliceBound,asIntOf,Sem.run_bind,Sem.run_pure,run_underlying ht,h0,h1,hij,hj,Option.map]
theorem St.strSub(hx:o.op= .slice ty x (some y) (some z) none)(hc:(c==0||c==2||c==3)=true)(hw:Region.wanted o (yielded ops a.tmps)=true)(e1:a.eval x= .string s){i j:Nat}(e2:a.eval y= .int .i64 (i:Int))(e3:a.eval z= .int .i64 (j:Int))(ht:P.underlying ty=some .string)(hij:i≤j)(hj:j≤s.size)(h:zg P ops K S l (a.put o.dst (.string (s.extract i j))) w):zg P ops K S ((o,c)::l) a w:=
 St.soft hc hw (fun w=>zit w hx e1 e2 e3 ht hij hj) h
end
end
section
open Go.RowKit Go.Maps
structure RX where
 g:Nat
 s:Option (Nat×Nat)
def rE(x:RX)(q nx:Int)(n:Nat):Ent:=(x.g,true,.cells [.int .i64 q,.int .i64 nx,slV x.s n] 146)
abbrev nodL(s:Option (Nat×Nat))(zs:List NodV):List Ent:=slL s (zs.flatMap NodV.cells) 124 6
abbrev yV(s:Option (Nat×Nat))(zs:List NodV):Prop:=SlOK s zs.length (zs.flatMap NodV.cells) 6
def rL(x:RX)(q nx:Int)(zs:List NodV):List Ent:=rE x q nx zs.length::(nodL x.s zs++zs.flatMap NodV.ents).map zx
theorem At.flag{L:List Ent}{w:World}(h:At (L.map zx) w):At L w:=⟨fun x hx=>h.has (zx x) (laLz hx),by have:=h.nd;unfold ze at this ⊢;rw[lbZz] at this;exact this⟩
theorem Zp(L:List Ent):ze (L.map zx)=ze L:=by unfold ze;rw[lbZz];rfl
theorem NodV.len(z:NodV):z.cells.length=6:=rfl
theorem zcT: ∀ zs:List NodV,(zs.flatMap NodV.cells).length=zs.length*6
 |[]=>rfl
 |z::r=>by rw[laOz,laNz,zcT r,laPz,NodV.len];omega
theorem znS{zs:List NodV}{k:Nat}{z:NodV}(h:zs[k]? =some z):((zs.flatMap NodV.cells).drop (k*6)).take 6=z.cells:=by
 induction zs generalizing k with
 |nil=>simp at h
 |cons y r ih=>
  rw[laOz]
  cases k with
  |zero=>
   simp only[lbPz,Option.some.injEq] at h
   subst h
   rw[Nat.zero_mul,ldBz,lcXz (by rw[NodV.len];omega)]
   rfl
  |succ k=>
   rw[lbFz] at h
   rw[show(k+1)*6=y.cells.length+k*6 by rw[NodV.len];omega,List.drop_append,List.drop_of_length_le (by omega),Nat.add_sub_cancel_left,laJz]
   exact ih h
section
variable {w w' w0:World}{F:List Nat}{L:List Ent}{s:Option (Nat×Nat)}{zs:List NodV}{x:RX}{t:TabD}{N:Nat}{q nx:Int}
theorem zac{g cap:Nat}(hA:At (nodL (some (g,cap)) zs) w){k:Nat}{z:NodV}(hz:zs[k]? =some z):w.rangeAt g (k*6) z.cells:=by
 have hk:=(laHz.1 hz).1
 have:=Res.range (q:=k*6) (n:=6) (hA.has (g,true,.pre (zs.flatMap NodV.cells) 124 (cap*6)) (.head _)) (by show k*6+6≤(zs.flatMap NodV.cells).length;rw[zcT];omega)
 rw[show(Res.pre (zs.flatMap NodV.cells) 124 (cap*6)).known=zs.flatMap NodV.cells from rfl,znS hz] at this
 exact this
structure RRaw (x:RX) (q nx:Int) (zs:List NodV) (w:World):Prop where
 at_:At (rL x q nx zs) w
 sl:yV x.s zs
 names: ∀ z∈zs,SlOK z.2 z.1.names.length (entC z.1.names) 2
 len:zs.length≤1000000
theorem RRaw.below(h:RRaw x q nx zs w)(hb:Below w.heap.size w w'):RRaw x q nx zs w':=⟨h.at_.below hb,h.sl,h.names,h.len⟩
theorem RRaw.row(h:RRaw x q nx zs w):w.rangeAt x.g 0 [.int .i64 q,.int .i64 nx,slV x.s zs.length]:=Res.range (q:=0) (n:=3) (h.at_.has (rE x q nx zs.length) (by unfold rL;exact .head _)) (Nat.le_refl _)
theorem RRaw.both(h:RRaw x q nx zs w):At (nodL x.s zs++zs.flatMap NodV.ents) w:=At.flag (h.at_.sub (by unfold rL;exact List.sublist_cons_self _ _))
theorem RRaw.nod(h:RRaw x q nx zs w):At (nodL x.s zs) w:=h.both.sub (lbAz _ _)
theorem RRaw.ents(h:RRaw x q nx zs w):At (zs.flatMap NodV.ents) w:=h.both.sub (laFz _ _)
theorem RRaw.apart(h:RRaw x q nx zs w):x.g∉ze (nodL x.s zs++zs.flatMap NodV.ents):=by
 have:=h.at_.nd
 unfold rL at this
 rw[show ze (rE x q nx zs.length::(nodL x.s zs++zs.flatMap NodV.ents).map zx)=x.g::ze ((nodL x.s zs++zs.flatMap NodV.ents).map zx) from rfl,Zp] at this
 exact(laTz.1 this).1
theorem RRaw.set0(h:RRaw x q nx zs w):At (rE x q nx zs.length::nodL x.s zs) w:=by
 refine⟨fun y hy=> ?_, ?_⟩
 ·rcases laBz.1 hy with rfl|hy
  ·exact h.at_.has _ (by unfold rL;exact .head _)
  ·exact h.nod.has y hy
 ·show(x.g::ze (nodL x.s zs)).Nodup
  refine laTz.2 ⟨fun hm=>h.apart ?_,h.nod.nd⟩
  unfold ze at hm ⊢
  rw[laMz]
  exact laEz _ hm
theorem yV.some{k:Nat}(h:yV s zs)(hk:k<zs.length): ∃ g cap,s=some (g,cap)∧ ∃ c,slV s zs.length= .slice (some ⟨g,0,none⟩) zs.length c:=by
 rcases s with _|⟨g,cap⟩
 ·have:=h.2
  simp only at this
  omega
 ·exact⟨g,cap,rfl,_,rfl⟩
def nodZ:Value:= .agg #[.int .i64 0,.bool false,.int .i64 0,.int .i64 0,.string ⟨#[]⟩,.slice none 0 0]
theorem zaa(h:RRaw x q nx zs w0)(id:Int):An 182 #[.pointer (some ⟨x.g,0,none⟩),.int .i64 id] w0 (match zs.find? (fun z=>z.1.id==id) with|some z=> .tuple #[.agg z.cells.toArray,.bool true]|none=> .tuple #[nodZ,.bool false]):=by
 have hM:=St.start w0 []
 have HR:=qh h
 have hrow:=h.row
 have hln:=h.len
 have hsl:=h.sl
 have hnd:=h.nod
 have HNM:=qh h.names
 clear h
 obtain⟨xg,xs⟩:=x
 simp only at hrow hsl hnd ⊢
 obtain⟨v0,hv0⟩: ∃ v,v=(match zs.find? (fun z=>z.1.id==id) with|some z=>Value.tuple #[.agg z.cells.toArray,.bool true]|none=> .tuple #[nodZ,.bool false]):=⟨_,rfl⟩
 rw[←hv0]
 have HV:=qh hv0
 clear hv0
 obtain⟨va,vc,hv,hva⟩:=zf hsl
 rw[hv] at hrow
 have c2:w0.cell? ⟨xg,2,none⟩=some (.slice va zs.length vc):=hrow 2 _ rfl
 have HN:=qh hnd
 have HS:=qh hsl
 clear hrow hnd hsl hv
 go_enter Tryz.func182,Tryz.ntmps182
 (repeat(first|(refine qW ?_;intros;rename_i hM)|(refine qMk ?_;clear hM;intro w bk hM)))
 go_loopw [6] (fun i wr=> ∃ k:Nat,k≤zs.length∧i= .int .i64 k∧Hid (zs.find? (fun z=>z.1.id==id)=(zs.drop k).find? (fun z=>z.1.id==id))∧St w0 [] wr [(bk,true,Res.cells [.int .i64 0,.bool false,.int .i64 0,.int .i64 0,.string ⟨#[]⟩,.slice none 0 0] 124)]) (fun i _=>zs.length - (intOf i).toNat)
 case atStart=>exact⟨0,by omega,rfl,qh rfl,hM⟩
 case round=>
  clear hM
  obtain⟨k,hk,rfl,HF,hM⟩:=hrel
  by_cases hlt:k<zs.length
  ·obtain⟨z,hz⟩:=zK hlt
   have k1:(k:Int)<(zs.length:Int):=by omega
   rcases xs with _|⟨g1,cap1⟩
   ·exact absurd HS.out.2 (by omega)
   obtain⟨rfl,rfl⟩:=hva g1 cap1 rfl
   have r1:=zac HN.out hz
   have hd:zs.drop k=z::zs.drop (k+1):=by rw[lbIz hlt,(laHz.1 hz).2]
   have HF':=HF.out
   rw[hd,lbGz] at HF'
   have c0:w0.cell? ⟨g1,k*6,none⟩=some (.int .i64 z.1.id):=r1 0 _ rfl
   obtain⟨za,zc,hzv,-⟩:=zf (HNM.out z (laQz hz))
   unfold NodV.cells at r1
   rw[hzv] at r1
   have HZV:=qh hzv
   clear hz hd HF hzv
   by_cases he:z.1.id=id
   ·have q1:(z.1.id==id)=true:=beq_iff_eq.2 he
    rw[q1] at HF'
    have HFF:=qh HF'
    clear HF' he
    (repeat(first|(refine qW ?_;intros;rename_i hM)|(refine qMk ?_;clear hM;intro w bk hM)))
    (refine qf ?_)
    refine⟨?_,hM.to_below⟩
    rw[HV.out,HFF.out]
    show _=Ending.returned (.tuple #[.agg z.cells.toArray,.bool true])
    unfold NodV.cells
    rw[HZV.out]
    rfl
   ·have q1:(z.1.id==id)=false:=qne.2 he
    rw[q1] at HF'
    have HFF:=qh HF'
    clear HF' he
    (repeat(first|(refine qW ?_;intros;rename_i hM)|(refine qMk ?_;clear hM;intro w bk hM)))
    (try simp only[Exit.then])
    (refine⟨?_,qio⟩;repeat(first|exact⟨⟨k+1,by omega,rfl,HFF,hM⟩,rfl⟩|apply Exists.intro))
  ·have k0:¬((k:Int)<(zs.length:Int)):=by omega
   obtain rfl:k=zs.length:=by omega
   have HF':=HF.out
   rw[lcPz,List.find?_nil] at HF'
   have HFF:=qh HF'
   clear hlt hk HF HF'
   (repeat(first|(refine qW ?_;intros;rename_i hM)|(refine qMk ?_;clear hM;intro w bk hM)))
   (refine qf ?_)
   refine⟨?_,hM.to_below⟩
   rw[HV.out,HFF.out]
   rfl
def rset(zs:List NodV)(z0:NodV):List NodV:=zs.flatMap fun z=>if z.1.id=z0.1.id then(if 0<z0.1.links∨0<z0.1.holds then [z0] else []) else [z]
theorem zjC{zs:List NodV}{z0 z:NodV}{k:Nat}(h:zs[k]? =some z):rset (zs.take (k+1)) z0=rset (zs.take k) z0++(if z.1.id=z0.1.id then(if 0<z0.1.links∨0<z0.1.holds then [z0] else []) else [z]):=by
 unfold rset
 rw[lbJz,h,Option.toList_some,laWz,lbUz]
theorem Xd(ys:List NodV)(z:NodV):ys.flatMap NodV.cells++z.cells=(ys++[z]).flatMap NodV.cells:=by rw[laWz,lbUz]
theorem zmP{xg:Nat}{xs:Option (Nat×Nat)}(hA:At (rE ⟨xg,xs⟩ q nx zs.length::nodL xs zs) w0)(hsl:yV xs zs)(hnm: ∀ z∈zs,SlOK z.2 z.1.names.length (entC z.1.names) 2)(hl:zs.length≤1000000)(z0:NodV)(hz0:SlOK z0.2 z0.1.names.length (entC z0.1.names) 2):
  Calls Tryz.prog 185 #[.pointer (some ⟨xg,0,none⟩),.agg z0.cells.toArray] w0 fun e w'=>e= .returned (.tuple #[])∧ ∃ s',yV s' (rset zs z0)∧St w0 [xg] w' (rE ⟨xg,s'⟩ q nx (rset zs z0).length::nodL s' (rset zs z0)):=by
 have hM:St w0 [xg] w0 [rE ⟨xg,xs⟩ q nx zs.length]:=(hA.sub (M:=[rE ⟨xg,xs⟩ q nx zs.length]) (by simp)).st
 have HN:=qh (hA.sub (M:=nodL xs zs) (by simp))
 have HS:=qh hsl
 have HNM:=qh hnm
 have HG:=qh (fun (g cap:Nat) (h:xs=some (g,cap))=>(show g∉[xg] from fun hm=>by
  rcases laGz.1 hm with rfl
  subst h
  have:=hA.nd
  simp[ze,rE,slL] at this))
 obtain⟨va,vc,hv,hva⟩:=zf hsl
 obtain⟨wa,wc,hwv,-⟩:=zf hz0
 unfold rE at hM
 simp only at hM
 rw[hv] at hM
 clear hA hsl hnm hv hz0
 obtain⟨⟨zi,zd,zl,zh,zb,zn⟩,zp⟩:=z0
 unfold NodV.cells
 simp only at hwv ⊢
 rw[hwv]
 go_enter Tryz.func185,Tryz.ntmps185
 (repeat(first|(refine qW ?_;intros;rename_i hM)|(refine qMk ?_;clear hM;intro w bk hM)))
 go_loopw [4,5] (fun o i wr=> ∃ (k:Nat) (s':Option (Nat×Nat)) (ys:List NodV),k≤zs.length∧o=slV s' ys.length∧i= .int .i64 k∧ys.length≤k∧Hid (ys=rset (zs.take k) (⟨zi,zd,zl,zh,zb,zn⟩,zp))∧yV s' ys∧St w0 [xg] wr ((bk,true,Res.cells [.int .i64 zi,.bool zd,.int .i64 zl,.int .i64 zh,.string zb,.slice wa zn.length wc] 124)::(xg,true,Res.cells [.int .i64 q,.int .i64 nx,.slice va zs.length vc] 146)::nodL s' ys)) (fun _ i _=>zs.length - (intOf i).toNat)
 case atStart=>exact⟨0,none,[],by omega,rfl,rfl,Nat.le_refl _,qh rfl,⟨rfl,rfl⟩,hM⟩
 case round=>
  clear hM
  obtain⟨k,s',ys,hk,rfl,rfl,hyk,HY,hok,hM⟩:=hrel
  have HOK:=qh hok
  clear hok
  obtain⟨ua,uc,hu,-⟩:=zf HOK.out
  by_cases hlt:k<zs.length
  ·obtain⟨z,hz⟩:=zK hlt
   have k1:(k:Int)<(zs.length:Int):=by omega
   rcases xs with _|⟨g1,cap1⟩
   ·exact absurd HS.out.2 (by omega)
   have hgn:g1∉[xg]:=HG.out g1 cap1 rfl
   obtain⟨rfl,rfl⟩:=hva g1 cap1 rfl
   have r1:=zac HN.out hz
   obtain⟨za,zc,hzv,-⟩:=zf (HNM.out z (laQz hz))
   have HSt:=qh (zjC (z0:=(⟨zi,zd,zl,zh,zb,zn⟩,zp)) hz)
   unfold NodV.cells at r1
   rw[hzv] at r1
   have c0:w0.cell? ⟨g1,k*6,none⟩=some (.int .i64 z.1.id):=r1 0 _ rfl
   have HZV:=qh hzv
   clear hz hzv
   have HS':=HSt.out
   simp only at HS'
   by_cases he:z.1.id=zi
   ·have q1:(z.1.id != zi)=false:=by rw[he];simp
    rw[if_pos he] at HS'
    by_cases hz1:0<zl∨0<zh
    ·rw[if_pos hz1] at HS'
     have HN':=qh (show ys++[((⟨zi,zd,zl,zh,zb,zn⟩,zp):NodV)]=rset (zs.take (k+1)) (⟨zi,zd,zl,zh,zb,zn⟩,zp) from by rw[HS',HY.out])
     clear HS' HSt he HY HZV
     rw[hu]
     by_cases hz2:0<zl
     ·clear hz1
      (repeat(first|(refine qW ?_;intros;rename_i hM)|(refine qMk ?_;clear hM;intro w bk hM)))
      rw[←hu]
      refine St.append (s:=s') (n:=ys.length) (xs:=ys.flatMap NodV.cells) rfl hM rfl rfl rfl rfl rfl (by kernel_rfl) qsf HOK.out rfl (hM.news qm) rfl (by rw[zj];omega) (by omega) (fun h=>by cases h) ?_
      clear hM;intro w s2 hM hk' hs'
      have e1:ys.flatMap NodV.cells++[.int .i64 zi,.bool zd,.int .i64 zl,.int .i64 zh,.string zb,.slice wa zn.length wc]=(ys++[((⟨zi,zd,zl,zh,zb,zn⟩,zp):NodV)]).flatMap NodV.cells:=by
       rw[←Xd]
       rw[←hwv];rfl
      have e2:ys.length+1=(ys++[((⟨zi,zd,zl,zh,zb,zn⟩,zp):NodV)]).length:=by simp
      simp only[Res.known] at hM hk'
      rw[e1] at hM hk'
      rw[e2] at hk'
      rw[e2]
      have HK':=qh hk'
      clear hk' hs' HOK
      have hyl:(ys++[((⟨zi,zd,zl,zh,zb,zn⟩,zp):NodV)]).length≤k+1:=by rw[laNz,lbQz];omega
      obtain⟨ub,ud,hu2,-⟩:=zf HK'.out
      rw[hu2]
      (refine qq ?_)
      (repeat(first|(refine qW ?_;intros;rename_i hM)|(refine qMk ?_;clear hM;intro w bk hM)))
      replace hM:=hM.forget
      (try simp only[Exit.then])
      rw[←hu2]
      (refine⟨?_,qio⟩;repeat(first|exact⟨⟨k+1,s2,ys++[((⟨zi,zd,zl,zh,zb,zn⟩,zp):NodV)],by omega,rfl,rfl,hyl,HN',HK'.out,hM⟩,rfl⟩|apply Exists.intro))
     ·have hz3:0<zh:=hz1.resolve_left hz2
      clear hz1
      (repeat(first|(refine qW ?_;intros;rename_i hM)|(refine qMk ?_;clear hM;intro w bk hM)))
      rw[←hu]
      refine St.append (s:=s') (n:=ys.length) (xs:=ys.flatMap NodV.cells) rfl hM rfl rfl rfl rfl rfl (by kernel_rfl) qsf HOK.out rfl (hM.news qm) rfl (by rw[zj];omega) (by omega) (fun h=>by cases h) ?_
      clear hM;intro w s2 hM hk' hs'
      have e1:ys.flatMap NodV.cells++[.int .i64 zi,.bool zd,.int .i64 zl,.int .i64 zh,.string zb,.slice wa zn.length wc]=(ys++[((⟨zi,zd,zl,zh,zb,zn⟩,zp):NodV)]).flatMap NodV.cells:=by
       rw[←Xd]
       rw[←hwv];rfl
      have e2:ys.length+1=(ys++[((⟨zi,zd,zl,zh,zb,zn⟩,zp):NodV)]).length:=by simp
      simp only[Res.known] at hM hk'
      rw[e1] at hM hk'
      rw[e2] at hk'
      rw[e2]
      have HK':=qh hk'
      clear hk' hs' HOK
      have hyl:(ys++[((⟨zi,zd,zl,zh,zb,zn⟩,zp):NodV)]).length≤k+1:=by rw[laNz,lbQz];omega
      obtain⟨ub,ud,hu2,-⟩:=zf HK'.out
      rw[hu2]
      (refine qq ?_)
      (repeat(first|(refine qW ?_;intros;rename_i hM)|(refine qMk ?_;clear hM;intro w bk hM)))
      replace hM:=hM.forget
      (try simp only[Exit.then])
      rw[←hu2]
      (refine⟨?_,qio⟩;repeat(first|exact⟨⟨k+1,s2,ys++[((⟨zi,zd,zl,zh,zb,zn⟩,zp):NodV)],by omega,rfl,rfl,hyl,HN',HK'.out,hM⟩,rfl⟩|apply Exists.intro))
    ·rw[if_neg hz1] at HS'
     have hz2:¬0<zl:=fun h=>hz1 (.inl h)
     have hz3:¬0<zh:=fun h=>hz1 (.inr h)
     have HN':=qh (show ys=rset (zs.take (k+1)) (⟨zi,zd,zl,zh,zb,zn⟩,zp) from by rw[HS',laYz,HY.out])
     clear HS' HSt he HY HZV hz1
     rw[hu]
     (repeat(first|(refine qW ?_;intros;rename_i hM)|(refine qMk ?_;clear hM;intro w bk hM)))
     (try simp only[Exit.then])
     rw[←hu]
     (refine⟨?_,qio⟩;repeat(first|exact⟨⟨k+1,s',ys,by omega,rfl,rfl,by omega,HN',HOK.out,hM⟩,rfl⟩|apply Exists.intro))
   ·have q1:(z.1.id != zi)=true:=bne_iff_ne.2 he
    rw[if_neg he] at HS'
    have HN':=qh (show ys++[z]=rset (zs.take (k+1)) (⟨zi,zd,zl,zh,zb,zn⟩,zp) from by rw[HS',HY.out])
    clear HS' HSt he HY
    rw[hu]
    (repeat(first|(refine qW ?_;intros;rename_i hM)|(refine qMk ?_;clear hM;intro w bk hM)))
    rw[←hu]
    refine St.append (s:=s') (n:=ys.length) (xs:=ys.flatMap NodV.cells) rfl hM rfl rfl rfl rfl rfl (by kernel_rfl) qsf HOK.out rfl (hM.news qm) rfl (by rw[zj];omega) (by omega) (fun h=>by cases h) ?_
    clear hM;intro w s2 hM hk' hs'
    have e1:ys.flatMap NodV.cells++[.int .i64 z.1.id,.bool z.1.dir,.int .i64 z.1.links,.int .i64 z.1.holds,.string z.1.data,.slice za z.1.names.length zc]=(ys++[z]).flatMap NodV.cells:=by
     rw[←Xd]
     unfold NodV.cells;rw[HZV.out]
    have e2:ys.length+1=(ys++[z]).length:=by simp
    simp only[Res.known] at hM hk'
    rw[e1] at hM hk'
    rw[e2] at hk'
    rw[e2]
    have HK':=qh hk'
    clear hk' hs' HOK
    have hyl:(ys++[z]).length≤k+1:=by rw[laNz,lbQz];omega
    obtain⟨ub,ud,hu2,-⟩:=zf HK'.out
    rw[hu2]
    (refine qq ?_)
    (repeat(first|(refine qW ?_;intros;rename_i hM)|(refine qMk ?_;clear hM;intro w bk hM)))
    replace hM:=hM.forget
    (try simp only[Exit.then])
    rw[←hu2]
    (refine⟨?_,qio⟩;repeat(first|exact⟨⟨k+1,s2,ys++[z],by omega,rfl,rfl,hyl,HN',HK'.out,hM⟩,rfl⟩|apply Exists.intro))
  ·have k0:¬((k:Int)<(zs.length:Int)):=by omega
   obtain rfl:k=zs.length:=by omega
   have HY2:=HY.out
   rw[lbSz] at HY2
   have HZ:=qh HY2
   clear hlt hk HY HY2
   rw[hu]
   (repeat(first|(refine qW ?_;intros;rename_i hM)|(refine qMk ?_;clear hM;intro w bk hM)))
   (refine qf ?_)
   rw[←HZ.out]
   rw[←hu] at hM
   exact⟨rfl,s',HOK.out,hM.forget⟩
end
end
section
open Go.RowKit Go.Maps
theorem Only.has{w0 w:World}{F:List Nat}{L:List Ent}(h:Only F w0 w)(hL:Has L w0)(hF: ∀ k∈ze L,k∉F):Has L w:=fun x hx=>by
 rw[h.block x.1 (hL.lt hx) (hF _ (laLz hx))]
 exact hL x hx
theorem zF(A B:List Ent):ze (A++B)=ze A++ze B:=by unfold ze;rw[laMz]
theorem St.join{w0 w:World}{F:List Nat}{L E:List Ent}(h:St w0 F w L)(hE:At E w0)(hF: ∀ k∈ze E,k∉F)(hL:zO L):St w0 F w (L++E.map zx):=by
 have hh:=h.only.has hE.has hF
 refine⟨h.only,fun y hy=> ?_, ?_,fun y hy h1=> ?_⟩
 ·rcases laAz.1 hy with hy|hy
  ·exact h.holds y hy
  ·obtain⟨z,hz,rfl⟩:=laKz.1 hy
   exact hh z hz
 ·show(ze (L++E.map zx)).Nodup
  rw[zF,Zp]
  refine laSz.2 ⟨h.nd,hE.nd,fun a ha b hb hab=> ?_⟩
  subst hab
  obtain⟨y,hy,rfl⟩:=laKz.1 ha
  rcases h.own y hy (hL y hy) with h1|h1
  ·exact hF _ hb h1
  ·have:=hE.lt _ hb
   omega
 ·rcases laAz.1 hy with hy|hy
  ·exact h.own y hy h1
  ·obtain⟨z,-,rfl⟩:=laKz.1 hy
   cases h1
def Grow(w:World)(K K':List Nat):Prop:= ∀ k∈K',k∈K∨w.heap.size≤k
theorem Grow.trans{w w':World}{K K' K2:List Nat}(h:Grow w K K')(h':Grow w' K' K2)(hs:w.heap.size≤w'.heap.size):Grow w K K2:=fun k hk=>by
 rcases h' k hk with h1|h1
 ·exact h k h1
 ·exact .inr (Nat.le_trans hs h1)
theorem Grow.refl(w:World)(K:List Nat):Grow w K K:=fun _ h=> .inl h
abbrev Ids(zs:List NodV):Prop:=zs.Pairwise fun a b=>a.1.id≠b.1.id
theorem yU{zs:List NodV}{z0 y:NodV}(h:y∈rset zs z0):y=z0∨(y∈zs∧y.1.id≠z0.1.id):=by
 unfold rset at h
 obtain⟨z,hz,hy⟩:=laZz.1 h
 by_cases he:z.1.id=z0.1.id
 ·rw[if_pos he] at hy
  split at hy
  ·exact .inl (laGz.1 hy)
  ·cases hy
 ·rw[if_neg he] at hy
  rcases laGz.1 hy with rfl
  exact .inr ⟨hz,he⟩
theorem znj(z0 z:NodV):(if z.1.id=z0.1.id then(if 0<z0.1.links∨0<z0.1.holds then [z0] else []) else [z]).length≤1:=by
 split
 ·split
  ·exact Nat.le_refl _
  ·exact Nat.zero_le _
 ·exact Nat.le_refl _
theorem zaf(z0:NodV): ∀ zs:List NodV,(rset zs z0).length≤zs.length
 |[]=>Nat.le_refl _
 |z::r=>by
  have:=zaf z0 r
  have h1:=znj z0 z
  unfold rset at this ⊢
  rw[laOz,laNz,laPz]
  omega
theorem zcL{z0:NodV}: ∀ {zs:List NodV},(∀ z∈zs,z.1.id≠z0.1.id)→rset zs z0=zs
 |[],_=>rfl
 |z::r,h=>by
  have:=zcL (zs:=r) fun y hy=>h y (.tail _ hy)
  unfold rset at this ⊢
  rw[laOz,if_neg (h z (.head _)),this]
  rfl
theorem zpa(s:Option (Nat×Nat))(xs:List Value)(e:TypeId)(size:Nat):(ze (slL s xs e size)).Nodup:=by
 rcases s with _|⟨g,c⟩
 ·exact lcHz
 ·exact laTz.2 ⟨nofun,lcHz⟩
theorem zai{zs:List NodV}{k:Nat}(h:k∈ze (zs.flatMap NodV.ents)): ∃ z∈zs,k∈ze z.ents:=by
 obtain⟨y,hy,rfl⟩:=laKz.1 h
 obtain⟨z,hz,hy⟩:=laZz.1 hy
 exact⟨z,hz,laLz hy⟩
theorem yK{zs:List NodV}{k:Nat}{z:NodV}(hz:z∈zs)(h:k∈ze z.ents):k∈ze (zs.flatMap NodV.ents):=by
 obtain⟨y,hy,rfl⟩:=laKz.1 h
 exact laLz (laZz.2 ⟨z,hz,hy⟩)
theorem zjG{z0:NodV}: ∀ {zs:List NodV},(ze (zs.flatMap NodV.ents)).Nodup→Ids zs→(∀ z∈zs,z.1.id≠z0.1.id→ ∀ k∈ze z.ents,k∉ze z0.ents)→(ze ((rset zs z0).flatMap NodV.ents)).Nodup
 |[],_,_,_=>lcHz
 |z::r,h1,h2,h3=>by
  rw[laOz,zF] at h1
  obtain⟨a1,a2,a3⟩:=laSz.1 h1
  obtain⟨b1,b2⟩:=laVz.1 h2
  have ih:=zjG (z0:=z0) a2 b2 fun y hy=>h3 y (.tail _ hy)
  by_cases he:z.1.id=z0.1.id
  ·have hr:rset (z::r) z0=(if 0<z0.1.links∨0<z0.1.holds then [z0] else [])++r:=by
    have:=zcL (z0:=z0) (zs:=r) fun y hy e=>b1 y hy (he.trans e.symm)
    unfold rset at this ⊢
    rw[laOz,this,if_pos he]
   rw[hr]
   split
   ·rw[laIz,laJz,laOz,zF]
    refine laSz.2 ⟨zpa _ _ _ _,a2,fun a ha b hb hab=> ?_⟩
    subst hab
    obtain⟨y,hy,hk⟩:=zai hb
    exact h3 y (.tail _ hy) (fun e=>b1 y hy (he.trans e.symm)) _ hk ha
   ·exact a2
  ·have hr:rset (z::r) z0=z::rset r z0:=by
    unfold rset
    rw[laOz,if_neg he]
    rfl
   rw[hr,laOz,zF]
   refine laSz.2 ⟨a1,ih,fun a ha b hb hab=> ?_⟩
   subst hab
   obtain⟨y,hy,hk⟩:=zai hb
   rcases yU hy with rfl|⟨hy,-⟩
   ·exact h3 z (.head _) he _ ha hk
   ·exact a3 _ ha _ (yK hy hk) rfl
theorem zcs(z0:NodV): ∀ zs:List NodV,(rset zs z0).map (·.1)=if 0<z0.1.links∨0<z0.1.holds then In.set (zs.map (·.1)) z0.1 else In.del (zs.map (·.1)) z0.1.id
 |[]=>by split<;> rfl
 |z::r=>by
  have ih:=zcs z0 r
  unfold rset In.set In.del at ih ⊢
  rw[laOz,laMz,ih]
  by_cases he:z.1.id=z0.1.id
  ·have q:(z.1.id==z0.1.id)=true:=beq_iff_eq.2 he
   rw[if_pos he]
   by_cases ha:0<z0.1.links∨0<z0.1.holds
   ·rw[if_pos ha,if_pos ha,if_pos ha]
    simp[he]
   ·rw[if_neg ha,if_neg ha,if_neg ha]
    simp[q]
  ·have q:(z.1.id==z0.1.id)=false:=qne.2 he
   rw[if_neg he]
   by_cases ha:0<z0.1.links∨0<z0.1.holds
   ·rw[if_pos ha,if_pos ha]
    simp[he]
   ·rw[if_neg ha,if_neg ha]
    simp[q]
section
variable {w w' w0:World}{zs:List NodV}{x:RX}{q nx:Int}
structure RTo (g:Nat) (s:Option (Nat×Nat)) (q nx:Int) (zs:List NodV) (K:List Nat) (w0 w':World):Prop where
 raw:RRaw ⟨g,s⟩ q nx zs w'
 st:St w0 [g] w' (rL ⟨g,s⟩ q nx zs)
 grow:Grow w0 K (ze (rL ⟨g,s⟩ q nx zs))
end
end
section
open Go.RowKit Go.Maps
section
variable {w w' w0:World}{zs:List NodV}{x:RX}{q nx:Int}
theorem znd{zs:List NodV}{k:Nat}{z:NodV}(h:zs[k]? =some z):In.sum ((zs.take (k+1)).map (·.1))=In.sum ((zs.take k).map (·.1))+(64+z.1.data.size):=by
 unfold In.sum In.cost
 rw[lbJz,h,Option.toList_some,laMz,laMz,ldUz]
 simp
theorem zew: ∀ {zs:List NodV},(∀ z∈zs,z.1.data.size≤1048576)→In.sum (zs.map (·.1))≤zs.length*1048640
 |[],_=>Nat.le_refl _
 |z::r,h=>by
  have:=zew (zs:=r) fun y hy=>h y (.tail _ hy)
  have h1:=h z (.head _)
  unfold In.sum In.cost at this ⊢
  rw[laDz,laDz,lcCz,laPz]
  omega
theorem zal(h:RRaw x q nx zs w0)(hd: ∀ z∈zs,z.1.data.size≤1048576):An 40 #[.pointer (some ⟨x.g,0,none⟩)] w0 (.int .i64 (In.sum (zs.map (·.1)):Nat)):=by
 have hM:=St.start w0 []
 have hrow:=h.row
 have hln:=h.len
 have hsl:=h.sl
 have hnd:=h.nod
 have HNM:=qh h.names
 have HD:=qh hd
 clear h hd
 obtain⟨xg,xs⟩:=x
 simp only at hrow hsl hnd ⊢
 obtain⟨va,vc,hv,hva⟩:=zf hsl
 rw[hv] at hrow
 have c2:w0.cell? ⟨xg,2,none⟩=some (.slice va zs.length vc):=hrow 2 _ rfl
 have HN:=qh hnd
 have HS:=qh hsl
 clear hrow hnd hsl hv
 go_enter Tryz.func40,Tryz.ntmps40
 (refine qw ?_;intros;rename_i hM)
 go_loopw [3,4] (fun n i wr=> ∃ k:Nat,k≤zs.length∧i= .int .i64 k∧n= .int .i64 (In.sum ((zs.take k).map (·.1)):Nat)∧St w0 [] wr []) (fun _ i _=>zs.length - (intOf i).toNat)
 case atStart=>exact⟨0,by omega,rfl,rfl,hM⟩
 case round=>
  clear hM
  obtain⟨k,hk,rfl,rfl,hM⟩:=hrel
  by_cases hlt:k<zs.length
  ·obtain⟨z,hz⟩:=zK hlt
   have k1:(k:Int)<(zs.length:Int):=by omega
   rcases xs with _|⟨g1,cap1⟩
   ·exact absurd HS.out.2 (by omega)
   obtain⟨rfl,rfl⟩:=hva g1 cap1 rfl
   have r1:=zac HN.out hz
   unfold NodV.cells at r1
   have c4:w0.cell? ⟨g1,k*6+4,none⟩=some (.string z.1.data):=r1 4 _ rfl
   have HSM:=qh (znd hz)
   have b1:=zew (zs:=zs.take k) fun y hy=>HD.out y (List.take_subset _ _ hy)
   rw[lbTz] at b1
   have b2:=HD.out z (laQz hz)
   clear hz r1
   generalize In.sum ((zs.take k).map (·.1))=S at*
   have HSV:=qh (show IntKind.i64.wrap (IntKind.i64.wrap ((S:Int)+64)+(z.1.data.size:Int))=((In.sum ((zs.take (k+1)).map (·.1)):Nat):Int) from by
    rw[HSM.out,Za ((S:Int)+64) (by omega),Za _ (by omega)]
    omega)
   clear HSM
   (refine qw ?_;intros;rename_i hM)
   (try simp only[Exit.then])
   (refine⟨?_,qio⟩;repeat(first|exact⟨⟨k+1,by omega,rfl,by rw[HSV.out],hM⟩,rfl⟩|apply Exists.intro))
  ·have k0:¬((k:Int)<(zs.length:Int)):=by omega
   obtain rfl:k=zs.length:=by omega
   rw[lbSz]
   clear hlt hk
   exact qwf
end
end
section
open Go.RowKit Go.Maps
section
variable {w w' w0:World}{zs:List NodV}{x:RX}{q nx:Int}
def badN(c:UInt8):Bool:=c==0||c==47
theorem xa{s:ByteArray}(h:s.data.toList.any badN=true):In.isName s=false:=by
 unfold In.isName
 rw[show(s.data.toList.any fun c=>c==0||c==47)=true from h]
 simp
theorem zaQ{s:ByteArray}(h:s.data.toList.any badN=false):In.isName s=(decide (1≤s.size)&&decide (s.size≤32)&& !(s.data.toList==[46])&& !(s.data.toList==[46,46])):=by
 unfold In.isName
 rw[show(s.data.toList.any fun c=>c==0||c==47)=false from h]
 simp
theorem zfA(s:ByteArray)(w:World)(hs:s.size≤1000000000):An 215 #[.string s] w (.bool (In.isName s)):=by
 have hM:=St.start w []
 have hz:s.size=s.data.toList.length:=Lib.size_eq s
 obtain⟨B,hB⟩: ∃ B,In.isName s=B:=⟨_,rfl⟩
 rw[hB]
 have HB:=qh hB
 clear hB
 generalize hl:s.data.toList=l at*
 have HL:=qh hl
 have HZ:=qh hz
 clear hz
 go_enter Tryz.func215,Tryz.ntmps215
 (refine qw ?_;intros;rename_i hM)
 go_loopw [3] (fun i wr=> ∃ k:Nat,k≤l.length∧i= .int .i64 k∧Hid ((l.take k).any badN=false)∧St w [] wr []) (fun i _=>l.length - (intOf i).toNat)
 case atStart=>exact⟨0,by omega,rfl,qh rfl,hM⟩
 case round=>
  clear hM
  obtain⟨k,hk,rfl,HF,hM⟩:=hrel
  by_cases hlt:k<l.length
  ·obtain⟨c,hc⟩:=zK hlt
   have hc':s.data.toList[k]? =some c:=by rw[hl];exact hc
   have k1:(k:Int)<(s.size:Int):=by have:=HZ.out;omega
   have hkp:k<s.size:=by have:=HZ.out;omega
   have hpc:s[k]'hkp=c:=by
    have:=(laHz.1 hc').2
    rw[←this]
    rfl
   have ht:(l.take (k+1)).any badN=((l.take k).any badN||badN c):=by rw[lbJz,hc,Option.toList_some,List.any_append];simp
   rw[HF.out,Bool.false_or] at ht
   by_cases h0:c=0
   ·subst h0
    have q0:(((s[k]'hkp).toNat:Int)==0)=true:=by rw[hpc];rfl
    have HE:=qh (show B=false by
     rw[←HB.out]
     refine xa ?_
     rw[HL.out,ldMz]
     exact⟨0,laQz hc,rfl⟩)
    clear hpc hc hc' ht HF
    (refine qw ?_;intros;rename_i hM)
    (refine qf ?_)
    exact⟨by rw[HE.out];rfl,hM.to_below⟩
   ·have q0:(((s[k]'hkp).toNat:Int)==0)=false:=by
     rw[hpc,beq_eq_false_iff_ne]
     intro e
     apply h0
     have:c.toNat=0:=by omega
     exact UInt8.toNat_inj.1 this
    by_cases h47:c=47
    ·subst h47
     have q1:(((s[k]'hkp).toNat:Int)==47)=true:=by rw[hpc];rfl
     have HE:=qh (show B=false by
      rw[←HB.out]
      refine xa ?_
      rw[HL.out,ldMz]
      exact⟨47,laQz hc,rfl⟩)
     clear hpc hc hc' ht HF h0
     (refine qw ?_;intros;rename_i hM)
     (refine qf ?_)
     exact⟨by rw[HE.out];rfl,hM.to_below⟩
    ·have q1:(((s[k]'hkp).toNat:Int)==47)=false:=by
      rw[hpc,beq_eq_false_iff_ne]
      intro e
      apply h47
      have:c.toNat=47:=by omega
      exact UInt8.toNat_inj.1 this
     have HF2:=qh (show(l.take (k+1)).any badN=false by rw[ht];simp[badN,h0,h47])
     clear hpc hc hc' ht HF h0 h47
     (refine qw ?_;intros;rename_i hM)
     (try simp only[Exit.then])
     (refine⟨?_,qio⟩;repeat(first|exact⟨⟨k+1,by omega,rfl,HF2,hM⟩,rfl⟩|apply Exists.intro))
  ·have k0:¬((k:Int)<(s.size:Int)):=by have:=HZ.out;omega
   obtain rfl:k=l.length:=by omega
   have HF':=HF.out
   rw[lbSz] at HF'
   have hg:=zaQ (s:=s) (by rw[HL.out];exact HF')
   rw[HB.out,HL.out] at hg
   have HG:=qh hg
   clear hlt hk HF HF' hg hl
   by_cases h1:1≤s.size
   ·have e1:decide ((1:Int)≤(s.size:Int))=true:=decide_eq_true (by omega)
    by_cases h2:s.size≤32
    ·have e2:decide ((s.size:Int)≤(32:Int))=true:=decide_eq_true (by omega)
     by_cases h3:s=⟨#[46]⟩
     ·have e3:=Zn (s:=s) (l:=[46]) (by rw[h3])
      have HE:=qh (show B=false by rw[HG.out,←HL.out,h3];simp)
      clear h1 h2 h3
      (refine qw ?_;intros;rename_i hM)
      (refine qf ?_)
      exact⟨by rw[HE.out];rfl,hM.to_below⟩
     ·have e3:=Zt (s:=s) (l:=[46]) (fun e=>h3 (Pt.ba_ext e))
      by_cases h4:s=⟨#[46,46]⟩
      ·have e4:=Zn (s:=s) (l:=[46,46]) (by rw[h4])
       have HE:=qh (show B=false by rw[HG.out,←HL.out,h4];simp)
       clear h1 h2 h3 h4
       (refine qw ?_;intros;rename_i hM)
       (refine qf ?_)
       exact⟨by rw[HE.out];rfl,hM.to_below⟩
      ·have e4:=Zt (s:=s) (l:=[46,46]) (fun e=>h4 (Pt.ba_ext e))
       have HE:=qh (show B=true by
        have n3:l≠[46]:=fun e=>h3 (Pt.ba_ext (by rw[HL.out,e]))
        have n4:l≠[46,46]:=fun e=>h4 (Pt.ba_ext (by rw[HL.out,e]))
        rw[HG.out]
        simp[h1,h2,n3,n4])
       clear h1 h2 h3 h4
       (refine qw ?_;intros;rename_i hM)
       (refine qf ?_)
       exact⟨by rw[HE.out];rfl,hM.to_below⟩
    ·have e2:decide ((s.size:Int)≤(32:Int))=false:=decide_eq_false (by omega)
     have HE:=qh (show B=false by rw[HG.out];simp[h2])
     clear h1 h2
     (refine qw ?_;intros;rename_i hM)
     (refine qf ?_)
     exact⟨by rw[HE.out];rfl,hM.to_below⟩
   ·have e1:decide ((1:Int)≤(s.size:Int))=false:=decide_eq_false (by omega)
    have HE:=qh (show B=false by rw[HG.out];simp[h1])
    clear h1
    (refine qw ?_;intros;rename_i hM)
    (refine qf ?_)
    exact⟨by rw[HE.out];rfl,hM.to_below⟩
end
end
section
open Go.RowKit Go.Maps
section
variable {w w' w0:World}{zs:List NodV}{x:RX}{q nx:Int}
structure NmAt (z:NodV) (w:World):Prop where
 ok:SlOK z.2 z.1.names.length (entC z.1.names) 2
 has:Has z.ents w
 len:z.1.names.length≤1000000
theorem RRaw.nm(h:RRaw x q nx zs w)(hl: ∀ z∈zs,z.1.names.length≤1000000){z:NodV}(hz:z∈zs):NmAt z w:=⟨h.names z hz,fun y hy=>h.ents.has y (laZz.2 ⟨z,hz,hy⟩),hl z hz⟩
theorem NmAt.below{z:NodV}(h:NmAt z w)(hb:Below w.heap.size w w'):NmAt z w':=⟨h.ok,h.has.below hb,h.len⟩
theorem zaZ{g cap:Nat}{d:List (ByteArray×Int)}(h:Has (slL (some (g,cap)) (entC d) 127 2) w){k:Nat}{p:ByteArray×Int}(hp:d[k]? =some p):w.rangeAt g (k*2) [.string p.1,.int .i64 p.2]:=by
 have hk:=(laHz.1 hp).1
 have:=Res.range (q:=k*2) (n:=2) (h (g,true,.pre (entC d) 127 (cap*2)) (.head _)) (by show k*2+2≤(entC d).length;rw[yN];omega)
 rw[show(Res.pre (entC d) 127 (cap*2)).known=entC d from rfl,zny (nm:=p.1) (idv:=p.2) hp] at this
 exact this
theorem zhR(p:ByteArray×Int)(r:List (ByteArray×Int))(s:ByteArray):In.leads (p::r) s=if In.same p.1 s then p.2 else In.leads r s:=by
 unfold In.leads
 rw[lbGz]
 cases In.same p.1 s<;> rfl
theorem zcW{a b:ByteArray}{v:Bool}(h:In.same a b=v):(a.toList==b.toList)=v:=by rw[ByteArray.toList_eq,ByteArray.toList_eq];exact h
theorem YW(z:NodV)(h:NmAt z w0)(s:ByteArray):An 184 #[.agg z.cells.toArray,.string s] w0 (.int .i64 (In.leads z.1.names s)):=by
 have hM:=St.start w0 []
 have hln:=h.len
 have HH:=qh h.has
 have HK:=qh h.ok
 obtain⟨va,vc,hv,hva⟩:=zf h.ok
 clear h
 obtain⟨⟨zi,zd,zl,zh,zb,zn⟩,zp⟩:=z
 unfold NodV.cells
 simp only at hv hva hln ⊢
 rw[hv]
 clear hv
 obtain⟨R0,hR0⟩: ∃ R0,In.leads zn s=R0:=⟨_,rfl⟩
 rw[hR0]
 have HR0:=qh hR0
 clear hR0
 go_enter Tryz.func184,Tryz.ntmps184
 (repeat(first|(refine qW ?_;intros;rename_i hM)|(refine qMk ?_;clear hM;intro w bk hM)))
 go_loopw [5] (fun i wr=> ∃ k:Nat,k≤zn.length∧i= .int .i64 k∧Hid (In.leads (zn.drop k) s=R0)∧St w0 [] wr [(bk,true,Res.cells [.int .i64 zi,.bool zd,.int .i64 zl,.int .i64 zh,.string zb,.slice va zn.length vc] 124)]) (fun i _=>zn.length - (intOf i).toNat)
 case atStart=>exact⟨0,by omega,rfl,HR0,hM⟩
 case round=>
  clear hM
  obtain⟨k,hk,rfl,HF,hM⟩:=hrel
  by_cases hlt:k<zn.length
  ·obtain⟨p,hp⟩:=zK hlt
   have k1:(k:Int)<(zn.length:Int):=by omega
   rcases zp with _|⟨g1,cap1⟩
   ·exact absurd HK.out.2 (by simp only;omega)
   obtain⟨rfl,rfl⟩:=hva g1 cap1 rfl
   have r1:=zaZ HH.out hp
   have c0:w0.cell? ⟨g1,k*2,none⟩=some (.string p.1):=r1 0 _ rfl
   have c1:w0.cell? ⟨g1,k*2+1,none⟩=some (.int .i64 p.2):=r1 1 _ rfl
   have hd:zn.drop k=p::zn.drop (k+1):=by rw[lbIz hlt,(laHz.1 hp).2]
   have HF':=HF.out
   rw[hd,zhR] at HF'
   cases he:In.same p.1 s with
   |true=>
    have q1:=zcW he
    rw[he,if_pos rfl] at HF'
    have HE:=qh HF'
    clear HF' HF hd he hp r1
    (repeat(first|(refine qW ?_;intros;rename_i hM)|(refine qMk ?_;clear hM;intro w bk hM)))
    (refine qf ?_)
    exact⟨by rw[←HE.out];rfl,hM.to_below⟩
   |false=>
    have q1:=zcW he
    rw[he,if_neg nofun] at HF'
    have HE:=qh HF'
    clear HF' HF hd he hp r1
    (repeat(first|(refine qW ?_;intros;rename_i hM)|(refine qMk ?_;clear hM;intro w bk hM)))
    (try simp only[Exit.then])
    (refine⟨?_,qio⟩;repeat(first|exact⟨⟨k+1,by omega,rfl,HE,hM⟩,rfl⟩|apply Exists.intro))
  ·have k0:¬((k:Int)<(zn.length:Int)):=by omega
   obtain rfl:k=zn.length:=by omega
   have HF':=HF.out
   rw[lcPz] at HF'
   have HE:=qh (show 0=R0 from HF')
   clear hlt hk HF HF'
   (repeat(first|(refine qW ?_;intros;rename_i hM)|(refine qMk ?_;clear hM;intro w bk hM)))
   (refine qf ?_)
   exact⟨by rw[←HE.out];rfl,hM.to_below⟩
theorem zec{d:List (ByteArray×Int)}{k:Nat}{p:ByteArray×Int}(h:d[k]? =some p)(s:ByteArray):In.without (d.take (k+1)) s=In.without (d.take k) s++(if In.same p.1 s then [] else [p]):=by
 unfold In.without
 rw[lbJz,h,Option.toList_some,ldEz]
 cases hs:In.same p.1 s<;> simp[hs]
theorem zkw(d:List (ByteArray×Int))(p:ByteArray×Int):entC d++[.string p.1,.int .i64 p.2]=entC (d++[p]):=by unfold entC;rw[laWz,lbUz]
def zlB(n:NodeD)(d:List (ByteArray×Int))(w0:World)(e:Ending)(w':World):Prop:= ∃ p',e= .returned (.agg (NodV.cells (n.setNames d,p')).toArray)∧SlOK p' d.length (entC d) 2∧St w0 [] w' (NodV.ents (n.setNames d,p'))
theorem yo(z:NodV)(h:NmAt z w0)(s:ByteArray):Calls Tryz.prog 187 #[.agg z.cells.toArray,.string s] w0 (zlB z.1 (In.without z.1.names s) w0):=by
 have hM:=St.start w0 []
 have hln:=h.len
 have HH:=qh h.has
 have HK:=qh h.ok
 obtain⟨va,vc,hv,hva⟩:=zf h.ok
 clear h
 obtain⟨⟨zi,zd,zl,zh,zb,zn⟩,zp⟩:=z
 unfold NodV.cells
 simp only at hv hva hln ⊢
 rw[hv]
 clear hv
 go_enter Tryz.func187,Tryz.ntmps187
 try(refine qW ?_;clear hM;intros;rename_i hM)
 ((refine qMk ?_);clear hM;intro w bk_1 hM)
 (repeat(first|(refine qW ?_;intros;rename_i hM)|(refine qMk ?_;clear hM;intro w bk hM)))
 go_loopw [5,6] (fun o i wr=> ∃ (k:Nat) (s':Option (Nat×Nat)) (ys:List (ByteArray×Int)),k≤zn.length∧o=slV s' ys.length∧i= .int .i64 k∧ys.length≤k∧Hid (ys=In.without (zn.take k) s)∧SlOK s' ys.length (entC ys) 2∧St w0 [] wr ((bk,true,Res.cells [.int .i64 0,.bool false,.int .i64 0,.int .i64 0,.string ⟨#[]⟩,.slice none 0 0] 124)::(bk_1,true,Res.cells [.int .i64 zi,.bool zd,.int .i64 zl,.int .i64 zh,.string zb,.slice va zn.length vc] 124)::slL s' (entC ys) 127 2)) (fun _ i _=>zn.length - (intOf i).toNat)
 case atStart=>exact⟨0,none,[],by omega,rfl,rfl,Nat.le_refl _,qh rfl,⟨rfl,rfl⟩,hM⟩
 case round=>
  clear hM
  obtain⟨k,s',ys,hk,rfl,rfl,hyk,HY,hok,hM⟩:=hrel
  have HOK:=qh hok
  clear hok
  obtain⟨ua,uc,hu,-⟩:=zf HOK.out
  by_cases hlt:k<zn.length
  ·obtain⟨p,hp⟩:=zK hlt
   have k1:(k:Int)<(zn.length:Int):=by omega
   rcases zp with _|⟨g1,cap1⟩
   ·exact absurd HK.out.2 (by simp only;omega)
   obtain⟨rfl,rfl⟩:=hva g1 cap1 rfl
   have r1:=zaZ HH.out hp
   have c0:w0.cell? ⟨g1,k*2,none⟩=some (.string p.1):=r1 0 _ rfl
   have HS:=zec hp s
   cases he:In.same p.1 s with
   |true=>
    have q1:=zcW he
    rw[he,if_pos rfl,laYz] at HS
    have HE:=qh (show ys=In.without (zn.take (k+1)) s by rw[HS,HY.out])
    clear HS HY he hp
    rw[hu]
    (repeat(first|(refine qW ?_;intros;rename_i hM)|(refine qMk ?_;clear hM;intro w bk hM)))
    (try simp only[Exit.then])
    rw[←hu]
    (refine⟨?_,qio⟩;repeat(first|exact⟨⟨k+1,s',ys,by omega,rfl,rfl,by omega,HE,HOK.out,hM⟩,rfl⟩|apply Exists.intro))
   |false=>
    have q1:=zcW he
    rw[he,if_neg nofun] at HS
    have HE:=qh (show ys++[p]=In.without (zn.take (k+1)) s by rw[HS,HY.out])
    clear HS HY he hp
    rw[hu]
    (repeat(first|(refine qW ?_;intros;rename_i hM)|(refine qMk ?_;clear hM;intro w bk hM)))
    rw[←hu]
    refine St.append (s:=s') (n:=ys.length) (xs:=entC ys) rfl hM rfl rfl rfl rfl rfl (by kernel_rfl) qsf HOK.out rfl (hM.news qm) rfl (by rw[zj];omega) (by omega) (fun h=>by cases h) ?_
    clear hM;intro w s2 hM hk' hs'
    have e2:ys.length+1=(ys++[p]).length:=by simp
    simp only[Res.known] at hM hk'
    rw[zkw] at hM hk'
    rw[e2] at hk'
    rw[e2]
    have HK':=qh hk'
    clear hk' hs' HOK
    have hyl:(ys++[p]).length≤k+1:=by rw[laNz,lbQz];omega
    obtain⟨ub,ud,hu2,-⟩:=zf HK'.out
    rw[hu2]
    (refine qq ?_)
    (repeat(first|(refine qW ?_;intros;rename_i hM)|(refine qMk ?_;clear hM;intro w bk hM)))
    replace hM:=hM.forget
    (try simp only[Exit.then])
    rw[←hu2]
    (refine⟨?_,qio⟩;repeat(first|exact⟨⟨k+1,s2,ys++[p],by omega,rfl,rfl,hyl,HE,HK'.out,hM⟩,rfl⟩|apply Exists.intro))
  ·have k0:¬((k:Int)<(zn.length:Int)):=by omega
   obtain rfl:k=zn.length:=by omega
   have HY2:=HY.out
   rw[lbSz] at HY2
   subst HY2
   clear hlt hk HY
   rw[hu]
   (repeat(first|(refine qW ?_;intros;rename_i hM)|(refine qMk ?_;clear hM;intro w bk hM)))
   (refine qf ?_)
   refine⟨s', ?_,HOK.out,hM.forget.forget⟩
   unfold NodV.cells
   show _=Ending.returned (.agg #[_,_,_,_,_,slV s' (In.without zn s).length])
   rw[hu]
   rfl
end
end
section
open Go.RowKit
section
variable {P:Program}{K:Act→World→Prop}{a:Act}{w:World}{ops:Array Oper}{l:List (Oper×Nat)}{c:Nat}{o:Oper}{ty e:TypeId}{x y z:Operand}{S:World→Prop}
theorem zcO(b:Option Addr):b.map (fun d=>d.add 0)=b:=by cases b<;> rfl
def zlQ(P:Program)(e:TypeId)(n:Nat):Bool:=match P.info? e with|some i=>i.size==n|none=>false
theorem zjo{n:Nat}(h:zlQ P e n=true)(w:World):(sizeOf e).run P w= .ok n w:=by
 unfold zlQ at h
 cases hi:P.info? e with
 |none=>rw[hi] at h;cases h
 |some i=>
  rw[hi] at h
  have hn:i.size=n:=by simpa using h
  rw[←hn]
  unfold sizeOf typeInfo
  simp[Sem.run_bind,hi,Sem.run_pure,Result.andThen_ok]
theorem zlb(w:World)(hx:o.op= .slice ty x none (some z) none){b:Option Addr}{n cp:Nat}(e1:a.eval x= .slice b n cp){j:Nat}(e3:a.eval z= .int .i64 (j:Int))(ht:P.underlying ty=some (.slice e)){sz:Nat}(hs:zlQ P e sz=true)(hj:j≤cp):(execOp a.eval o).run P w= .ok (.value (.slice b j cp)) w:=by
 have h1:(0:Int)≤(j:Int):=Int.natCast_nonneg j
 have h3:(j:Int)≤(cp:Int):=by omega
 have hc:=zjo hs w
 have hb:(if cp=0 then b else b.map (fun d=>d.add 0))=b:=by rw[zcO];split<;> rfl
 unfold execOp
 simp only[hx,e1,e3,Instr.sliceAt,Instr.slice,Instr.sliceBounds,Instr.sliceBound,asIntOf,Sem.run_bind,Sem.run_pure,run_underlying ht,Option.map_none,Option.map_some,h1,h3,and_self,if_true,Int.toNat_natCast,Result.andThen_ok,hc,Nat.zero_mul,Nat.sub_zero,hb]
theorem St.slcTo(hx:o.op= .slice ty x none (some z) none)(hc:(c==0||c==2||c==3)=true)(hw:Region.wanted o (yielded ops a.tmps)=true){b:Option Addr}{n cp:Nat}(e1:a.eval x= .slice b n cp){j:Nat}(e3:a.eval z= .int .i64 (j:Int))(ht:P.underlying ty=some (.slice e)){sz:Nat}(hs:zlQ P e sz=true)(hj:j≤cp)(h:zg P ops K S l (a.put o.dst (.slice b j cp)) w):zg P ops K S ((o,c)::l) a w:=
 St.soft hc hw (fun w=>zlb w hx e1 e3 ht hs hj) h
end
end
end Go.Proofs.YtcicjklhbnipcaaGreatDoor
