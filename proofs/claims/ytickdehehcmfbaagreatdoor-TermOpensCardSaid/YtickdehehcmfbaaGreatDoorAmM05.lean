/- The constants of layer 14's laws, and closed calls on them, run by the kernel (printed by dev/ttab.py); conditions: none. -/
import Derived.Test.YtickdehehcmfbaaGreatDoorAmM04
import Derived.Test.YtickdehehcmfbaaGreatDoorAmM01
set_option linter.unusedVariables false
set_option linter.unusedSimpArgs false
namespace Go.Proofs.YtickdehehcmfbaaGreatDoor.Am
open Go Go.Proofs
noncomputable section
def Ex:List (List Nat×List AV):=[
 ([110,117,108,108],[.int .i64 0,.bool false,.str [],.str [],.slice none 0 (some 0),.slice none 0 (some 0),.int .i64 0]),
 ([116,114,117,101],[.int .i64 1,.bool true,.str [],.str [],.slice none 0 (some 0),.slice none 0 (some 0),.int .i64 0]),
 ([102,97,108,115,101],[.int .i64 1,.bool false,.str [],.str [],.slice none 0 (some 0),.slice none 0 (some 0),.int .i64 0]),
 ([48],[.int .i64 2,.bool false,.str [48],.str [],.slice none 0 (some 0),.slice none 0 (some 0),.int .i64 0]),
 ([49],[.int .i64 2,.bool false,.str [49],.str [],.slice none 0 (some 0),.slice none 0 (some 0),.int .i64 0]),
 ([45,53],[.int .i64 2,.bool false,.str [45,53],.str [],.slice none 0 (some 0),.slice none 0 (some 0),.int .i64 0]),
 ([49,56,52,52,54,55,52,52,48,55,51,55,48,57,53,53,49,54,49,54],[.int .i64 2,.bool false,.str [49,56,52,52,54,55,52,52,48,55,51,55,48,57,53,53,49,54,49,54],.str [],.slice none 0 (some 0),.slice none 0 (some 0),.int .i64 0]),
 ([34,97,34],[.int .i64 3,.bool false,.str [],.str [97],.slice none 0 (some 0),.slice none 0 (some 0),.int .i64 0]),
 ([34,98,34],[.int .i64 3,.bool false,.str [],.str [98],.slice none 0 (some 0),.slice none 0 (some 0),.int .i64 0]),
 ([34,34],[.int .i64 3,.bool false,.str [],.str [],.slice none 0 (some 0),.slice none 0 (some 0),.int .i64 0]),
 ([40,100,105,99,116,41],[.int .i64 4,.bool false,.str [],.str [],.slice none 0 (some 0),.slice none 0 (some 0),.int .i64 0]),
 ([34,112,117,116,34],[.int .i64 3,.bool false,.str [],.str [112,117,116],.slice none 0 (some 0),.slice none 0 (some 0),.int .i64 0]),
 ([55,55],[.int .i64 2,.bool false,.str [55,55],.str [],.slice none 0 (some 0),.slice none 0 (some 0),.int .i64 0])]
def BC:List AV:=[.int .u64 1,.int .u64 10,.int .u64 100,.int .u64 1000,.int .u64 10000,.int .u64 100000,.int .u64 1000000,.int .u64 10000000,.int .u64 100000000,.int .u64 1000000000,.int .u64 10000000000,.int .u64 100000000000,.int .u64 1000000000000,.int .u64 10000000000000,.int .u64 100000000000000,.int .u64 1000000000000000,.int .u64 10000000000000000,.int .u64 100000000000000000,.int .u64 1000000000000000000,.int .u64 10000000000000000000]
def TJ:List Row:=[
 ⟨44,[.agg [.int .i64 0,.bool false,.str [],.str [],.slice none 0 (some 0),.slice none 0 (some 0),.int .i64 0]],.bool true⟩,
 ⟨30,[.agg [.int .i64 0,.bool false,.str [],.str [],.slice none 0 (some 0),.slice none 0 (some 0),.int .i64 0]],.str [110,117,108,108]⟩,
 ⟨44,[.agg [.int .i64 1,.bool true,.str [],.str [],.slice none 0 (some 0),.slice none 0 (some 0),.int .i64 0]],.bool true⟩,
 ⟨30,[.agg [.int .i64 1,.bool true,.str [],.str [],.slice none 0 (some 0),.slice none 0 (some 0),.int .i64 0]],.str [116,114,117,101]⟩,
 ⟨44,[.agg [.int .i64 1,.bool false,.str [],.str [],.slice none 0 (some 0),.slice none 0 (some 0),.int .i64 0]],.bool true⟩,
 ⟨30,[.agg [.int .i64 1,.bool false,.str [],.str [],.slice none 0 (some 0),.slice none 0 (some 0),.int .i64 0]],.str [102,97,108,115,101]⟩,
 ⟨44,[.agg [.int .i64 2,.bool false,.str [48],.str [],.slice none 0 (some 0),.slice none 0 (some 0),.int .i64 0]],.bool true⟩,
 ⟨30,[.agg [.int .i64 2,.bool false,.str [48],.str [],.slice none 0 (some 0),.slice none 0 (some 0),.int .i64 0]],.str [48]⟩,
 ⟨44,[.agg [.int .i64 2,.bool false,.str [49],.str [],.slice none 0 (some 0),.slice none 0 (some 0),.int .i64 0]],.bool true⟩,
 ⟨30,[.agg [.int .i64 2,.bool false,.str [49],.str [],.slice none 0 (some 0),.slice none 0 (some 0),.int .i64 0]],.str [49]⟩,
 ⟨44,[.agg [.int .i64 2,.bool false,.str [45,53],.str [],.slice none 0 (some 0),.slice none 0 (some 0),.int .i64 0]],.bool true⟩,
 ⟨30,[.agg [.int .i64 2,.bool false,.str [45,53],.str [],.slice none 0 (some 0),.slice none 0 (some 0),.int .i64 0]],.str [45,53]⟩,
 ⟨44,[.agg [.int .i64 2,.bool false,.str [49,56,52,52,54,55,52,52,48,55,51,55,48,57,53,53,49,54,49,54],.str [],.slice none 0 (some 0),.slice none 0 (some 0),.int .i64 0]],.bool true⟩,
 ⟨30,[.agg [.int .i64 2,.bool false,.str [49,56,52,52,54,55,52,52,48,55,51,55,48,57,53,53,49,54,49,54],.str [],.slice none 0 (some 0),.slice none 0 (some 0),.int .i64 0]],.str [49,56,52,52,54,55,52,52,48,55,51,55,48,57,53,53,49,54,49,54]⟩]
def TK:List Row:=[
 ⟨44,[.agg [.int .i64 3,.bool false,.str [],.str [97],.slice none 0 (some 0),.slice none 0 (some 0),.int .i64 0]],.bool true⟩,
 ⟨30,[.agg [.int .i64 3,.bool false,.str [],.str [97],.slice none 0 (some 0),.slice none 0 (some 0),.int .i64 0]],.str [34,97,34]⟩,
 ⟨44,[.agg [.int .i64 3,.bool false,.str [],.str [98],.slice none 0 (some 0),.slice none 0 (some 0),.int .i64 0]],.bool true⟩,
 ⟨30,[.agg [.int .i64 3,.bool false,.str [],.str [98],.slice none 0 (some 0),.slice none 0 (some 0),.int .i64 0]],.str [34,98,34]⟩,
 ⟨44,[.agg [.int .i64 3,.bool false,.str [],.str [],.slice none 0 (some 0),.slice none 0 (some 0),.int .i64 0]],.bool true⟩,
 ⟨30,[.agg [.int .i64 3,.bool false,.str [],.str [],.slice none 0 (some 0),.slice none 0 (some 0),.int .i64 0]],.str [34,34]⟩,
 ⟨44,[.agg [.int .i64 4,.bool false,.str [],.str [],.slice none 0 (some 0),.slice none 0 (some 0),.int .i64 0]],.bool true⟩,
 ⟨30,[.agg [.int .i64 4,.bool false,.str [],.str [],.slice none 0 (some 0),.slice none 0 (some 0),.int .i64 0]],.str [40,100,105,99,116,41]⟩,
 ⟨44,[.agg [.int .i64 3,.bool false,.str [],.str [112,117,116],.slice none 0 (some 0),.slice none 0 (some 0),.int .i64 0]],.bool true⟩,
 ⟨30,[.agg [.int .i64 3,.bool false,.str [],.str [112,117,116],.slice none 0 (some 0),.slice none 0 (some 0),.int .i64 0]],.str [34,112,117,116,34]⟩,
 ⟨44,[.agg [.int .i64 2,.bool false,.str [55,55],.str [],.slice none 0 (some 0),.slice none 0 (some 0),.int .i64 0]],.bool true⟩,
 ⟨30,[.agg [.int .i64 2,.bool false,.str [55,55],.str [],.slice none 0 (some 0),.slice none 0 (some 0),.int .i64 0]],.str [55,55]⟩,
 ⟨45,[.int .i64 (-3)],.str [45,51]⟩,
 ⟨45,[.int .i64 (-2)],.str [45,50]⟩]
def TL:List Row:=[
 ⟨45,[.int .i64 (-1)],.str [45,49]⟩,
 ⟨45,[.int .i64 (0)],.str [48]⟩,
 ⟨45,[.int .i64 (1)],.str [49]⟩,
 ⟨45,[.int .i64 (2)],.str [50]⟩,
 ⟨45,[.int .i64 (3)],.str [51]⟩,
 ⟨45,[.int .i64 (4)],.str [52]⟩,
 ⟨45,[.int .i64 (5)],.str [53]⟩,
 ⟨45,[.int .i64 (6)],.str [54]⟩,
 ⟨45,[.int .i64 (7)],.str [55]⟩,
 ⟨45,[.int .i64 (8)],.str [56]⟩,
 ⟨45,[.int .i64 (9)],.str [57]⟩,
 ⟨45,[.int .i64 (10)],.str [49,48]⟩,
 ⟨44,[.agg [.int .i64 5,.bool false,.str [],.str [],.slice none 0 (some 0),.slice none 0 (some 0),.int .i64 3]],.bool true⟩,
 ⟨44,[.agg [.int .i64 2,.bool false,.str [48,49],.str [],.slice none 0 (some 0),.slice none 0 (some 0),.int .i64 0]],.bool false⟩]
def TM:List Row:=[
 ⟨127,[.agg [.int .i64 0,.bool false,.str [],.str [],.slice none 0 (some 0),.slice none 0 (some 0),.int .i64 0],.agg [.int .i64 0,.bool false,.str [],.str [],.slice none 0 (some 0),.slice none 0 (some 0),.int .i64 0]],.bool true⟩,
 ⟨127,[.agg [.int .i64 0,.bool false,.str [],.str [],.slice none 0 (some 0),.slice none 0 (some 0),.int .i64 0],.agg [.int .i64 1,.bool true,.str [],.str [],.slice none 0 (some 0),.slice none 0 (some 0),.int .i64 0]],.bool false⟩,
 ⟨127,[.agg [.int .i64 0,.bool false,.str [],.str [],.slice none 0 (some 0),.slice none 0 (some 0),.int .i64 0],.agg [.int .i64 1,.bool false,.str [],.str [],.slice none 0 (some 0),.slice none 0 (some 0),.int .i64 0]],.bool false⟩,
 ⟨127,[.agg [.int .i64 0,.bool false,.str [],.str [],.slice none 0 (some 0),.slice none 0 (some 0),.int .i64 0],.agg [.int .i64 2,.bool false,.str [48],.str [],.slice none 0 (some 0),.slice none 0 (some 0),.int .i64 0]],.bool false⟩,
 ⟨127,[.agg [.int .i64 0,.bool false,.str [],.str [],.slice none 0 (some 0),.slice none 0 (some 0),.int .i64 0],.agg [.int .i64 2,.bool false,.str [49],.str [],.slice none 0 (some 0),.slice none 0 (some 0),.int .i64 0]],.bool false⟩,
 ⟨127,[.agg [.int .i64 0,.bool false,.str [],.str [],.slice none 0 (some 0),.slice none 0 (some 0),.int .i64 0],.agg [.int .i64 2,.bool false,.str [45,53],.str [],.slice none 0 (some 0),.slice none 0 (some 0),.int .i64 0]],.bool false⟩,
 ⟨127,[.agg [.int .i64 0,.bool false,.str [],.str [],.slice none 0 (some 0),.slice none 0 (some 0),.int .i64 0],.agg [.int .i64 2,.bool false,.str [49,56,52,52,54,55,52,52,48,55,51,55,48,57,53,53,49,54,49,54],.str [],.slice none 0 (some 0),.slice none 0 (some 0),.int .i64 0]],.bool false⟩,
 ⟨127,[.agg [.int .i64 0,.bool false,.str [],.str [],.slice none 0 (some 0),.slice none 0 (some 0),.int .i64 0],.agg [.int .i64 3,.bool false,.str [],.str [97],.slice none 0 (some 0),.slice none 0 (some 0),.int .i64 0]],.bool false⟩,
 ⟨127,[.agg [.int .i64 0,.bool false,.str [],.str [],.slice none 0 (some 0),.slice none 0 (some 0),.int .i64 0],.agg [.int .i64 3,.bool false,.str [],.str [98],.slice none 0 (some 0),.slice none 0 (some 0),.int .i64 0]],.bool false⟩,
 ⟨127,[.agg [.int .i64 0,.bool false,.str [],.str [],.slice none 0 (some 0),.slice none 0 (some 0),.int .i64 0],.agg [.int .i64 3,.bool false,.str [],.str [],.slice none 0 (some 0),.slice none 0 (some 0),.int .i64 0]],.bool false⟩,
 ⟨127,[.agg [.int .i64 0,.bool false,.str [],.str [],.slice none 0 (some 0),.slice none 0 (some 0),.int .i64 0],.agg [.int .i64 4,.bool false,.str [],.str [],.slice none 0 (some 0),.slice none 0 (some 0),.int .i64 0]],.bool false⟩,
 ⟨127,[.agg [.int .i64 1,.bool true,.str [],.str [],.slice none 0 (some 0),.slice none 0 (some 0),.int .i64 0],.agg [.int .i64 0,.bool false,.str [],.str [],.slice none 0 (some 0),.slice none 0 (some 0),.int .i64 0]],.bool false⟩,
 ⟨127,[.agg [.int .i64 1,.bool true,.str [],.str [],.slice none 0 (some 0),.slice none 0 (some 0),.int .i64 0],.agg [.int .i64 1,.bool true,.str [],.str [],.slice none 0 (some 0),.slice none 0 (some 0),.int .i64 0]],.bool true⟩,
 ⟨127,[.agg [.int .i64 1,.bool true,.str [],.str [],.slice none 0 (some 0),.slice none 0 (some 0),.int .i64 0],.agg [.int .i64 1,.bool false,.str [],.str [],.slice none 0 (some 0),.slice none 0 (some 0),.int .i64 0]],.bool false⟩]
def TN:List Row:=[
 ⟨127,[.agg [.int .i64 1,.bool true,.str [],.str [],.slice none 0 (some 0),.slice none 0 (some 0),.int .i64 0],.agg [.int .i64 2,.bool false,.str [48],.str [],.slice none 0 (some 0),.slice none 0 (some 0),.int .i64 0]],.bool false⟩,
 ⟨127,[.agg [.int .i64 1,.bool true,.str [],.str [],.slice none 0 (some 0),.slice none 0 (some 0),.int .i64 0],.agg [.int .i64 2,.bool false,.str [49],.str [],.slice none 0 (some 0),.slice none 0 (some 0),.int .i64 0]],.bool false⟩,
 ⟨127,[.agg [.int .i64 1,.bool true,.str [],.str [],.slice none 0 (some 0),.slice none 0 (some 0),.int .i64 0],.agg [.int .i64 2,.bool false,.str [45,53],.str [],.slice none 0 (some 0),.slice none 0 (some 0),.int .i64 0]],.bool false⟩,
 ⟨127,[.agg [.int .i64 1,.bool true,.str [],.str [],.slice none 0 (some 0),.slice none 0 (some 0),.int .i64 0],.agg [.int .i64 2,.bool false,.str [49,56,52,52,54,55,52,52,48,55,51,55,48,57,53,53,49,54,49,54],.str [],.slice none 0 (some 0),.slice none 0 (some 0),.int .i64 0]],.bool false⟩,
 ⟨127,[.agg [.int .i64 1,.bool true,.str [],.str [],.slice none 0 (some 0),.slice none 0 (some 0),.int .i64 0],.agg [.int .i64 3,.bool false,.str [],.str [97],.slice none 0 (some 0),.slice none 0 (some 0),.int .i64 0]],.bool false⟩,
 ⟨127,[.agg [.int .i64 1,.bool true,.str [],.str [],.slice none 0 (some 0),.slice none 0 (some 0),.int .i64 0],.agg [.int .i64 3,.bool false,.str [],.str [98],.slice none 0 (some 0),.slice none 0 (some 0),.int .i64 0]],.bool false⟩,
 ⟨127,[.agg [.int .i64 1,.bool true,.str [],.str [],.slice none 0 (some 0),.slice none 0 (some 0),.int .i64 0],.agg [.int .i64 3,.bool false,.str [],.str [],.slice none 0 (some 0),.slice none 0 (some 0),.int .i64 0]],.bool false⟩,
 ⟨127,[.agg [.int .i64 1,.bool true,.str [],.str [],.slice none 0 (some 0),.slice none 0 (some 0),.int .i64 0],.agg [.int .i64 4,.bool false,.str [],.str [],.slice none 0 (some 0),.slice none 0 (some 0),.int .i64 0]],.bool false⟩,
 ⟨127,[.agg [.int .i64 1,.bool false,.str [],.str [],.slice none 0 (some 0),.slice none 0 (some 0),.int .i64 0],.agg [.int .i64 0,.bool false,.str [],.str [],.slice none 0 (some 0),.slice none 0 (some 0),.int .i64 0]],.bool false⟩,
 ⟨127,[.agg [.int .i64 1,.bool false,.str [],.str [],.slice none 0 (some 0),.slice none 0 (some 0),.int .i64 0],.agg [.int .i64 1,.bool true,.str [],.str [],.slice none 0 (some 0),.slice none 0 (some 0),.int .i64 0]],.bool false⟩,
 ⟨127,[.agg [.int .i64 1,.bool false,.str [],.str [],.slice none 0 (some 0),.slice none 0 (some 0),.int .i64 0],.agg [.int .i64 1,.bool false,.str [],.str [],.slice none 0 (some 0),.slice none 0 (some 0),.int .i64 0]],.bool true⟩,
 ⟨127,[.agg [.int .i64 1,.bool false,.str [],.str [],.slice none 0 (some 0),.slice none 0 (some 0),.int .i64 0],.agg [.int .i64 2,.bool false,.str [48],.str [],.slice none 0 (some 0),.slice none 0 (some 0),.int .i64 0]],.bool false⟩,
 ⟨127,[.agg [.int .i64 1,.bool false,.str [],.str [],.slice none 0 (some 0),.slice none 0 (some 0),.int .i64 0],.agg [.int .i64 2,.bool false,.str [49],.str [],.slice none 0 (some 0),.slice none 0 (some 0),.int .i64 0]],.bool false⟩,
 ⟨127,[.agg [.int .i64 1,.bool false,.str [],.str [],.slice none 0 (some 0),.slice none 0 (some 0),.int .i64 0],.agg [.int .i64 2,.bool false,.str [45,53],.str [],.slice none 0 (some 0),.slice none 0 (some 0),.int .i64 0]],.bool false⟩]
def TO:List Row:=[
 ⟨127,[.agg [.int .i64 1,.bool false,.str [],.str [],.slice none 0 (some 0),.slice none 0 (some 0),.int .i64 0],.agg [.int .i64 2,.bool false,.str [49,56,52,52,54,55,52,52,48,55,51,55,48,57,53,53,49,54,49,54],.str [],.slice none 0 (some 0),.slice none 0 (some 0),.int .i64 0]],.bool false⟩,
 ⟨127,[.agg [.int .i64 1,.bool false,.str [],.str [],.slice none 0 (some 0),.slice none 0 (some 0),.int .i64 0],.agg [.int .i64 3,.bool false,.str [],.str [97],.slice none 0 (some 0),.slice none 0 (some 0),.int .i64 0]],.bool false⟩,
 ⟨127,[.agg [.int .i64 1,.bool false,.str [],.str [],.slice none 0 (some 0),.slice none 0 (some 0),.int .i64 0],.agg [.int .i64 3,.bool false,.str [],.str [98],.slice none 0 (some 0),.slice none 0 (some 0),.int .i64 0]],.bool false⟩,
 ⟨127,[.agg [.int .i64 1,.bool false,.str [],.str [],.slice none 0 (some 0),.slice none 0 (some 0),.int .i64 0],.agg [.int .i64 3,.bool false,.str [],.str [],.slice none 0 (some 0),.slice none 0 (some 0),.int .i64 0]],.bool false⟩,
 ⟨127,[.agg [.int .i64 1,.bool false,.str [],.str [],.slice none 0 (some 0),.slice none 0 (some 0),.int .i64 0],.agg [.int .i64 4,.bool false,.str [],.str [],.slice none 0 (some 0),.slice none 0 (some 0),.int .i64 0]],.bool false⟩,
 ⟨127,[.agg [.int .i64 2,.bool false,.str [48],.str [],.slice none 0 (some 0),.slice none 0 (some 0),.int .i64 0],.agg [.int .i64 0,.bool false,.str [],.str [],.slice none 0 (some 0),.slice none 0 (some 0),.int .i64 0]],.bool false⟩,
 ⟨127,[.agg [.int .i64 2,.bool false,.str [48],.str [],.slice none 0 (some 0),.slice none 0 (some 0),.int .i64 0],.agg [.int .i64 1,.bool true,.str [],.str [],.slice none 0 (some 0),.slice none 0 (some 0),.int .i64 0]],.bool false⟩,
 ⟨127,[.agg [.int .i64 2,.bool false,.str [48],.str [],.slice none 0 (some 0),.slice none 0 (some 0),.int .i64 0],.agg [.int .i64 1,.bool false,.str [],.str [],.slice none 0 (some 0),.slice none 0 (some 0),.int .i64 0]],.bool false⟩,
 ⟨127,[.agg [.int .i64 2,.bool false,.str [48],.str [],.slice none 0 (some 0),.slice none 0 (some 0),.int .i64 0],.agg [.int .i64 2,.bool false,.str [48],.str [],.slice none 0 (some 0),.slice none 0 (some 0),.int .i64 0]],.bool true⟩,
 ⟨127,[.agg [.int .i64 2,.bool false,.str [48],.str [],.slice none 0 (some 0),.slice none 0 (some 0),.int .i64 0],.agg [.int .i64 2,.bool false,.str [49],.str [],.slice none 0 (some 0),.slice none 0 (some 0),.int .i64 0]],.bool false⟩,
 ⟨127,[.agg [.int .i64 2,.bool false,.str [48],.str [],.slice none 0 (some 0),.slice none 0 (some 0),.int .i64 0],.agg [.int .i64 2,.bool false,.str [45,53],.str [],.slice none 0 (some 0),.slice none 0 (some 0),.int .i64 0]],.bool false⟩,
 ⟨127,[.agg [.int .i64 2,.bool false,.str [48],.str [],.slice none 0 (some 0),.slice none 0 (some 0),.int .i64 0],.agg [.int .i64 2,.bool false,.str [49,56,52,52,54,55,52,52,48,55,51,55,48,57,53,53,49,54,49,54],.str [],.slice none 0 (some 0),.slice none 0 (some 0),.int .i64 0]],.bool false⟩,
 ⟨127,[.agg [.int .i64 2,.bool false,.str [48],.str [],.slice none 0 (some 0),.slice none 0 (some 0),.int .i64 0],.agg [.int .i64 3,.bool false,.str [],.str [97],.slice none 0 (some 0),.slice none 0 (some 0),.int .i64 0]],.bool false⟩,
 ⟨127,[.agg [.int .i64 2,.bool false,.str [48],.str [],.slice none 0 (some 0),.slice none 0 (some 0),.int .i64 0],.agg [.int .i64 3,.bool false,.str [],.str [98],.slice none 0 (some 0),.slice none 0 (some 0),.int .i64 0]],.bool false⟩]
def TP:List Row:=[
 ⟨127,[.agg [.int .i64 2,.bool false,.str [48],.str [],.slice none 0 (some 0),.slice none 0 (some 0),.int .i64 0],.agg [.int .i64 3,.bool false,.str [],.str [],.slice none 0 (some 0),.slice none 0 (some 0),.int .i64 0]],.bool false⟩,
 ⟨127,[.agg [.int .i64 2,.bool false,.str [48],.str [],.slice none 0 (some 0),.slice none 0 (some 0),.int .i64 0],.agg [.int .i64 4,.bool false,.str [],.str [],.slice none 0 (some 0),.slice none 0 (some 0),.int .i64 0]],.bool false⟩,
 ⟨127,[.agg [.int .i64 2,.bool false,.str [49],.str [],.slice none 0 (some 0),.slice none 0 (some 0),.int .i64 0],.agg [.int .i64 0,.bool false,.str [],.str [],.slice none 0 (some 0),.slice none 0 (some 0),.int .i64 0]],.bool false⟩,
 ⟨127,[.agg [.int .i64 2,.bool false,.str [49],.str [],.slice none 0 (some 0),.slice none 0 (some 0),.int .i64 0],.agg [.int .i64 1,.bool true,.str [],.str [],.slice none 0 (some 0),.slice none 0 (some 0),.int .i64 0]],.bool false⟩,
 ⟨127,[.agg [.int .i64 2,.bool false,.str [49],.str [],.slice none 0 (some 0),.slice none 0 (some 0),.int .i64 0],.agg [.int .i64 1,.bool false,.str [],.str [],.slice none 0 (some 0),.slice none 0 (some 0),.int .i64 0]],.bool false⟩,
 ⟨127,[.agg [.int .i64 2,.bool false,.str [49],.str [],.slice none 0 (some 0),.slice none 0 (some 0),.int .i64 0],.agg [.int .i64 2,.bool false,.str [48],.str [],.slice none 0 (some 0),.slice none 0 (some 0),.int .i64 0]],.bool false⟩,
 ⟨127,[.agg [.int .i64 2,.bool false,.str [49],.str [],.slice none 0 (some 0),.slice none 0 (some 0),.int .i64 0],.agg [.int .i64 2,.bool false,.str [49],.str [],.slice none 0 (some 0),.slice none 0 (some 0),.int .i64 0]],.bool true⟩,
 ⟨127,[.agg [.int .i64 2,.bool false,.str [49],.str [],.slice none 0 (some 0),.slice none 0 (some 0),.int .i64 0],.agg [.int .i64 2,.bool false,.str [45,53],.str [],.slice none 0 (some 0),.slice none 0 (some 0),.int .i64 0]],.bool false⟩,
 ⟨127,[.agg [.int .i64 2,.bool false,.str [49],.str [],.slice none 0 (some 0),.slice none 0 (some 0),.int .i64 0],.agg [.int .i64 2,.bool false,.str [49,56,52,52,54,55,52,52,48,55,51,55,48,57,53,53,49,54,49,54],.str [],.slice none 0 (some 0),.slice none 0 (some 0),.int .i64 0]],.bool false⟩,
 ⟨127,[.agg [.int .i64 2,.bool false,.str [49],.str [],.slice none 0 (some 0),.slice none 0 (some 0),.int .i64 0],.agg [.int .i64 3,.bool false,.str [],.str [97],.slice none 0 (some 0),.slice none 0 (some 0),.int .i64 0]],.bool false⟩,
 ⟨127,[.agg [.int .i64 2,.bool false,.str [49],.str [],.slice none 0 (some 0),.slice none 0 (some 0),.int .i64 0],.agg [.int .i64 3,.bool false,.str [],.str [98],.slice none 0 (some 0),.slice none 0 (some 0),.int .i64 0]],.bool false⟩,
 ⟨127,[.agg [.int .i64 2,.bool false,.str [49],.str [],.slice none 0 (some 0),.slice none 0 (some 0),.int .i64 0],.agg [.int .i64 3,.bool false,.str [],.str [],.slice none 0 (some 0),.slice none 0 (some 0),.int .i64 0]],.bool false⟩,
 ⟨127,[.agg [.int .i64 2,.bool false,.str [49],.str [],.slice none 0 (some 0),.slice none 0 (some 0),.int .i64 0],.agg [.int .i64 4,.bool false,.str [],.str [],.slice none 0 (some 0),.slice none 0 (some 0),.int .i64 0]],.bool false⟩,
 ⟨127,[.agg [.int .i64 2,.bool false,.str [45,53],.str [],.slice none 0 (some 0),.slice none 0 (some 0),.int .i64 0],.agg [.int .i64 0,.bool false,.str [],.str [],.slice none 0 (some 0),.slice none 0 (some 0),.int .i64 0]],.bool false⟩]
def TQ:List Row:=[
 ⟨127,[.agg [.int .i64 2,.bool false,.str [45,53],.str [],.slice none 0 (some 0),.slice none 0 (some 0),.int .i64 0],.agg [.int .i64 1,.bool true,.str [],.str [],.slice none 0 (some 0),.slice none 0 (some 0),.int .i64 0]],.bool false⟩,
 ⟨127,[.agg [.int .i64 2,.bool false,.str [45,53],.str [],.slice none 0 (some 0),.slice none 0 (some 0),.int .i64 0],.agg [.int .i64 1,.bool false,.str [],.str [],.slice none 0 (some 0),.slice none 0 (some 0),.int .i64 0]],.bool false⟩,
 ⟨127,[.agg [.int .i64 2,.bool false,.str [45,53],.str [],.slice none 0 (some 0),.slice none 0 (some 0),.int .i64 0],.agg [.int .i64 2,.bool false,.str [48],.str [],.slice none 0 (some 0),.slice none 0 (some 0),.int .i64 0]],.bool false⟩,
 ⟨127,[.agg [.int .i64 2,.bool false,.str [45,53],.str [],.slice none 0 (some 0),.slice none 0 (some 0),.int .i64 0],.agg [.int .i64 2,.bool false,.str [49],.str [],.slice none 0 (some 0),.slice none 0 (some 0),.int .i64 0]],.bool false⟩,
 ⟨127,[.agg [.int .i64 2,.bool false,.str [45,53],.str [],.slice none 0 (some 0),.slice none 0 (some 0),.int .i64 0],.agg [.int .i64 2,.bool false,.str [45,53],.str [],.slice none 0 (some 0),.slice none 0 (some 0),.int .i64 0]],.bool true⟩,
 ⟨127,[.agg [.int .i64 2,.bool false,.str [45,53],.str [],.slice none 0 (some 0),.slice none 0 (some 0),.int .i64 0],.agg [.int .i64 2,.bool false,.str [49,56,52,52,54,55,52,52,48,55,51,55,48,57,53,53,49,54,49,54],.str [],.slice none 0 (some 0),.slice none 0 (some 0),.int .i64 0]],.bool false⟩,
 ⟨127,[.agg [.int .i64 2,.bool false,.str [45,53],.str [],.slice none 0 (some 0),.slice none 0 (some 0),.int .i64 0],.agg [.int .i64 3,.bool false,.str [],.str [97],.slice none 0 (some 0),.slice none 0 (some 0),.int .i64 0]],.bool false⟩,
 ⟨127,[.agg [.int .i64 2,.bool false,.str [45,53],.str [],.slice none 0 (some 0),.slice none 0 (some 0),.int .i64 0],.agg [.int .i64 3,.bool false,.str [],.str [98],.slice none 0 (some 0),.slice none 0 (some 0),.int .i64 0]],.bool false⟩,
 ⟨127,[.agg [.int .i64 2,.bool false,.str [45,53],.str [],.slice none 0 (some 0),.slice none 0 (some 0),.int .i64 0],.agg [.int .i64 3,.bool false,.str [],.str [],.slice none 0 (some 0),.slice none 0 (some 0),.int .i64 0]],.bool false⟩,
 ⟨127,[.agg [.int .i64 2,.bool false,.str [45,53],.str [],.slice none 0 (some 0),.slice none 0 (some 0),.int .i64 0],.agg [.int .i64 4,.bool false,.str [],.str [],.slice none 0 (some 0),.slice none 0 (some 0),.int .i64 0]],.bool false⟩,
 ⟨127,[.agg [.int .i64 2,.bool false,.str [49,56,52,52,54,55,52,52,48,55,51,55,48,57,53,53,49,54,49,54],.str [],.slice none 0 (some 0),.slice none 0 (some 0),.int .i64 0],.agg [.int .i64 0,.bool false,.str [],.str [],.slice none 0 (some 0),.slice none 0 (some 0),.int .i64 0]],.bool false⟩,
 ⟨127,[.agg [.int .i64 2,.bool false,.str [49,56,52,52,54,55,52,52,48,55,51,55,48,57,53,53,49,54,49,54],.str [],.slice none 0 (some 0),.slice none 0 (some 0),.int .i64 0],.agg [.int .i64 1,.bool true,.str [],.str [],.slice none 0 (some 0),.slice none 0 (some 0),.int .i64 0]],.bool false⟩,
 ⟨127,[.agg [.int .i64 2,.bool false,.str [49,56,52,52,54,55,52,52,48,55,51,55,48,57,53,53,49,54,49,54],.str [],.slice none 0 (some 0),.slice none 0 (some 0),.int .i64 0],.agg [.int .i64 1,.bool false,.str [],.str [],.slice none 0 (some 0),.slice none 0 (some 0),.int .i64 0]],.bool false⟩,
 ⟨127,[.agg [.int .i64 2,.bool false,.str [49,56,52,52,54,55,52,52,48,55,51,55,48,57,53,53,49,54,49,54],.str [],.slice none 0 (some 0),.slice none 0 (some 0),.int .i64 0],.agg [.int .i64 2,.bool false,.str [48],.str [],.slice none 0 (some 0),.slice none 0 (some 0),.int .i64 0]],.bool false⟩]
def TR:List Row:=[
 ⟨127,[.agg [.int .i64 2,.bool false,.str [49,56,52,52,54,55,52,52,48,55,51,55,48,57,53,53,49,54,49,54],.str [],.slice none 0 (some 0),.slice none 0 (some 0),.int .i64 0],.agg [.int .i64 2,.bool false,.str [49],.str [],.slice none 0 (some 0),.slice none 0 (some 0),.int .i64 0]],.bool false⟩,
 ⟨127,[.agg [.int .i64 2,.bool false,.str [49,56,52,52,54,55,52,52,48,55,51,55,48,57,53,53,49,54,49,54],.str [],.slice none 0 (some 0),.slice none 0 (some 0),.int .i64 0],.agg [.int .i64 2,.bool false,.str [45,53],.str [],.slice none 0 (some 0),.slice none 0 (some 0),.int .i64 0]],.bool false⟩,
 ⟨127,[.agg [.int .i64 2,.bool false,.str [49,56,52,52,54,55,52,52,48,55,51,55,48,57,53,53,49,54,49,54],.str [],.slice none 0 (some 0),.slice none 0 (some 0),.int .i64 0],.agg [.int .i64 2,.bool false,.str [49,56,52,52,54,55,52,52,48,55,51,55,48,57,53,53,49,54,49,54],.str [],.slice none 0 (some 0),.slice none 0 (some 0),.int .i64 0]],.bool true⟩,
 ⟨127,[.agg [.int .i64 2,.bool false,.str [49,56,52,52,54,55,52,52,48,55,51,55,48,57,53,53,49,54,49,54],.str [],.slice none 0 (some 0),.slice none 0 (some 0),.int .i64 0],.agg [.int .i64 3,.bool false,.str [],.str [97],.slice none 0 (some 0),.slice none 0 (some 0),.int .i64 0]],.bool false⟩,
 ⟨127,[.agg [.int .i64 2,.bool false,.str [49,56,52,52,54,55,52,52,48,55,51,55,48,57,53,53,49,54,49,54],.str [],.slice none 0 (some 0),.slice none 0 (some 0),.int .i64 0],.agg [.int .i64 3,.bool false,.str [],.str [98],.slice none 0 (some 0),.slice none 0 (some 0),.int .i64 0]],.bool false⟩,
 ⟨127,[.agg [.int .i64 2,.bool false,.str [49,56,52,52,54,55,52,52,48,55,51,55,48,57,53,53,49,54,49,54],.str [],.slice none 0 (some 0),.slice none 0 (some 0),.int .i64 0],.agg [.int .i64 3,.bool false,.str [],.str [],.slice none 0 (some 0),.slice none 0 (some 0),.int .i64 0]],.bool false⟩,
 ⟨127,[.agg [.int .i64 2,.bool false,.str [49,56,52,52,54,55,52,52,48,55,51,55,48,57,53,53,49,54,49,54],.str [],.slice none 0 (some 0),.slice none 0 (some 0),.int .i64 0],.agg [.int .i64 4,.bool false,.str [],.str [],.slice none 0 (some 0),.slice none 0 (some 0),.int .i64 0]],.bool false⟩,
 ⟨127,[.agg [.int .i64 3,.bool false,.str [],.str [97],.slice none 0 (some 0),.slice none 0 (some 0),.int .i64 0],.agg [.int .i64 0,.bool false,.str [],.str [],.slice none 0 (some 0),.slice none 0 (some 0),.int .i64 0]],.bool false⟩,
 ⟨127,[.agg [.int .i64 3,.bool false,.str [],.str [97],.slice none 0 (some 0),.slice none 0 (some 0),.int .i64 0],.agg [.int .i64 1,.bool true,.str [],.str [],.slice none 0 (some 0),.slice none 0 (some 0),.int .i64 0]],.bool false⟩,
 ⟨127,[.agg [.int .i64 3,.bool false,.str [],.str [97],.slice none 0 (some 0),.slice none 0 (some 0),.int .i64 0],.agg [.int .i64 1,.bool false,.str [],.str [],.slice none 0 (some 0),.slice none 0 (some 0),.int .i64 0]],.bool false⟩,
 ⟨127,[.agg [.int .i64 3,.bool false,.str [],.str [97],.slice none 0 (some 0),.slice none 0 (some 0),.int .i64 0],.agg [.int .i64 2,.bool false,.str [48],.str [],.slice none 0 (some 0),.slice none 0 (some 0),.int .i64 0]],.bool false⟩,
 ⟨127,[.agg [.int .i64 3,.bool false,.str [],.str [97],.slice none 0 (some 0),.slice none 0 (some 0),.int .i64 0],.agg [.int .i64 2,.bool false,.str [49],.str [],.slice none 0 (some 0),.slice none 0 (some 0),.int .i64 0]],.bool false⟩,
 ⟨127,[.agg [.int .i64 3,.bool false,.str [],.str [97],.slice none 0 (some 0),.slice none 0 (some 0),.int .i64 0],.agg [.int .i64 2,.bool false,.str [45,53],.str [],.slice none 0 (some 0),.slice none 0 (some 0),.int .i64 0]],.bool false⟩,
 ⟨127,[.agg [.int .i64 3,.bool false,.str [],.str [97],.slice none 0 (some 0),.slice none 0 (some 0),.int .i64 0],.agg [.int .i64 2,.bool false,.str [49,56,52,52,54,55,52,52,48,55,51,55,48,57,53,53,49,54,49,54],.str [],.slice none 0 (some 0),.slice none 0 (some 0),.int .i64 0]],.bool false⟩]
def TS:List Row:=[
 ⟨127,[.agg [.int .i64 3,.bool false,.str [],.str [97],.slice none 0 (some 0),.slice none 0 (some 0),.int .i64 0],.agg [.int .i64 3,.bool false,.str [],.str [97],.slice none 0 (some 0),.slice none 0 (some 0),.int .i64 0]],.bool true⟩,
 ⟨127,[.agg [.int .i64 3,.bool false,.str [],.str [97],.slice none 0 (some 0),.slice none 0 (some 0),.int .i64 0],.agg [.int .i64 3,.bool false,.str [],.str [98],.slice none 0 (some 0),.slice none 0 (some 0),.int .i64 0]],.bool false⟩,
 ⟨127,[.agg [.int .i64 3,.bool false,.str [],.str [97],.slice none 0 (some 0),.slice none 0 (some 0),.int .i64 0],.agg [.int .i64 3,.bool false,.str [],.str [],.slice none 0 (some 0),.slice none 0 (some 0),.int .i64 0]],.bool false⟩,
 ⟨127,[.agg [.int .i64 3,.bool false,.str [],.str [97],.slice none 0 (some 0),.slice none 0 (some 0),.int .i64 0],.agg [.int .i64 4,.bool false,.str [],.str [],.slice none 0 (some 0),.slice none 0 (some 0),.int .i64 0]],.bool false⟩,
 ⟨127,[.agg [.int .i64 3,.bool false,.str [],.str [98],.slice none 0 (some 0),.slice none 0 (some 0),.int .i64 0],.agg [.int .i64 0,.bool false,.str [],.str [],.slice none 0 (some 0),.slice none 0 (some 0),.int .i64 0]],.bool false⟩,
 ⟨127,[.agg [.int .i64 3,.bool false,.str [],.str [98],.slice none 0 (some 0),.slice none 0 (some 0),.int .i64 0],.agg [.int .i64 1,.bool true,.str [],.str [],.slice none 0 (some 0),.slice none 0 (some 0),.int .i64 0]],.bool false⟩,
 ⟨127,[.agg [.int .i64 3,.bool false,.str [],.str [98],.slice none 0 (some 0),.slice none 0 (some 0),.int .i64 0],.agg [.int .i64 1,.bool false,.str [],.str [],.slice none 0 (some 0),.slice none 0 (some 0),.int .i64 0]],.bool false⟩,
 ⟨127,[.agg [.int .i64 3,.bool false,.str [],.str [98],.slice none 0 (some 0),.slice none 0 (some 0),.int .i64 0],.agg [.int .i64 2,.bool false,.str [48],.str [],.slice none 0 (some 0),.slice none 0 (some 0),.int .i64 0]],.bool false⟩,
 ⟨127,[.agg [.int .i64 3,.bool false,.str [],.str [98],.slice none 0 (some 0),.slice none 0 (some 0),.int .i64 0],.agg [.int .i64 2,.bool false,.str [49],.str [],.slice none 0 (some 0),.slice none 0 (some 0),.int .i64 0]],.bool false⟩,
 ⟨127,[.agg [.int .i64 3,.bool false,.str [],.str [98],.slice none 0 (some 0),.slice none 0 (some 0),.int .i64 0],.agg [.int .i64 2,.bool false,.str [45,53],.str [],.slice none 0 (some 0),.slice none 0 (some 0),.int .i64 0]],.bool false⟩,
 ⟨127,[.agg [.int .i64 3,.bool false,.str [],.str [98],.slice none 0 (some 0),.slice none 0 (some 0),.int .i64 0],.agg [.int .i64 2,.bool false,.str [49,56,52,52,54,55,52,52,48,55,51,55,48,57,53,53,49,54,49,54],.str [],.slice none 0 (some 0),.slice none 0 (some 0),.int .i64 0]],.bool false⟩,
 ⟨127,[.agg [.int .i64 3,.bool false,.str [],.str [98],.slice none 0 (some 0),.slice none 0 (some 0),.int .i64 0],.agg [.int .i64 3,.bool false,.str [],.str [97],.slice none 0 (some 0),.slice none 0 (some 0),.int .i64 0]],.bool false⟩,
 ⟨127,[.agg [.int .i64 3,.bool false,.str [],.str [98],.slice none 0 (some 0),.slice none 0 (some 0),.int .i64 0],.agg [.int .i64 3,.bool false,.str [],.str [98],.slice none 0 (some 0),.slice none 0 (some 0),.int .i64 0]],.bool true⟩,
 ⟨127,[.agg [.int .i64 3,.bool false,.str [],.str [98],.slice none 0 (some 0),.slice none 0 (some 0),.int .i64 0],.agg [.int .i64 3,.bool false,.str [],.str [],.slice none 0 (some 0),.slice none 0 (some 0),.int .i64 0]],.bool false⟩]
def OU:List Row:=[
 ⟨127,[.agg [.int .i64 3,.bool false,.str [],.str [98],.slice none 0 (some 0),.slice none 0 (some 0),.int .i64 0],.agg [.int .i64 4,.bool false,.str [],.str [],.slice none 0 (some 0),.slice none 0 (some 0),.int .i64 0]],.bool false⟩,
 ⟨127,[.agg [.int .i64 3,.bool false,.str [],.str [],.slice none 0 (some 0),.slice none 0 (some 0),.int .i64 0],.agg [.int .i64 0,.bool false,.str [],.str [],.slice none 0 (some 0),.slice none 0 (some 0),.int .i64 0]],.bool false⟩,
 ⟨127,[.agg [.int .i64 3,.bool false,.str [],.str [],.slice none 0 (some 0),.slice none 0 (some 0),.int .i64 0],.agg [.int .i64 1,.bool true,.str [],.str [],.slice none 0 (some 0),.slice none 0 (some 0),.int .i64 0]],.bool false⟩,
 ⟨127,[.agg [.int .i64 3,.bool false,.str [],.str [],.slice none 0 (some 0),.slice none 0 (some 0),.int .i64 0],.agg [.int .i64 1,.bool false,.str [],.str [],.slice none 0 (some 0),.slice none 0 (some 0),.int .i64 0]],.bool false⟩,
 ⟨127,[.agg [.int .i64 3,.bool false,.str [],.str [],.slice none 0 (some 0),.slice none 0 (some 0),.int .i64 0],.agg [.int .i64 2,.bool false,.str [48],.str [],.slice none 0 (some 0),.slice none 0 (some 0),.int .i64 0]],.bool false⟩,
 ⟨127,[.agg [.int .i64 3,.bool false,.str [],.str [],.slice none 0 (some 0),.slice none 0 (some 0),.int .i64 0],.agg [.int .i64 2,.bool false,.str [49],.str [],.slice none 0 (some 0),.slice none 0 (some 0),.int .i64 0]],.bool false⟩,
 ⟨127,[.agg [.int .i64 3,.bool false,.str [],.str [],.slice none 0 (some 0),.slice none 0 (some 0),.int .i64 0],.agg [.int .i64 2,.bool false,.str [45,53],.str [],.slice none 0 (some 0),.slice none 0 (some 0),.int .i64 0]],.bool false⟩,
 ⟨127,[.agg [.int .i64 3,.bool false,.str [],.str [],.slice none 0 (some 0),.slice none 0 (some 0),.int .i64 0],.agg [.int .i64 2,.bool false,.str [49,56,52,52,54,55,52,52,48,55,51,55,48,57,53,53,49,54,49,54],.str [],.slice none 0 (some 0),.slice none 0 (some 0),.int .i64 0]],.bool false⟩,
 ⟨127,[.agg [.int .i64 3,.bool false,.str [],.str [],.slice none 0 (some 0),.slice none 0 (some 0),.int .i64 0],.agg [.int .i64 3,.bool false,.str [],.str [97],.slice none 0 (some 0),.slice none 0 (some 0),.int .i64 0]],.bool false⟩,
 ⟨127,[.agg [.int .i64 3,.bool false,.str [],.str [],.slice none 0 (some 0),.slice none 0 (some 0),.int .i64 0],.agg [.int .i64 3,.bool false,.str [],.str [98],.slice none 0 (some 0),.slice none 0 (some 0),.int .i64 0]],.bool false⟩,
 ⟨127,[.agg [.int .i64 3,.bool false,.str [],.str [],.slice none 0 (some 0),.slice none 0 (some 0),.int .i64 0],.agg [.int .i64 3,.bool false,.str [],.str [],.slice none 0 (some 0),.slice none 0 (some 0),.int .i64 0]],.bool true⟩,
 ⟨127,[.agg [.int .i64 3,.bool false,.str [],.str [],.slice none 0 (some 0),.slice none 0 (some 0),.int .i64 0],.agg [.int .i64 4,.bool false,.str [],.str [],.slice none 0 (some 0),.slice none 0 (some 0),.int .i64 0]],.bool false⟩,
 ⟨127,[.agg [.int .i64 4,.bool false,.str [],.str [],.slice none 0 (some 0),.slice none 0 (some 0),.int .i64 0],.agg [.int .i64 0,.bool false,.str [],.str [],.slice none 0 (some 0),.slice none 0 (some 0),.int .i64 0]],.bool false⟩,
 ⟨127,[.agg [.int .i64 4,.bool false,.str [],.str [],.slice none 0 (some 0),.slice none 0 (some 0),.int .i64 0],.agg [.int .i64 1,.bool true,.str [],.str [],.slice none 0 (some 0),.slice none 0 (some 0),.int .i64 0]],.bool false⟩]
def OV:List Row:=[
 ⟨127,[.agg [.int .i64 4,.bool false,.str [],.str [],.slice none 0 (some 0),.slice none 0 (some 0),.int .i64 0],.agg [.int .i64 1,.bool false,.str [],.str [],.slice none 0 (some 0),.slice none 0 (some 0),.int .i64 0]],.bool false⟩,
 ⟨127,[.agg [.int .i64 4,.bool false,.str [],.str [],.slice none 0 (some 0),.slice none 0 (some 0),.int .i64 0],.agg [.int .i64 2,.bool false,.str [48],.str [],.slice none 0 (some 0),.slice none 0 (some 0),.int .i64 0]],.bool false⟩,
 ⟨127,[.agg [.int .i64 4,.bool false,.str [],.str [],.slice none 0 (some 0),.slice none 0 (some 0),.int .i64 0],.agg [.int .i64 2,.bool false,.str [49],.str [],.slice none 0 (some 0),.slice none 0 (some 0),.int .i64 0]],.bool false⟩,
 ⟨127,[.agg [.int .i64 4,.bool false,.str [],.str [],.slice none 0 (some 0),.slice none 0 (some 0),.int .i64 0],.agg [.int .i64 2,.bool false,.str [45,53],.str [],.slice none 0 (some 0),.slice none 0 (some 0),.int .i64 0]],.bool false⟩,
 ⟨127,[.agg [.int .i64 4,.bool false,.str [],.str [],.slice none 0 (some 0),.slice none 0 (some 0),.int .i64 0],.agg [.int .i64 2,.bool false,.str [49,56,52,52,54,55,52,52,48,55,51,55,48,57,53,53,49,54,49,54],.str [],.slice none 0 (some 0),.slice none 0 (some 0),.int .i64 0]],.bool false⟩,
 ⟨127,[.agg [.int .i64 4,.bool false,.str [],.str [],.slice none 0 (some 0),.slice none 0 (some 0),.int .i64 0],.agg [.int .i64 3,.bool false,.str [],.str [97],.slice none 0 (some 0),.slice none 0 (some 0),.int .i64 0]],.bool false⟩,
 ⟨127,[.agg [.int .i64 4,.bool false,.str [],.str [],.slice none 0 (some 0),.slice none 0 (some 0),.int .i64 0],.agg [.int .i64 3,.bool false,.str [],.str [98],.slice none 0 (some 0),.slice none 0 (some 0),.int .i64 0]],.bool false⟩,
 ⟨127,[.agg [.int .i64 4,.bool false,.str [],.str [],.slice none 0 (some 0),.slice none 0 (some 0),.int .i64 0],.agg [.int .i64 3,.bool false,.str [],.str [],.slice none 0 (some 0),.slice none 0 (some 0),.int .i64 0]],.bool false⟩,
 ⟨127,[.agg [.int .i64 4,.bool false,.str [],.str [],.slice none 0 (some 0),.slice none 0 (some 0),.int .i64 0],.agg [.int .i64 4,.bool false,.str [],.str [],.slice none 0 (some 0),.slice none 0 (some 0),.int .i64 0]],.bool true⟩,
 ⟨109,[.agg [.int .i64 0,.bool false,.str [],.str [],.slice none 0 (some 0),.slice none 0 (some 0),.int .i64 0]],.bool true⟩,
 ⟨109,[.agg [.int .i64 1,.bool true,.str [],.str [],.slice none 0 (some 0),.slice none 0 (some 0),.int .i64 0]],.bool true⟩,
 ⟨109,[.agg [.int .i64 1,.bool false,.str [],.str [],.slice none 0 (some 0),.slice none 0 (some 0),.int .i64 0]],.bool true⟩,
 ⟨109,[.agg [.int .i64 2,.bool false,.str [48],.str [],.slice none 0 (some 0),.slice none 0 (some 0),.int .i64 0]],.bool true⟩,
 ⟨109,[.agg [.int .i64 2,.bool false,.str [49],.str [],.slice none 0 (some 0),.slice none 0 (some 0),.int .i64 0]],.bool true⟩]
def OW:List Row:=[
 ⟨109,[.agg [.int .i64 2,.bool false,.str [45,53],.str [],.slice none 0 (some 0),.slice none 0 (some 0),.int .i64 0]],.bool true⟩,
 ⟨109,[.agg [.int .i64 2,.bool false,.str [49,56,52,52,54,55,52,52,48,55,51,55,48,57,53,53,49,54,49,54],.str [],.slice none 0 (some 0),.slice none 0 (some 0),.int .i64 0]],.bool true⟩,
 ⟨109,[.agg [.int .i64 3,.bool false,.str [],.str [97],.slice none 0 (some 0),.slice none 0 (some 0),.int .i64 0]],.bool true⟩,
 ⟨109,[.agg [.int .i64 3,.bool false,.str [],.str [98],.slice none 0 (some 0),.slice none 0 (some 0),.int .i64 0]],.bool true⟩,
 ⟨109,[.agg [.int .i64 3,.bool false,.str [],.str [],.slice none 0 (some 0),.slice none 0 (some 0),.int .i64 0]],.bool true⟩,
 ⟨109,[.agg [.int .i64 4,.bool false,.str [],.str [],.slice none 0 (some 0),.slice none 0 (some 0),.int .i64 0]],.bool true⟩,
 ⟨7,[],.bool true⟩]
def Dh (r:Row):Bool:=E0 r.args && GU r.res && TB r.res ((C1 ab 100000).call r.f r.args (Py 1 BC))
theorem Pj:TJ.all Dh=true:=by kernel_rfl
theorem Pk:TK.all Dh=true:=by kernel_rfl
theorem Pl:TL.all Dh=true:=by kernel_rfl
theorem Pm:TM.all Dh=true:=by kernel_rfl
theorem Pn:TN.all Dh=true:=by kernel_rfl
theorem Po:TO.all Dh=true:=by kernel_rfl
theorem Pp:TP.all Dh=true:=by kernel_rfl
theorem Pq:TQ.all Dh=true:=by kernel_rfl
theorem Pr:TR.all Dh=true:=by kernel_rfl
theorem Ps:TS.all Dh=true:=by kernel_rfl
theorem NM:OU.all Dh=true:=by kernel_rfl
theorem NN:OV.all Dh=true:=by kernel_rfl
theorem NO:OW.all Dh=true:=by kernel_rfl
def C6:List Row:=TJ++TK++TL++TM++TN++TO++TP++TQ++TR++TS++OU++OV++OW
theorem TT:∀r∈C6,E0 r.args=true∧GU r.res=true∧TB r.res ((C1 ab 100000).call r.f r.args (Py 1 BC))=true:=by
 have h:C6.all Dh=true:=by
  unfold C6
  simp only[List.all_append,Pj,Pk,Pl,Pm,Pn,Po,Pp,Pq,Pr,Ps,NM,NN,NO,Bool.and_self]
 intro r hr
 have:=List.all_eq_true.1 h r hr
 unfold Dh at this
 simp only[Bool.and_eq_true]at this
 exact⟨this.1.1,this.1.2,this.2⟩
theorem OP:Tryz.prog.follows .mixedOrders=true:=by kernel_rfl
theorem Lx:Is Tryz.prog=true:=by kernel_rfl
def Cn:P7:=Ko 1 BC [44,30,45,127,109,7] C6
theorem M9:EJ Tryz.prog Cn:=PX OP (It Lx) rfl ON (by kernel_rfl) TT
def HE:P7:=fun f xs s=>match Cn f xs s with
 | some p=>some p
 | none=>PW f xs s
theorem UJ:EJ Tryz.prog HE:=by
 intro ρ s w f xs v s1 as' hc hi hf ha
 unfold HE at hc
 cases h:Cn f xs s with
 | some p=>rw[h]at hc;injection hc with hc;subst hc;exact M9 ρ s w f xs v s1 as' h hi hf ha
 | none=>rw[h]at hc;exact ON ρ s w f xs v s1 as' hc hi hf ha
def ac:Bb:=⟨Tryz.prog,HE⟩
end
end Go.Proofs.YtickdehehcmfbaaGreatDoor.Am
set_option linter.unusedVariables false
set_option linter.unusedSimpArgs false
namespace Go.Proofs.YtickdehehcmfbaaGreatDoor.Am
open Go
noncomputable section
def I9:AV→Option Nat
 | .slice (some (i,_)) _ _=>some i
 | _=>none
section
variable{α:Type}
theorem AI.setF_succ(v:Option α)(f:Nat)(t:AI α)(k:Nat):AI.setF v (f+1) t (k+1)=if k % 2=0 then .node t.val (AI.setF v f t.left (k / 2)) t.right else .node t.val t.left (AI.setF v f t.right (k / 2)):=by
 by_cases h:k % 2=0
 ·have hb:Nat.beq (k % 2) 0=true:=by rw[h];rfl
  simp only[AI.setF,hb,cond_true,AI.nodeL_eq,AI.nodeR_eq]
  rw[if_pos h]
 ·have hb:Nat.beq (k % 2) 0=false:=AI.beq_no h
  simp only[AI.setF,hb,cond_false,AI.nodeL_eq,AI.nodeR_eq]
  rw[if_neg h]
theorem AI.setF_fuel   (v : Option α) : ∀ (f g : Nat) (t : AI   α) (k : Nat), k < f → k < g → AI.setF   v f t k = AI.setF   v g t k := by
  intro f
  induction f with
  | zero=>intro g t k h;omega
  | succ f ih =>
    intro g t k h1 h2
    cases g with
    | zero=>omega
    | succ g =>
      cases k with
      | zero=>rfl
      | succ k =>
        rw[AI.setF_succ,AI.setF_succ,ih g t.left (k / 2) (by omega) (by omega),ih g t.right (k / 2) (by omega) (by omega)]
theorem AI.setF_same(v w:Option α):∀ (f:Nat)(t:AI α)(k:Nat),k<f→AI.setF w f (AI.setF v f t k) k=AI.setF w f t k:=by
 intro f
 induction f with
 | zero=>intro t k h;omega
 | succ f ih =>
  intro t k h
  cases k with
  | zero=>rfl
  | succ k =>
   rw[AI.setF_succ,AI.setF_succ,AI.setF_succ]
   by_cases hk:k % 2=0
   ·simp only[hk,if_true,AI.val,AI.left,AI.right];rw[ih _ _ (by omega)]
   ·simp only[hk,if_false,AI.val,AI.left,AI.right];rw[ih _ _ (by omega)]
theorem AI.setF_comm   (v w : Option α) : ∀ (f : Nat) (t : AI   α) (k j : Nat), k < f → j < f → k ≠ j → AI.setF   w f (AI.setF   v f t k) j = AI.setF   v f (AI.setF   w f t j) k := by
  intro f
  induction f with
  | zero=>intro t k j h;omega
  | succ f ih =>
    intro t k j h1 h2 hne
    cases k with
    | zero =>
      cases j with
      | zero=>omega
      | succ j =>
        rw[AI.setF_succ,AI.setF_succ]
        by_cases hj:j % 2=0
        · simp only[hj,if_true,AI.setF,AI.val,AI.left,AI.right]
        · simp only[hj,if_false,AI.setF,AI.val,AI.left,AI.right]
    | succ k =>
      cases j with
      | zero =>
        rw[AI.setF_succ,AI.setF_succ]
        by_cases hk:k % 2=0
        · simp only[hk,if_true,AI.setF,AI.val,AI.left,AI.right]
        · simp only[hk,if_false,AI.setF,AI.val,AI.left,AI.right]
      | succ j =>
        simp only[AI.setF_succ]
        by_cases hk:k % 2=0<;>by_cases hj:j % 2=0
        · simp only[hk,hj,if_true,AI.val,AI.left,AI.right];rw[ih _ _ _ (by omega) (by omega) (by omega)]
        · simp only[hk,hj,if_true,if_false,AI.val,AI.left,AI.right]
        · simp only[hk,hj,if_true,if_false,AI.val,AI.left,AI.right]
        · simp only[hk,hj,if_false,AI.val,AI.left,AI.right];rw[ih _ _ _ (by omega) (by omega) (by omega)]
theorem AI.set_same(t:AI α)(k:Nat)(v w:α):(t.set k v).set k w=t.set k w:=AI.setF_same _ _ _ _ _ (by omega)
theorem AI.set_comm(t:AI α){k j:Nat}(h:k≠j)(v w:α):(t.set k v).set j w=(t.set j w).set k v:=by
 unfold AI.set AI.put
 rw[AI.setF_fuel _ (k+1) (k+j+1) t k (by omega) (by omega),AI.setF_fuel _ (j+1) (k+j+1) _ j (by omega) (by omega),AI.setF_fuel _ (j+1) (k+j+1) t j (by omega) (by omega),AI.setF_fuel _ (k+1) (k+j+1) _ k (by omega) (by omega)]
 exact AI.setF_comm _ _ _ _ _ _ (by omega) (by omega) h
theorem AI.fill_append(l m:List α):∀ (t:AI α)(k:Nat),t.fill k (l++m)=(t.fill k l).fill (k+l.length) m:=by
 induction l with
 | nil=>intro t k;rfl
 | cons a l ih=>intro t k;simp only[cO,AI.fill,ih,cN];rw[show k+1+l.length=k+(l.length+1)from by omega]
theorem AI.fill_set_below(l:List α):∀ (t:AI α)(k j:Nat)(v:α),j<k→(t.fill k l).set j v=(t.set j v).fill k l:=by
 induction l with
 | nil=>intro t k j v _;rfl
 | cons a l ih =>
  intro t k j v h
  simp only[AI.fill]
  rw[ih _ _ _ _ (by omega),AI.set_comm t (by omega)]
theorem AI.fill_set(l:List α):∀ (t:AI α)(k i:Nat)(v:α),i<l.length→(t.fill k l).set (k+i) v=t.fill k (l.set i v):=by
  induction l with
  | nil=>intro t k i v h;simp at h
  | cons a l ih =>
    intro t k i v h
    cases i with
    | zero =>
      simp only[AI.fill,dW,cQ]
      rw[AI.fill_set_below _ _ _ _ _ (by omega),AI.set_same]
    | succ i =>
      simp only[AI.fill,cR]
      rw[show k+(i+1)=k+1+i from by omega]
      exact ih _ _ _ _ (by simpa using h)
end
def Pa(l:List AV):AI AV:=AI.fill .leaf 0 l
theorem OO(l:List AV)(k:Nat):(Pa l).get k=l[k]? := by
 unfold Pa
 rw[AI.get_fill]
 by_cases h:k<l.length
 ·rw[if_pos ⟨cp _,by omega⟩];rfl
 ·rw[if_neg (by omega),cm (by omega)];rfl
def Ef(cs:List AV)(off:Nat)(vs:List AV):List AV:=match vs with
 | []=>cs
 | v::vs=>Ef (cs.set off v) (off+1) vs
theorem Fq:∀ (vs cs:List AV)(off:Nat),(Ef cs off vs).length=cs.length
 | [],_,_=>rfl
 | v::vs,cs,off=>by unfold Ef;rw[Fq];simp
theorem Lz:∀ (vs cs:List AV)(off:Nat),off+vs.length≤cs.length→(Pa cs).fill off vs=Pa (Ef cs off vs)
 | [],_,_,_=>rfl
 | v::vs,cs,off,h=>by
  simp only[AI.fill,Ef]
  have e:(Pa cs).set off v=Pa (cs.set off v):=by
   unfold Pa
   have:=AI.fill_set cs .leaf 0 off v (by simp at h;omega)
   rwa[cK]at this
  rw[e]
  exact Lz vs _ _ (by simp at h ⊢;omega)
def R(e sz:Nat)(sp:Bool)(cs:List AV):Ae:=.row { elem:=e,sz,n:=cs.length,c:=Pa cs,spare:=sp,mode:=.own,par:=none,bytes:=true }
@[irreducible] def nid (b k:Nat):Nat:=b+k
theorem AF(b k:Nat):nid b k=b+k:=by unfold nid;rfl
theorem ED(b:Nat):nid b 0=b:=by rw[AF];rfl
def ext(s:AD)(os:List Ae):AD:={ next:=nid s.next os.length,heap:=s.heap.fill s.next os }
theorem Ac(s:AD):ext s []=s:=by
 unfold ext
 rw[cP,ED];rfl
theorem Wm(s:AD)(os:List Ae):(ext s os).next=nid s.next os.length:=rfl
theorem Wp(s:AD)(i:Nat)(o:Ae):(setObj s i o).next=s.next:=rfl
theorem Wl(s:AD)(os:List Ae)(o:Ae):newObj (ext s os) o=ext s (os++[o]):=by
 unfold newObj ext
 simp only[AF,dC,cN,cP,AI.fill_append,AI.fill]
 congr 1
theorem Wn{s:AD}{os:List Ae}{b k:Nat}(o:Ae)(hb:s.next=b)(hk:k<os.length):setObj (ext s os) (nid b k) o=ext s (os.set k o):=by
 subst hb
 unfold setObj ext
 simp only[AF,List.length_set]
 rw[AI.fill_set _ _ _ _ _ hk]
theorem Wg{s:AD}{os:List Ae}{b k:Nat}(hb:s.next=b)(hk:k<os.length):(ext s os).heap.get (nid b k)=os[k]? := by
 subst hb
 show(s.heap.fill s.next os).get _=_
 rw[AI.get_fill,AF,if_pos (by omega)]
 congr 1
 omega
theorem Wh{s:AD}{os:List Ae}{i:Nat}(hi:i<s.next):(ext s os).heap.get i=s.heap.get i:=by
 show(s.heap.fill s.next os).get _=_
 rw[AI.get_fill,if_neg (by omega)]
theorem Wq(s:AD)(i:Nat)(o:Ae):(setObj s i o).heap.get i=some o:=by
 show(s.heap.set i o).get i=_
 rw[AI.get_set,if_pos rfl]
theorem Wr{s:AD}{i j:Nat}(o:Ae)(h:j≠i):(setObj s i o).heap.get j=s.heap.get j:=by
 show(s.heap.set i o).get j=_
 rw[AI.get_set,if_neg h]
def TG:Option Ae→Option CL
 | some (.row r)=>some r
 | _=>none
def CW(o:Option Ae)(off:Nat):Option AV:=(TG o).bind fun r=>AH (Nat.blt off r.n) (r.c.get off)
def BF(o:Option Ae)(off n:Nat):Option (List AV):=(TG o).bind fun r=>AH (Nat.ble (off+n) r.n) (r.c.take off n)
def ZJ(kt:TypeId):Option Ae→Option (List (AV×AV))
 | some (.map kt' es)=>AH (Nat.beq kt' kt) (some es)
 | _=>none
theorem Kz(s:AD)(i:Nat):rowAt s i=TG (s.heap.get i):=rfl
theorem Kl(s:AD)(i off:Nat):Cs s i off=CW (s.heap.get i) off:=rfl
theorem EY(s:AD)(i off n:Nat):BX s i off n=BF (s.heap.get i) off n:=rfl
theorem Ea(s:AD)(kt i:Nat):Fl s kt i=ZJ kt (s.heap.get i):=rfl
theorem Wi(e sz:Nat)(sp:Bool)(cs:List AV)(off:Nat):CW (some (R e sz sp cs)) off=cs[off]? := by
 show AH (Nat.blt off cs.length) ((Pa cs).get off)=_
 rw[OO]
 by_cases h:off<cs.length
 ·have:Nat.blt off cs.length=true:=by rw[cy];exact h
  rw[this];rfl
 ·have:Nat.blt off cs.length=false:=by
   cases hb:Nat.blt off cs.length with
   | false=>rfl
   | true=>rw[cy]at hb;exact absurd hb h
  rw[this,cm (by omega)];rfl
theorem MQ:∀ (n:Nat)(cs:List AV)(off:Nat),off+n≤cs.length→(Pa cs).take off n=some ((cs.drop off).take n)
 | 0,cs,off,_=>by simp[AI.take]
 | n+1,cs,off,h=>by
  have hg:cs[off]? = some cs[off]:=cY (by omega)
  simp only[AI.take,OO,hg,MQ n cs (off+1) (by omega)]
  rw[show cs.drop off=cs[off]::cs.drop (off+1)from(List.drop_eq_getElem_cons (by omega))]
  rfl
theorem Wj{e sz:Nat}{sp:Bool}{cs:List AV}{off n:Nat}(h:off+n≤cs.length):BF (some (R e sz sp cs)) off n=some ((cs.drop off).take n):=by
 show AH (Nat.ble (off+n) cs.length) ((Pa cs).take off n)=_
 have:Nat.ble (off+n) cs.length=true:=by rw[ce];exact h
 rw[this,MQ n cs off h];rfl
theorem Db(kt:TypeId)(es:List (AV×AV)):ZJ kt (some (.map kt es))=some es:=by simp[ZJ,AH]
theorem Wd(s:AD)(i off:Nat):Bt s i off []=some s:=rfl
end
end Go.Proofs.YtickdehehcmfbaaGreatDoor.Am
set_option linter.unusedVariables false
set_option linter.unusedSimpArgs false
namespace Go.Proofs.YtickdehehcmfbaaGreatDoor.Am
open Go Go.Proofs
noncomputable section
inductive Tm where
 | var (id:Int)
 | bnd (i:Int)
 | con (n:Nat)
 | sel (d k:Tm)
 | upd (d k a:Tm)
 deriving DecidableEq
namespace Tm
def kids:Tm→List Tm
 | sel d k=>[d,k]
 | upd d k a=>[d,k,a]
 | _=>[]
def kind:Tm→Int
 | var _=>0
 | bnd _=>1
 | con _=>2
 | sel ..=>3
 | upd ..=>4
def id:Tm→Int
 | var i=>i
 | bnd i=>i
 | _=>0
def ktext:Tm→List Nat
 | con n=>(Ex.getD n ([],[])).1
 | _=>[]
def nullC:List AV:=[.int .i64 0,.bool false,.str [],.str [],.slice none 0 (some 0),.slice none 0 (some 0),.int .i64 0]
def cells:Tm→List AV
 | con n=>(Ex.getD n ([],nullC)).2
 | _=>nullC
def ok:Tm→Prop
 | var i=>i64 i
 | bnd i=>0≤i∧i64 i
 | con n=>n<13
 | _=>True
def sz:Tm→Nat
 | sel d k=>min (min (1+d.sz) 4097+k.sz) 4097
 | upd d k a=>min (min (min (1+d.sz) 4097+k.sz) 4097+a.sz) 4097
 | _=>1
def has(x:Int):Tm→Bool
 | var i=>decide (i=x)
 | sel d k=>d.has x || k.has x
 | upd d k a=>d.has x || k.has x || a.has x
 | _=>false
theorem sz_pos:∀t:Tm,1≤t.sz∧t.sz≤4097
 | var _ | bnd _ | con _=>by simp[sz]
 | sel d k=>by have:=sz_pos d;have:=sz_pos k;simp only[sz];omega
 | upd d k a=>by have:=sz_pos d;have:=sz_pos k;have:=sz_pos a;simp only[sz];omega
end Tm
structure Hx(S:List Tm):Prop where
 nd:S.Nodup
 cl:∀ (i:Nat) (t:Tm),S[i]? = some t→∀k∈t.kids,∃j:Nat,j<i∧S[j]? = some k
 ok:∀t∈S,t.ok
def ix(S:List Tm)(t:Tm):Nat:=S.idxOf t
theorem C0{S:List Tm}{t:Tm}(h:t∈S):S[ix S t]? = some t:=by
 have hl:=dp h
 rw[ix,cY hl,List.getElem_idxOf hl]
theorem E8{S:List Tm}{t:Tm}(h:t∈S):ix S t<S.length:=dp h
theorem HA{S:List Tm}{t u:Tm}(h:t∈S)(k:u∈S)(e:ix S t=ix S u):t=u:=by
 have h1:=C0 h
 rw[e,C0 k]at h1
 injection h1 with h1
 exact h1.symm
theorem X8{S:List Tm}(hn:S.Nodup){i:Nat}{t:Tm}(h:S[i]? = some t):ix S t=i:=by
 have hm:=cu h
 have h1:=C0 hm
 have hi:i<S.length:=by
  rcases cZ i S.length with h' | h'
  ·exact h'
  ·rw[cm h']at h;cases h
 have hl:=E8 hm
 rw[cY hi]at h
 rw[cY hl]at h1
 injection h with h
 injection h1 with h1
 exact(List.getElem_inj hn).1 (h1.trans h.symm)
theorem DM{S:List Tm}{t:Tm}(u:List Tm)(h:t∈S):ix (S++u) t=ix S t:=by
 unfold ix
 rw[List.idxOf_append,if_pos h]
theorem Sd{S:List Tm}{u:Tm}(h:u ∉ S):ix (S++[u]) u=S.length:=by
 unfold ix
 rw[List.idxOf_append,if_neg h]
 simp
theorem Hx.kid{S:List Tm}(h:Hx S){t k:Tm}(ht:t∈S)(hk:k∈t.kids):k∈S∧ix S k<ix S t:=by
 obtain⟨j,h1,h2⟩:=h.cl _ _ (C0 ht) k hk
 exact⟨cu h2,by rw[X8 h.nd h2];exact h1⟩
theorem Hx.push  {S : List Tm} (h : Hx  S) {u : Tm} (hu : u ∉ S) (hk : ∀ k ∈ u.kids, k ∈ S) (ho : u.ok) : Hx  (S ++ [u]) where
  nd:=by
    rw[List.nodup_append]
    refine⟨h.nd,by simp,fun a ha b hb e=>?_⟩
    simp at hb
    subst hb;subst e
    exact hu ha
  cl := by
    intro i t hi k hkt
    rcases cZ i S.length with hl | hl
    · rw[dA hl]at hi
      obtain⟨j,h1,h2⟩:=h.cl i t hi k hkt
      exact⟨j,h1,by rw[dA (by omega)];exact h2⟩
    · rw[dB hl]at hi
      have:i - S.length=0:=by
        rcases dK (i - S.length)with e | e
        · exact e
        · rw[cm (by simp;omega)]at hi;cases hi
      rw[this]at hi
      simp at hi
      subst hi
      have hm:=hk k hkt
      exact⟨ix S k,by have:=E8 hm;omega,by rw[dA (E8 hm)];exact C0 hm⟩
  ok:=fun t ht=>by
    rcases List.mem_append.1 ht with h' | h'
    · exact h.ok t h'
    · simp at h';subst h';exact ho
def part(S:List Tm)(t:Tm)(k:Nat):Int:=match t.kids[k]? with
 | some u=>(ix S u:Int)
 | none=>0
def BG(S:List Tm)(t:Tm):List AV:=[iv t.kind,iv t.id,iv (part S t 0),iv (part S t 1),iv (part S t 2),.str t.ktext]
theorem FD{S:List Tm}{t:Tm}(u:List Tm)(h:∀k∈t.kids,k∈S)(k:Nat):part (S++u) t k=part S t k:=by
 unfold part
 cases e:t.kids[k]? with
 | none=>rfl
 | some x=>show(ix (S++u) x:Int)=ix S x;rw[DM u (h x (cu e))]
theorem Cp{S:List Tm}{t:Tm}(u:List Tm)(h:∀k∈t.kids,k∈S):BG (S++u) t=BG S t:=by
 unfold BG
 rw[FD u h,FD u h,FD u h]
theorem R8:∀a,a<13→∀b,b<13→(Ex.getD a ([],[])).1=(Ex.getD b ([],[])).1→a=b:=by decide
theorem Se{S:List Tm}{t u:Tm}(ht:∀k∈t.kids,k∈S)(hu:∀k∈u.kids,k∈S)(ot:t.ok)(ou:u.ok)(h:BG S t=BG S u):t=u:=by
  unfold BG at h
  simp only[List.cons.injEq,and_true,AV.int.injEq,true_and,AV.str.injEq]at h
  obtain⟨h1,h2,h3,h4,h5,h6⟩:=h
  cases t<;>cases u<;>first | (simp[Tm.kind]at h1;done) | skip
  · have e:_=_:=h2
    simp only[Tm.id]at e
    rw[e]
  · have e:_=_:=h2
    simp only[Tm.id]at e
    rw[e]
  · rename_i a b
    rw[R8 a ot b ou h6]
  · rename_i a b c d
    have e1:(ix S a:Int)=ix S c:=h3
    have e2:(ix S b:Int)=ix S d:=h4
    rw[HA (ht a (by simp[Tm.kids])) (hu c (by simp[Tm.kids])) (by omega),HA (ht b (by simp[Tm.kids])) (hu d (by simp[Tm.kids])) (by omega)]
  · rename_i a b x c d y
    have e1:(ix S a:Int)=ix S c:=h3
    have e2:(ix S b:Int)=ix S d:=h4
    have e3:(ix S x:Int)=ix S y:=h5
    rw[HA (ht a (by simp[Tm.kids])) (hu c (by simp[Tm.kids])) (by omega),HA (ht b (by simp[Tm.kids])) (hu d (by simp[Tm.kids])) (by omega),HA (ht x (by simp[Tm.kids])) (hu y (by simp[Tm.kids])) (by omega)]
theorem PK(S:List Tm)(t u:Tm):∃b,Cq (.agg (BG S t)) (.agg (BG S u))=some b∧(b=true↔BG S t=BG S u):=by
 have si:∀a b:Int,N9 a b=decide (a=b):=fun a b=>by rw[Cy];rfl
 have ss:∀a b:List Nat,Bu a b=decide (a=b):=fun a b=>by
  rw[Bool.eq_iff_iff,decide_eq_true_eq];exact HQ
 refine⟨_,by simp only[BG,Cq,Cq.keysEq,Bg,AH,cond_true,Option.bind_some];rfl,?_⟩
 simp only[BG,si,ss,Bool.and_eq_true,decide_eq_true_eq,List.cons.injEq,and_true,AV.int.injEq,true_and,AV.str.injEq,Bool.and_true]
def CQ(S:List Tm):List (AV×AV):=S.map fun t=>(.agg (BG S t),iv (ix S t))
theorem Ig{S:List Tm}{u:Tm}(hs:Hx S)(hu:u ∉ S)(hk:∀k∈u.kids,k∈S):CQ (S++[u])=CQ S++[(.agg (BG S u),iv (S.length:Int))]:=by
  unfold CQ
  rw[dY]
  congr 1
  · refine dr                  fun t ht => ?_
    rw[Cp [u] fun k hkk=>(hs.kid ht hkk).1,DM [u] ht]
  · simp only[cz,List.map_nil,Sd hu,Cp [u] hk]
theorem HY          {S : List Tm} (hs : Hx  S) {u : Tm} (hk : ∀ k ∈ u.kids, k ∈ S) (ho : u.ok) : ∀ (l : List Tm) (i : Nat), (∀ t ∈ l, t ∈ S) →
    CP (.agg (BG S u)) (l.map fun t=>(.agg (BG S t),iv (ix S t))) i=some (if u∈l then some (i+l.idxOf u,iv (ix S u))else none)
  | [],i,_=>by simp[CP]
  | t::l,i,h=>by
    obtain⟨b,hb,hbi⟩:=PK S u t
    simp only[cz,CP,hb,Option.bind_some]
    by_cases e:u=t
    · subst e
      rw[hbi.2 rfl]
      simp
    · have hne : BG   S u ≠ BG   S t := fun h' => e (Se       hk (fun k hkk => (hs.kid (h t ck)                 hkk).1) ho (hs.ok t (h t ck))                 h')
      have hbf:b=false:=by
        cases b with
        | false=>rfl
        | true=>exact absurd (hbi.1 rfl) hne
      rw[hbf]
      simp only
      rw[HY hs hk ho l (i+1) fun x hx=>h x (cn _ hx)]
      by_cases hm:u∈l
      · rw[if_pos hm,if_pos (cn _ hm)]
        have:(t::l).idxOf u=l.idxOf u+1:=by rw[List.idxOf_cons,beq_false_of_ne (Ne.symm e)];rfl
        rw[this,show i+1+l.idxOf u=i+(l.idxOf u+1)from by omega]
      · rw[if_neg hm,if_neg (by simp[e,hm])]
theorem If{S:List Tm}(hs:Hx S){u:Tm}(hk:∀k∈u.kids,k∈S)(ho:u.ok):CP (.agg (BG S u)) (CQ S) 0=some (if u∈S then some (ix S u,iv (ix S u))else none):=by
 have:=HY hs hk ho S 0 fun _ h=>h
 rw[cK]at this
 exact this
def A6(ks:List Int):List (AV×AV):=ks.map fun k=>(iv k,iv 1)
def Fv(ks:List Int)(k:Int):List Int:=if k∈ks then ks else ks++[k]
theorem Id         (k : Int) : ∀ (ks : List Int) (i : Nat), CP    (iv k) (A6     ks) i = some (if k ∈ ks then some (i + ks.idxOf k, iv 1) else none)
  | [],i=>by simp[CP,A6]
  | x::ks,i=>by
    have h1:Cq (iv k) (iv x)=some (decide (k=x)):=by simp[Cq,Bg,AH,Cy];rfl
    show(Cq (iv k) (iv x)).bind _=_
    rw[h1,Option.bind_some]
    by_cases e:k=x
    · subst e;simp
    · simp only [e, decide_false]
      show CP (iv k) (A6 ks) (i+1)=_
      rw[Id k ks (i+1)]
      by_cases hm:k∈ks
      · rw[if_pos hm,if_pos (cn _ hm)]
        have:(x::ks).idxOf k=ks.idxOf k+1:=by rw[List.idxOf_cons,beq_false_of_ne (Ne.symm e)];rfl
        rw[this,show i+1+ks.idxOf k=i+(ks.idxOf k+1)from by omega]
      · rw[if_neg hm,if_neg (by simp[e,hm])]
theorem Hs:∀ (ks:List Int)(i:Nat),setNth (A6 ks) i (iv 1)=A6 ks
 | [],_=>rfl
 | k::ks,0=>rfl
 | k::ks,i+1=>by show(iv k,iv 1)::setNth (A6 ks) i (iv 1)=_;rw[Hs ks i];rfl
theorem Jz(ks:List Int)(k:Int):JP (iv k) (iv 1) (A6 ks)=some (A6 (Fv ks k)):=by
 unfold JP Fv
 rw[Id,Option.bind_some]
 by_cases h:k∈ks
 ·rw[if_pos h,if_pos h]
  simp only[Hs]
 ·rw[if_neg h,if_neg h]
  simp[A6]
theorem Hp:∀ (ms ks:List Int),HH (A6 ms) (A6 ks)=some (A6 (ms.foldl Fv ks))
 | [],_=>rfl
 | m::ms,ks=>by
  show(JP (iv m) (iv 1) (A6 ks)).bind _=_
  rw[Jz,Option.bind_some]
  exact Hp ms _
theorem MY{ks:List Int}(h:ks.Nodup)(k:Int):(Fv ks k).Nodup:=by
  unfold Fv
  split
  · exact h
  · rename_i hk
    rw[List.nodup_append]
    exact⟨h,by simp,fun a ha b hb e=>by simp at hb;subst hb;subst e;exact hk ha⟩
theorem Sl{ks:List Int}{k x:Int}:x∈Fv ks k↔x∈ks∨x=k:=by
 unfold Fv
 split
 ·rename_i hk
  exact⟨.inl,fun h=>h.elim (fun h=>h) (fun h=>by rw[h];exact hk)⟩
 ·simp
theorem HZ:∀ (ms:List Int){ks:List Int},ks.Nodup→(ms.foldl Fv ks).Nodup
 | [],_,h=>h
 | m::ms,_,h=>HZ ms (MY h m)
theorem Jp{x:Int}:∀ (ms:List Int){ks:List Int},x∈ms.foldl Fv ks↔x∈ks∨x∈ms
  | [],_=>by simp
  | m::ms,ks=>by
    rw[dX,Jp ms,Sl]
    simp only[dE]
    constructor
    · rintro ((h | h) | h)
      · exact .inl h
      · exact .inr (.inl h)
      · exact .inr (.inr h)
    · rintro (h | h | h)
      · exact .inl (.inl h)
      · exact .inl (.inr h)
      · exact .inr h
theorem GZ:∀ (ms:List Int)(ks:List Int),(ms.foldl Fv ks).length≤ks.length+ms.length
 | [],ks=>by simp
 | m::ms,ks=>by
  rw[dX]
  have:=GZ ms (Fv ks m)
  have h:(Fv ks m).length≤ks.length+1:=by unfold Fv;split<;>simp
  simp;omega
end
end Go.Proofs.YtickdehehcmfbaaGreatDoor.Am
set_option linter.unusedVariables false
set_option linter.unusedSimpArgs false
namespace Go.Proofs.YtickdehehcmfbaaGreatDoor.Am
open Go
noncomputable section
section
variable{P:Program}{s:AD}{os:List Ae}{b k i o off n t e sz:Nat}{sp:Bool}{cs vs:List AV}
theorem Xb(cs:List AV):(AV.agg cs).cells=cs:=rfl
theorem Xc(q:IntKind)(n:Int):(AV.int q n).cells=[.int q n]:=rfl
theorem Xd(l:List Nat):(AV.str l).cells=[.str l]:=rfl
theorem Xe(x:Bool):(AV.bool x).cells=[.bool x]:=rfl
theorem Xf(m:Option Nat):(AV.map m).cells=[.map m]:=rfl
theorem Xg(a:Option (Nat×Nat)):(AV.ptr a).cells=[.ptr a]:=rfl
theorem Xh(a:Option (Nat×Nat))(n:Nat)(c:Option Nat):(AV.slice a n c).cells=[.slice a n c]:=rfl
theorem Xi(f:FuncId)(a c:List AV):(AV.func f a c).cells=[.func f a c]:=rfl
theorem Xj:Aa []=true:=rfl
theorem Xk(v:AV)(l:List AV):Aa (v::l)=(v.isCell && Aa l):=rfl
theorem Xl(q:IntKind)(n:Int):(AV.int q n).isCell=true:=rfl
theorem Xm(l:List Nat):(AV.str l).isCell=true:=rfl
theorem Xn(x:Bool):(AV.bool x).isCell=true:=rfl
theorem Xo(m:Option Nat):(AV.map m).isCell=true:=rfl
theorem Xp(a:Option (Nat×Nat)):(AV.ptr a).isCell=true:=rfl
theorem Xq(a:Option (Nat×Nat))(n:Nat)(c:Option Nat):(AV.slice a n c).isCell=true:=rfl
theorem Xr(f:FuncId)(a c:List AV):(AV.func f a c).isCell=true:=rfl
theorem Xa{α:Type}(x:Option α):AH true x=x:=rfl
theorem Tp(a b:Nat):Nat.beq a b=decide (a=b):=by
 rw[Bool.eq_iff_iff,decide_eq_true_eq,dN]
theorem Tq(a b:Nat):Nat.ble a b=decide (a≤b):=by
 rw[Bool.eq_iff_iff,decide_eq_true_eq,ce]
theorem Rz(h:Cw P t=some false):AG P s t (.ptr (some (i,o)))=CW (s.heap.get i) o:=by
 unfold AG
 rw[h];rfl
theorem Wa(h:Cw P t=some true):AG P s t (.ptr (some (i,o)))=(Ap P t).bind fun n=>(BF (s.heap.get i) o n).bind fun l=>some (.agg l):=by
 unfold AG
 rw[h];rfl
theorem Wb(v:AV):At P s t (.ptr (some (i,o))) v=(Ap P t).bind fun n=>AH (decide (v.cells.length=n)) (Bt s i o v.cells):=by
 unfold At
 simp only[Tp]
def bM:Option Ae→Bool
 | some (.row r)=>C4 r.mode && r.par.isNone
 | _=>false
def ak(off:Nat)(vs:List AV):Option Ae→Option Ae
 | some (.row r)=>AH (Nat.ble (off+vs.length) r.n && Aa vs) (some (.row { r with c:=r.c.fill off vs,par:=none }))
 | _=>none
theorem We(e sz:Nat)(sp:Bool)(cs:List AV):bM (some (R e sz sp cs))=true:=rfl
theorem Wf(e sz:Nat)(sp:Bool)(cs vs:List AV)(off:Nat):ak off vs (some (R e sz sp cs))=AH (decide (off+vs.length≤cs.length) && Aa vs) (some (R e sz sp (Ef cs off vs))):=by
 show AH (Nat.ble (off+vs.length) cs.length && Aa vs) (some (Ae.row { elem:=e,sz,n:=cs.length,c:=(Pa cs).fill off vs,spare:=sp,mode:=.own,par:=none,bytes:=true }))=_
 rw[Tq]
 by_cases h:off+vs.length≤cs.length
 ·rw[Lz _ _ _ h]
  simp only[h,decide_true]
  rw[R,Fq]
 ·simp only[h,decide_false,Bool.false_and]
  rfl
theorem Wc{v:AV}(h:bM (s.heap.get i)=true):Bt s i off (v::vs)=(ak off (v::vs) (s.heap.get i)).bind fun o'=>some (setObj s i o'):=by
 unfold Bt
 rw[Kz]
 cases hg:s.heap.get i with
 | none=>rw[hg]at h;cases h
 | some ob =>
  rw[hg]at h
  cases ob<;>first | (cases h;done) | skip
  rename_i r
  simp only[bM,Bool.and_eq_true]at h
  have hp:r.par=none:=by cases hh:r.par with | none=>rfl | some _=>rw[hh]at h;simp at h
  show AH (C4 r.mode && Nat.ble (off+(v::vs).length) r.n && Aa (v::vs)) _=(AH (Nat.ble (off+(v::vs).length) r.n && Aa (v::vs)) _).bind _
  rw[h.1,Bool.true_and,A4,hp]
  cases Nat.ble (off+(v::vs).length) r.n && Aa (v::vs)<;>rfl
theorem Ws(cs:List AV)(off:Nat):Ef cs off []=cs:=rfl
theorem Wt(cs:List AV)(off:Nat)(v:AV)(vs:List AV):Ef cs off (v::vs)=Ef (cs.set off v) (off+1) vs:=rfl
theorem Wu(e:TypeId)(v:AV):Cx e v=some (R e 0 false v.cells,.ptr):=rfl
theorem Wv(e:TypeId):Bl P e=(Bv P e).bind fun z=>some (R e 0 false z.cells,.ptr):=rfl
theorem Ww(i:Nat):Made.ptr.val i=.ptr (some (i,0)):=rfl
theorem Wx(i:Nat):Made.map.val i=.map (some i):=rfl
theorem Wy(i n:Nat):(Made.slice n).val i=.slice (some (i,0)) n (some n):=rfl
theorem Wz(a:Nat×Nat):AX (.ptr (some a))=some (.ptr (some a)):=rfl
end
def C2(e:TypeId)(sz:Nat)(s:AD)(v:AV)(n:Nat)(cs:List AV)(O:List Nat):Prop:=
 (v=.slice none 0 (some 0)∧n=0∧cs=[]∧O=[])∨∃i p,v=.slice (some (i,0)) n none∧FZ e 0 s.next s v n sz cs i p∧O=i::p.toList
section
variable{e sz n:Nat}{s s':AD}{v:AV}{cs:List AV}{O:List Nat}
theorem C2.nil(e sz:Nat)(s:AD):C2 e sz s (.slice none 0 (some 0)) 0 [] []:=.inl ⟨rfl,rfl,rfl,rfl⟩
theorem C2.len(h:C2 e sz s v n cs O):cs.length=n * sz:=by
 rcases h with⟨_,rfl,rfl,_⟩ | ⟨i,p,_,h,_⟩
 ·simp
 ·exact h.len
theorem C2.lt  (h : C2  e sz s v n cs O) : ∀ j ∈ O, j < s.next := by
  rcases h with⟨_,_,_,rfl⟩ | ⟨i,p,hv,h,rfl⟩
  · intro j hj;cases hj
  · rcases h.ex with ⟨h1, _⟩ | ⟨_, _, h2, h3, _⟩
    · rw[hv]at h1;cases h1
    · intro j hj
      rcases dE.1 hj with rfl | hj
      · exact h2
      · cases p with
        | none=>cases hj
        | some q=>simp at hj;subst hj;exact(h3 _ rfl).2.1
theorem C2.frame(h:C2 e sz s v n cs O)(hn:s.next≤s'.next)(hf:∀j∈O,s'.heap.get j=s.heap.get j):C2 e sz s' v n cs O:=by
 rcases h with h | ⟨i,p,hv,h,rfl⟩
 ·exact .inl h
 ·exact .inr ⟨i,p,hv,(h.mono hn).frame fun _ _=>hf i (by simp),rfl⟩
theorem C2.slice(h:C2 e sz s v n cs O):∃a cap,v=.slice a n cap∧FL s.next s a cs:=by
 rcases h with⟨rfl,rfl,rfl,_⟩ | ⟨i,p,_,h,_⟩
 ·exact⟨none,some 0,rfl,FL.nil⟩
 ·exact h.cells
theorem C2.row(h:C2 e sz s v n cs O):(v=.slice none 0 (some 0)∧n=0∧cs=[])∨∃i r,v=.slice (some (i,0)) n none∧i∈O∧s.heap.get i=some (.row r)∧IF r cs:=by
  rcases h with⟨h1,h2,h3,_⟩ | ⟨i,p,hv,h,rfl⟩
  · exact .inl ⟨h1,h2,h3⟩
  · rcases h.ex with ⟨h1, _⟩ | ⟨_, _, _, _, r, h4, h5, _⟩
    · rw[hv]at h1;cases h1
    · exact .inr ⟨i,r,hv,by simp,h4,h5⟩
theorem ZE{r:CL}{cs:List AV}(h:IF r cs){k:Nat}{u:AV}(hk:cs[k]? = some u):CW (some (.row r)) k=some u:=by
 have hlt:k<cs.length:=by
  rcases cZ k cs.length with h' | h'
  ·exact h'
  ·rw[cm h']at hk;cases hk
 show AH (Nat.blt k r.n) (r.c.get k)=_
 rw[QC (show k<r.n by rw[h.1];exact hlt)]
 exact h.2 k u hk
theorem ES{r:CL}{cs:List AV}(h:IF r cs){o m:Nat}(hle:o+m≤cs.length):BF (some (.row r)) o m=some ((cs.drop o).take m):=by
 show AH (Nat.ble (o+m) r.n) (r.c.take o m)=_
 rw[CO (show o+m≤r.n by rw[h.1];exact hle)]
 have hl:((cs.drop o).take m).length=m:=by simp;omega
 have:=h.take o ((cs.drop o).take m) (fun j u hj=>by
  have hjm:j<m:=by
   rcases cZ j m with h' | h'
   ·exact h'
   ·rw[cm (by omega)]at hj;cases hj
  rw[de hjm,df]at hj
  exact hj)
 rw[hl]at this
 exact this
theorem C2.append  {P : Program} {st xt by_ : Nat} (ht : P.underlying st = some (.slice e)) (hs : Ap    P e = some sz) (hb : CE     P e = some by_) (h0 : 0 < sz) (hx : BW           P xt = true) (hz : B6     P e sz = true) (h : C2  e sz s v n cs O)
    {ax:Option (Nat×Nat)} {m:Nat} {cx:Option Nat} {add:List AV} (hm:0<m) (hsrc:CU P s e sz (.slice ax m cx)=some (m,add)) (ha:add.length=m * sz) (hc:Aa add=true) (h1:(n+m) * by_≤1099511627776) (h2:n+m≤1099511627776):
    ∃v' s' O',Aj P s [st,xt] [v,.slice ax m cx]=some (v',s')∧C2 e sz s' v' (n+m) (cs++add) O'∧s'.next=s.next+1∧(∀j,j<s.next→j ∉ O→s'.heap.get j=s.heap.get j)∧(∀j∈O',j∈O∨s.next≤j)∧I9 v'=some s.next:=by
  have key:∀ (i:Nat) (p:Option Nat),FZ e 0 s.next s v n sz cs i p→(∀j,j<s.next→j ∉ O→j≠i∧p≠some j)→(∀j,j=i∨p=some j→j∈O∨s.next≤j) →
      ∃v' s' O',Aj P s [st,xt] [v,.slice ax m cx]=some (v',s')∧C2 e sz s' v' (n+m) (cs++add) O'∧s'.next=s.next+1∧(∀j,j<s.next→j ∉ O→s'.heap.get j=s.heap.get j)∧(∀j∈O',j∈O∨s.next≤j)∧I9 v'=some s.next:=by
    intro i p hg hi hO
    obtain⟨a,cap,v',s',rfl,happ,i',p',hg',hap,_,rfl,hp',hn',_⟩:=hg.appTo (P:=P) (cJ _) (cp _) hz h0 ha hm
    have hv':v'=.slice (some (s.next,0)) (n+m) none:=by
      rcases hg'.ex with⟨_,h0'⟩ | ⟨h1',_⟩
      · omega
      · exact h1'
    refine⟨v',s',s.next::p'.toList,by rw[MZ ht hs hb h0 hx hsrc hc h1 h2];exact happ,.inr ⟨s.next,p',hv',hg',rfl⟩,hn',fun j hj hjO=>?_,fun j hj=>?_,by rw[hv'];rfl⟩
    · exact hap.2 j hj (hi j hj hjO).1 (hi j hj hjO).2
    · rcases dE.1            hj with rfl | hj
      · exact .inr (cJ _)
      · rcases hp' with rfl | rfl
        · cases hj
        · simp at hj;subst hj;exact hO _ (.inl rfl)
  rcases h with⟨rfl,rfl,rfl,rfl⟩ | ⟨i,p,rfl,hg,rfl⟩
  · exact key s.next none (FZ.zero _ _ _ _ _ _ _) (fun j hj _=>⟨by omega,by simp⟩) (fun j hj=>by rcases hj with rfl | hj;exact .inr (cJ _);cases hj)
  · refine key i p hg (fun j hj hjO => ⟨fun e => hjO (by simp [e]), fun e => hjO (by simp [e])⟩) (fun j hj => ?_)
    rcases hj with rfl | rfl<;>simp
end
end
end Go.Proofs.YtickdehehcmfbaaGreatDoor.Am
set_option linter.unusedVariables false
set_option linter.unusedSimpArgs false
set_option maxRecDepth 100000
namespace Go.Proofs.YtickdehehcmfbaaGreatDoor.Am
open Go Go.Proofs
noncomputable section
theorem Dt:Ap Tryz.prog 3=some 1:=by kernel_rfl
theorem Zb:CE Tryz.prog 3=some 8:=by kernel_rfl
theorem CV:Cw Tryz.prog 3=some false:=by kernel_rfl
theorem cI:Bv Tryz.prog 3=some (.int .i64 (0)):=by kernel_rfl
theorem G8(i o:Nat):AA Tryz.prog 62 (.ptr (some (i,o))) 0=some (.ptr (some (i,o+0))):=by kernel_rfl
theorem SM(i o:Nat):AA Tryz.prog 62 (.ptr (some (i,o))) 1=some (.ptr (some (i,o+1))):=by kernel_rfl
theorem Gz:Cw Tryz.prog 25=some false:=by kernel_rfl
theorem K3:Ap Tryz.prog 70=some 16:=by kernel_rfl
theorem bI:CE Tryz.prog 70=some 184:=by kernel_rfl
theorem To:Cw Tryz.prog 70=some true:=by kernel_rfl
theorem Za:Bv Tryz.prog 70=some (.agg [(.int .i64 (0)),(.int .i64 (0)),(.int .i64 (0)),(.int .i64 (0)),(.int .i64 (0)),(.str []),(.int .i64 (0)),(.bool false),(.str []),(.str []),(.slice none 0 (some 0)),(.slice none 0 (some 0)),(.int .i64 (0)),(.int .i64 (0)),(.int .i64 (0)),(.map none)]):=by kernel_rfl
theorem Dw(i o:Nat):AA Tryz.prog 70 (.ptr (some (i,o))) 0=some (.ptr (some (i,o+0))):=by kernel_rfl
theorem SO(i o:Nat):AA Tryz.prog 70 (.ptr (some (i,o))) 2=some (.ptr (some (i,o+13))):=by kernel_rfl
theorem Y8(i o:Nat):AA Tryz.prog 70 (.ptr (some (i,o))) 3=some (.ptr (some (i,o+14))):=by kernel_rfl
theorem ZB(cs:List AV):Fw Tryz.prog 70 (.agg cs) 3=cs[14]? := by kernel_rfl
theorem SP(i o:Nat):AA Tryz.prog 70 (.ptr (some (i,o))) 4=some (.ptr (some (i,o+15))):=by kernel_rfl
theorem ZC(cs:List AV):Fw Tryz.prog 70 (.agg cs) 4=cs[15]? := by kernel_rfl
theorem bS:Ap Tryz.prog 59=some 1:=by kernel_rfl
theorem Om:Cw Tryz.prog 59=some false:=by kernel_rfl
theorem ZV:Ap Tryz.prog 65=some 6:=by kernel_rfl
theorem YH:Cw Tryz.prog 65=some true:=by kernel_rfl
theorem Dv(i o:Nat):AA Tryz.prog 65 (.ptr (some (i,o))) 0=some (.ptr (some (i,o+0))):=by kernel_rfl
theorem EQ(i o:Nat):AA Tryz.prog 65 (.ptr (some (i,o))) 1=some (.ptr (some (i,o+1))):=by kernel_rfl
theorem SN(i o:Nat):AA Tryz.prog 65 (.ptr (some (i,o))) 2=some (.ptr (some (i,o+2))):=by kernel_rfl
theorem Zr:Cw Tryz.prog 60=some false:=by kernel_rfl
theorem bT:Ap Tryz.prog 68=some 1:=by kernel_rfl
theorem On:Cw Tryz.prog 68=some false:=by kernel_rfl
theorem bY:Bv Tryz.prog 68=some (.map none):=by kernel_rfl
theorem bQ:Ap Tryz.prog 27=some 1:=by kernel_rfl
theorem Fb:Cw Tryz.prog 27=some false:=by kernel_rfl
theorem bW:Bv Tryz.prog 27=some (.slice none 0 (some 0)):=by kernel_rfl
theorem H0:Ap Tryz.prog 43=some 7:=by kernel_rfl
theorem II:Cw Tryz.prog 43=some true:=by kernel_rfl
theorem ay:Bv Tryz.prog 43=some (.agg [(.int .i64 (0)),(.bool false),(.str []),(.str []),(.slice none 0 (some 0)),(.slice none 0 (some 0)),(.int .i64 (0))]):=by kernel_rfl
theorem SJ(i o:Nat):AA Tryz.prog 43 (.ptr (some (i,o))) 0=some (.ptr (some (i,o+0))):=by kernel_rfl
theorem SK(i o:Nat):AA Tryz.prog 43 (.ptr (some (i,o))) 4=some (.ptr (some (i,o+4))):=by kernel_rfl
def Us:List AC:=[
 ⟨none,.p1 some,[(.const (.int .i64 (0)))],(.set 1),[]⟩]
def Ut:List AC:=[
 ⟨none,.p2 (AQ Tryz.prog .eql 25),[(.var 0),(.const (.ptr none))],(.set 2),[]⟩]
def Zw:List AC:=[
 ⟨none,.p1 some,[(.const (.int .i64 (0)))],(.set 1),[]⟩]
def Uu:List AC:=[
 ⟨none,.p1 AX,[.var 0],.push,[]⟩,
 ⟨none,.p1 (fun x=>AA Tryz.prog 62 x 0),[.loc 0],.push,[]⟩,
 ⟨none,.r1 (fun s a=>AG Tryz.prog s 59 a),[.loc 0],.push,[]⟩,
 ⟨none,.r (fun s l=>match l with | [x]=>BN Tryz.prog s 59 x | _=>none),[.loc 0],.push,[]⟩,
 ⟨none,.p1 some,[.loc 0],(.set 1),[]⟩]
def Zu:Al:=⟨1,3,(.seq (.ops Us) (.seq (.seq (.ops Ut) (.cond (.var 2)
 (.seq (.ops Zw) .ret)
 .skip)) (.seq (.ops Uu) .ret))),[((.var 1),none)]⟩
def Uv:List AC:=[
 ⟨none,.p1 some,[(.const (.int .i64 (0)))],(.set 2),[]⟩]
def Uw:List AC:=[
 ⟨none,.p2 (AQ Tryz.prog .eql 25),[(.var 0),(.const (.ptr none))],(.set 3),[]⟩]
def Zy:List AC:=[
 ⟨none,.p1 some,[(.const (.int .i64 (0)))],(.set 2),[]⟩]
def Ux:List AC:=[
 ⟨none,.p (fun l=>AT Tryz.prog 65 (zipIdx [0,1] l)),[(.const (.int .i64 (0))),(.var 1)],.push,[]⟩,
 ⟨none,.p (fun l=>AT Tryz.prog 43 (zipIdx [] l)),[],.push,[]⟩,
 ⟨none,.call 32,[(.var 0),(.loc 1),(.loc 0),(.const (.slice none 0 (some 0)))],.push,[]⟩,
 ⟨none,.p1 some,[.loc 0],(.set 2),[]⟩]
def Zx:Al:=⟨2,4,(.seq (.ops Uv) (.seq (.seq (.ops Uw) (.cond (.var 3)
 (.seq (.ops Zy) .ret)
 .skip)) (.seq (.ops Ux) .ret))),[((.var 2),none)]⟩
def Uy:List AC:=[
 ⟨none,.mk (fun l=>match l with | [v]=>Cx 25 v | _=>none),[.var 0],(.set 3),[]⟩,
 ⟨none,.mk (fun l=>match l with | [v]=>Cx 27 v | _=>none),[.var 2],(.set 4),[]⟩,
 ⟨none,.p1 some,[(.const (.int .i64 (0)))],(.set 5),[]⟩]
def Uz:List AC:=[
 ⟨none,.r1 (fun s a=>AG Tryz.prog s 25 a),[.var 3],.push,[]⟩,
 ⟨none,.p2 (AQ Tryz.prog .eql 25),[(.loc 0),(.const (.ptr none))],(.set 6),[]⟩]
def Zz:List AC:=[
 ⟨none,.p1 some,[(.const (.int .i64 (0)))],(.set 5),[]⟩]
def U0:List AC:=[
 ⟨none,.r1 (fun s a=>AG Tryz.prog s 25 a),[.var 3],.push,[]⟩,
 ⟨none,.r1 (fun s a=>AG Tryz.prog s 25 a),[.var 3],.push,[]⟩,
 ⟨none,.mk (fun l=>(AY Tryz.prog 27 1 (zipIdx [0] l)).bind fun r=>some (r,.slice 1)),[.var 1],.push,[]⟩,
 ⟨none,.p (fun l=>some (.func 35 (l.take 0) (l.drop 0))),[.var 4,.var 3],.push,[]⟩,
 ⟨none,.call 34,[.loc 2,.loc 1],.push,[⟨none,.r1 (fun s a=>AG Tryz.prog s 25 a),[.var 3],(.loc 4)⟩]⟩,
 ⟨none,.p2 (AK Tryz.prog 27),[(.loc 0),(.const (.int .i64 (0)))],.push,[]⟩,
 ⟨none,.r1 (fun s a=>AG Tryz.prog s 3 a),[.loc 0],.push,[]⟩,
 ⟨none,.call 33,[.loc 6,.loc 0,.loc 3],.push,[]⟩,
 ⟨none,.p1 some,[.loc 0],(.set 5),[]⟩]
def bZ:Al:=⟨3,7,(.seq (.ops Uy) (.seq (.seq (.ops Uz) (.cond (.var 6)
 (.seq (.ops Zz) .ret)
 .skip)) (.seq (.ops U0) .ret))),[((.var 5),none)]⟩
def U1:List AC:=[
 ⟨none,.p1 some,[(.const (.slice none 0 (some 0)))],(.set 2),[]⟩]
def U2:List AC:=[
 ⟨none,.call 39,[.var 0,.var 1],.push,[]⟩,
 ⟨none,.p1 (fun x=>Fw Tryz.prog 70 x 4),[.loc 0],.push,[]⟩,
 ⟨none,.call 38,[.loc 0],.push,[]⟩,
 ⟨none,.call 37,[.loc 0],.push,[]⟩,
 ⟨none,.p1 some,[.loc 0],(.set 2),[]⟩]
def bc:Al:=⟨2,3,(.seq (.ops U1) (.seq (.ops U2) .ret)),[((.var 2),none)]⟩
def U3:List AC:=[
 ⟨none,.mk (fun l=>match l with | [v]=>Cx 25 v | _=>none),[.var 0],(.set 3),[]⟩,
 ⟨none,.p1 some,[(.const (.int .i64 (0)))],(.set 4),[]⟩]
def U4:List AC:=[
 ⟨none,.r1 (fun s a=>AG Tryz.prog s 25 a),[.var 3],.push,[]⟩,
 ⟨none,.p2 (AQ Tryz.prog .eql 25),[(.loc 0),(.const (.ptr none))],(.set 7),[]⟩]
def Z0:List AC:=[
 ⟨none,.p1 some,[(.const (.int .i64 (0)))],(.set 4),[]⟩]
def U5:List AC:=[
 ⟨none,.r1 (fun s a=>AG Tryz.prog s 25 a),[.var 3],.push,[]⟩,
 ⟨none,.mk (fun l=>(AY Tryz.prog 27 1 (zipIdx [0] l)).bind fun r=>some (r,.slice 1)),[.var 1],.push,[]⟩,
 ⟨none,.e (fun s l=>Aj Tryz.prog s [27,27] l),[.loc 0,.var 2],.push,[⟨none,.r1 (fun s a=>AG Tryz.prog s 25 a),[.var 3],(.loc 2)⟩]⟩,
 ⟨none,.call 34,[.loc 2,.loc 0],.push,[]⟩,
 ⟨none,.p1 some,[.loc 0],(.set 5),[]⟩]
def U6:List AC:=[
 ⟨none,.r (Ar Tryz.prog 27 true false false),[(.var 5),(.const (.int .i64 (1)))],.push,[]⟩,
 ⟨none,.mk (fun l=>match l with | []=>Bl Tryz.prog 27 | _=>none),[],(.set 6),[]⟩,
 ⟨none,.e (fun s=>Xs (fun a x=>Xu (At Tryz.prog s 27 a x))),[.var 6,.loc 0],.push,[]⟩]
def U7:List AC:=[
 ⟨none,.r1 (fun s a=>AG Tryz.prog s 25 a),[.var 3],.push,[]⟩,
 ⟨none,.p2 (AK Tryz.prog 27),[(.var 5),(.const (.int .i64 (0)))],.push,[]⟩,
 ⟨none,.r1 (fun s a=>AG Tryz.prog s 3 a),[.loc 0],.push,[]⟩,
 ⟨none,.p (fun l=>some (.func 40 (l.take 0) (l.drop 0))),[.var 6,.var 3],.push,[]⟩,
 ⟨none,.call 33,[.loc 3,.loc 1,.loc 0],.push,[]⟩,
 ⟨none,.p1 some,[.loc 0],(.set 4),[]⟩]
def be:Al:=⟨3,8,(.seq (.ops U3) (.seq (.seq (.ops U4) (.cond (.var 7)
 (.seq (.ops Z0) .ret)
 .skip)) (.seq (.ops U5) (.seq (.ops U6) (.seq (.ops U7) .ret))))),[((.var 4),none)]⟩
def U8:List AC:=[
 ⟨none,.p1 some,[(.const (.int .i64 (0)))],(.set 2),[]⟩]
def U9:List AC:=[
 ⟨none,.call 39,[.var 0,.var 1],.push,[]⟩,
 ⟨none,.p1 (fun x=>Fw Tryz.prog 70 x 3),[.loc 0],.push,[]⟩,
 ⟨none,.p1 some,[.loc 0],(.set 2),[]⟩]
def bf:Al:=⟨2,3,(.seq (.ops U8) (.seq (.ops U9) .ret)),[((.var 2),none)]⟩
def VM:List AC:=[
 ⟨none,.p1 some,[(.const (.int .i64 (0)))],(.set 2),[]⟩]
def VN:List AC:=[
 ⟨none,.p2 (AQ Tryz.prog .eql 25),[(.var 0),(.const (.ptr none))],(.set 3),[]⟩]
def Z1:List AC:=[
 ⟨none,.p1 some,[(.const (.int .i64 (0)))],(.set 2),[]⟩]
def VO:List AC:=[
 ⟨none,.p (fun l=>match l with | v::l=>CF true v l | []=>none),[(.var 1),(.const (.int .i64 (0)))],.push,[]⟩,
 ⟨none,.p (fun l=>AT Tryz.prog 65 (zipIdx [0,1] l)),[(.const (.int .i64 (1))),(.loc 0)],.push,[]⟩,
 ⟨none,.p (fun l=>AT Tryz.prog 43 (zipIdx [] l)),[],.push,[]⟩,
 ⟨none,.call 32,[(.var 0),(.loc 1),(.loc 0),(.const (.slice none 0 (some 0)))],.push,[]⟩,
 ⟨none,.p1 some,[.loc 0],(.set 2),[]⟩]
def bi:Al:=⟨2,4,(.seq (.ops VM) (.seq (.seq (.ops VN) (.cond (.var 3)
 (.seq (.ops Z1) .ret)
 .skip)) (.seq (.ops VO) .ret))),[((.var 2),none)]⟩
def VP:List AC:=[
 ⟨none,.mk (fun l=>match l with | [v]=>Cx 43 v | _=>none),[.var 1],(.set 2),[]⟩,
 ⟨none,.p1 some,[(.const (.int .i64 (0)))],(.set 3),[]⟩]
def VQ:List AC:=[
 ⟨none,.p2 (AQ Tryz.prog .eql 25),[(.var 0),(.const (.ptr none))],(.set 4),[]⟩]
def Z2:List AC:=[
 ⟨none,.p1 some,[(.const (.int .i64 (0)))],(.set 3),[]⟩]
def VR:List AC:=[
 ⟨none,.r1 (fun s a=>AG Tryz.prog s 43 a),[.var 2],.push,[]⟩,
 ⟨none,.call 44,[.loc 0],.push,[]⟩,
 ⟨none,.p1 (Uh Tryz.prog Go.UnOp.not),[.loc 0],.push,[]⟩,
 ⟨(some ((.loc 0),false)),.p1 (fun x=>AA Tryz.prog 43 x 0),[.var 2],.push,[]⟩,
 ⟨(some ((.loc 1),false)),.r1 (fun s a=>AG Tryz.prog s 3 a),[.loc 0],.push,[]⟩,
 ⟨(some ((.loc 2),false)),.p2 (AQ Tryz.prog .eql 3),[(.loc 0),(.const (.int .i64 (5)))],.push,[]⟩,
 ⟨none,.p Rn,[(.loc 3),(.const (.bool true)),(.loc 0)],.push,[]⟩,
 ⟨(some ((.loc 0),false)),.p1 (fun x=>AA Tryz.prog 43 x 4),[.var 2],.push,[]⟩,
 ⟨(some ((.loc 1),false)),.r1 (fun s a=>AG Tryz.prog s 39 a),[.loc 0],.push,[]⟩,
 ⟨(some ((.loc 2),false)),.r (fun s l=>match l with | [x]=>BN Tryz.prog s 39 x | _=>none),[.loc 0],.push,[]⟩,
 ⟨(some ((.loc 3),false)),.p2 (AQ Tryz.prog .gtr 3),[(.loc 0),(.const (.int .i64 (0)))],.push,[]⟩,
 ⟨none,.p Rn,[(.loc 4),(.const (.bool true)),(.loc 0)],(.set 5),[]⟩]
def Z3:List AC:=[
 ⟨none,.p (fun l=>AT Tryz.prog 43 (zipIdx [] l)),[],.push,[]⟩,
 ⟨none,.e (fun s=>Xs (fun a x=>Xu (At Tryz.prog s 43 a x))),[.var 2,.loc 0],.push,[]⟩]
def VS:List AC:=[
 ⟨none,.r1 (fun s a=>AG Tryz.prog s 43 a),[.var 2],.push,[]⟩,
 ⟨none,.r1 (fun s a=>AG Tryz.prog s 43 a),[.var 2],.push,[]⟩,
 ⟨none,.call 30,[.loc 1],.push,[⟨none,.r1 (fun s a=>AG Tryz.prog s 43 a),[.var 2],(.loc 1)⟩]⟩,
 ⟨none,.p (fun l=>AT Tryz.prog 65 (zipIdx [0,3] l)),[(.const (.int .i64 (2))),(.loc 0)],.push,[]⟩,
 ⟨none,.call 32,[(.var 0),(.loc 0),(.loc 2),(.const (.slice none 0 (some 0)))],.push,[]⟩,
 ⟨none,.p1 some,[.loc 0],(.set 3),[]⟩]
def bj:Al:=⟨2,6,(.seq (.ops VP) (.seq (.seq (.ops VQ) (.cond (.var 4)
 (.seq (.ops Z2) .ret)
 .skip)) (.seq (.seq (.ops VR) (.cond (.var 5)
 (.ops Z3)
 .skip)) (.seq (.ops VS) .ret)))),[((.var 3),none)]⟩
def VT:List AC:=[
 ⟨none,.p1 some,[(.const (.int .i64 (0)))],(.set 3),[]⟩]
def VU:List AC:=[
 ⟨none,.p2 (AQ Tryz.prog .eql 25),[(.var 0),(.const (.ptr none))],(.set 4),[]⟩]
def Z4:List AC:=[
 ⟨none,.p1 some,[(.const (.int .i64 (0)))],(.set 3),[]⟩]
def VV:List AC:=[
 ⟨none,.p (fun l=>AT Tryz.prog 65 (zipIdx [0] l)),[(.const (.int .i64 (3)))],.push,[]⟩,
 ⟨none,.p (fun l=>AT Tryz.prog 43 (zipIdx [] l)),[],.push,[]⟩,
 ⟨none,.mk (fun l=>(AY Tryz.prog 27 2 (zipIdx [0,1] l)).bind fun r=>some (r,.slice 2)),[.var 1,.var 2],.push,[]⟩,
 ⟨none,.call 34,[.var 0,.loc 0],.push,[]⟩,
 ⟨none,.call 32,[.var 0,.loc 3,.loc 2,.loc 0],.push,[]⟩,
 ⟨none,.p1 some,[.loc 0],(.set 3),[]⟩]
def bk:Al:=⟨3,5,(.seq (.ops VT) (.seq (.seq (.ops VU) (.cond (.var 4)
 (.seq (.ops Z4) .ret)
 .skip)) (.seq (.ops VV) .ret))),[((.var 3),none)]⟩
def VW:List AC:=[
 ⟨none,.p1 some,[(.const (.int .i64 (0)))],(.set 4),[]⟩]
def VX:List AC:=[
 ⟨none,.p2 (AQ Tryz.prog .eql 25),[(.var 0),(.const (.ptr none))],(.set 5),[]⟩]
def Z5:List AC:=[
 ⟨none,.p1 some,[(.const (.int .i64 (0)))],(.set 4),[]⟩]
def VY:List AC:=[
 ⟨none,.p (fun l=>AT Tryz.prog 65 (zipIdx [0] l)),[(.const (.int .i64 (4)))],.push,[]⟩,
 ⟨none,.p (fun l=>AT Tryz.prog 43 (zipIdx [] l)),[],.push,[]⟩,
 ⟨none,.mk (fun l=>(AY Tryz.prog 27 3 (zipIdx [0,1,2] l)).bind fun r=>some (r,.slice 3)),[.var 1,.var 2,.var 3],.push,[]⟩,
 ⟨none,.call 34,[.var 0,.loc 0],.push,[]⟩,
 ⟨none,.call 32,[.var 0,.loc 3,.loc 2,.loc 0],.push,[]⟩,
 ⟨none,.p1 some,[.loc 0],(.set 4),[]⟩]
def bl:Al:=⟨4,6,(.seq (.ops VW) (.seq (.seq (.ops VX) (.cond (.var 5)
 (.seq (.ops Z5) .ret)
 .skip)) (.seq (.ops VY) .ret))),[((.var 4),none)]⟩
def VZ:List AC:=[
 ⟨none,.p1 some,[(.const (.ptr none))],(.set 0),[]⟩]
def Va:List AC:=[
 ⟨none,.mk (fun l=>match l with | []=>(DN Tryz.prog 60).bind fun kt=>some (.map kt [],.map) | _=>none),[],.push,[]⟩,
 ⟨none,.p (fun l=>AT Tryz.prog 62 (zipIdx [1] l)),[.loc 0],.push,[]⟩,
 ⟨none,.mk (fun l=>match l with | [v]=>Cx 62 v | _=>none),[.loc 0],.push,[]⟩,
 ⟨none,.p1 some,[.loc 0],(.set 0),[]⟩]
def bm:Al:=⟨0,1,(.seq (.ops VZ) (.seq (.ops Va) .ret)),[((.var 0),none)]⟩
def Vb:List AC:=[
 ⟨none,.mk (fun l=>match l with | [v]=>Cx 65 v | _=>none),[.var 1],(.set 4),[]⟩,
 ⟨none,.mk (fun l=>match l with | [v]=>Cx 43 v | _=>none),[.var 2],(.set 5),[]⟩,
 ⟨none,.p1 some,[(.const (.int .i64 (0)))],(.set 6),[]⟩]
def Vc:List AC:=[
 ⟨none,.p1 (fun x=>AA Tryz.prog 65 x 2),[.var 4],.push,[]⟩,
 ⟨none,.r (Ar Tryz.prog 44 false false false),[.loc 0],.push,[]⟩,
 ⟨none,.e (fun s l=>IY Tryz.prog s [27,27] l),[.loc 0,.var 3],.push,[]⟩]
def Vd:List AC:=[
 ⟨none,.p1 AX,[.var 0],.push,[]⟩,
 ⟨none,.p1 (fun x=>AA Tryz.prog 62 x 1),[.loc 0],.push,[]⟩,
 ⟨none,.r1 (fun s a=>AG Tryz.prog s 60 a),[.loc 0],.push,[]⟩,
 ⟨none,.r1 (fun s a=>AG Tryz.prog s 65 a),[.var 4],.push,[]⟩,
 ⟨none,.r (fun s=>Xs (fun m k=>Bz Tryz.prog s 60 m k true)),[.loc 1,.loc 0],.push,[]⟩,
 ⟨none,.p1 (fun x=>Xv x 0),[.loc 0],.push,[]⟩,
 ⟨none,.p1 (fun x=>Xv x 1),[.loc 1],.push,[]⟩,
 ⟨none,.p1 some,[.loc 1],(.set 7),[]⟩,
 ⟨none,.p1 some,[.loc 0],(.set 8),[]⟩]
def QV:List AC:=[
 ⟨none,.p1 some,[.var 8],(.set 11),[]⟩]
def Ve:List AC:=[
 ⟨none,.p1 some,[.var 7],(.set 6),[]⟩]
def Vf:List AC:=[
 ⟨none,.r1 (fun s a=>AG Tryz.prog s 65 a),[.var 4],.push,[]⟩,
 ⟨none,.r1 (fun s a=>AG Tryz.prog s 43 a),[.var 5],.push,[]⟩,
 ⟨none,.r (fun s l=>match l with | [x]=>BN Tryz.prog s 27 x | _=>none),[.var 3],.push,[]⟩,
 ⟨none,.mk (fun l=>match l with | []=>(DN Tryz.prog 68).bind fun kt=>some (.map kt [],.map) | _=>none),[],.push,[]⟩,
 ⟨none,.p (fun l=>AT Tryz.prog 70 (zipIdx [0,1,2,3,4] l)),[(.loc 3),(.loc 2),(.loc 1),(.const (.int .i64 (1))),(.loc 0)],.push,[]⟩,
 ⟨none,.mk (fun l=>match l with | []=>Bl Tryz.prog 70 | _=>none),[],(.set 9),[]⟩,
 ⟨none,.e (fun s=>Xs (fun a x=>Xu (At Tryz.prog s 70 a x))),[.var 9,.loc 0],.push,[]⟩]
def Vg:List AC:=[
 ⟨none,.p1 (fun x=>AA Tryz.prog 65 x 0),[.var 4],.push,[]⟩,
 ⟨none,.r1 (fun s a=>AG Tryz.prog s 3 a),[.loc 0],.push,[]⟩,
 ⟨none,.p2 (AQ Tryz.prog .eql 3),[(.loc 0),(.const (.int .i64 (0)))],(.set 12),[]⟩]
def Vh:List AC:=[
 ⟨none,.p1 (fun x=>AA Tryz.prog 70 x 4),[.var 9],.push,[]⟩,
 ⟨none,.r1 (fun s a=>AG Tryz.prog s 68 a),[.loc 0],.push,[]⟩,
 ⟨none,.p1 (fun x=>AA Tryz.prog 65 x 1),[.var 4],.push,[]⟩,
 ⟨none,.r1 (fun s a=>AG Tryz.prog s 3 a),[.loc 0],.push,[]⟩,
 ⟨none,.e (fun s=>Xt (fun m k x=>Xu (B1 Tryz.prog s 68 m k x))),[(.loc 2),(.loc 0),(.const (.int .i64 (1)))],.push,[]⟩]
def QW:List AC:=[
 ⟨none,.p1 some,[.var 3],(.set 13),[]⟩,
 ⟨none,.r (fun s l=>match l with | [x]=>BN Tryz.prog s 27 x | _=>none),[.var 13],(.set 14),[]⟩,
 ⟨none,.p1 some,[(.const (.int .i64 (0)))],(.set 15),[]⟩]
def QX:List AC:=[
 ⟨none,.p2 (AQ Tryz.prog .lss 3),[.var 15,.var 14],(.set 16),[]⟩]
def QR:List AC:=[
 ⟨none,.p2 (AK Tryz.prog 27),[.var 13,.var 15],.push,[]⟩,
 ⟨none,.r1 (fun s a=>AG Tryz.prog s 3 a),[.loc 0],.push,[]⟩,
 ⟨none,.p1 some,[.loc 0],(.set 10),[]⟩]
def QS:List AC:=[
 ⟨none,.p1 (fun x=>AA Tryz.prog 70 x 3),[.var 9],.push,[]⟩,
 ⟨none,.r1 (fun s a=>AG Tryz.prog s 3 a),[.loc 0],.push,[]⟩,
 ⟨none,.p1 AX,[.var 0],.push,[]⟩,
 ⟨none,.p1 (fun x=>AA Tryz.prog 62 x 0),[.loc 0],.push,[]⟩,
 ⟨none,.r1 (fun s a=>AG Tryz.prog s 59 a),[.loc 0],.push,[]⟩,
 ⟨none,.p2 (AK Tryz.prog 59),[.loc 0,.var 10],.push,[]⟩,
 ⟨none,.p1 (fun x=>AA Tryz.prog 70 x 3),[.loc 0],.push,[]⟩,
 ⟨none,.r1 (fun s a=>AG Tryz.prog s 3 a),[.loc 0],.push,[]⟩,
 ⟨none,.p2 (AQ Tryz.prog .add 3),[.loc 6,.loc 0],.push,[]⟩,
 ⟨none,.p (fun l=>match l with | v::l=>CF false v l | []=>none),[(.loc 0),(.const (.int .i64 (4097)))],.push,[]⟩,
 ⟨none,.p1 (fun x=>AA Tryz.prog 70 x 3),[.var 9],.push,[]⟩,
 ⟨none,.e (fun s=>Xs (fun a x=>Xu (At Tryz.prog s 3 a x))),[.loc 0,.loc 1],.push,[]⟩]
def QT:List AC:=[
 ⟨none,.p1 (fun x=>AA Tryz.prog 70 x 4),[.var 9],.push,[]⟩,
 ⟨none,.r1 (fun s a=>AG Tryz.prog s 68 a),[.loc 0],.push,[]⟩,
 ⟨none,.p1 AX,[.var 0],.push,[]⟩,
 ⟨none,.p1 (fun x=>AA Tryz.prog 62 x 0),[.loc 0],.push,[]⟩,
 ⟨none,.r1 (fun s a=>AG Tryz.prog s 59 a),[.loc 0],.push,[]⟩,
 ⟨none,.p2 (AK Tryz.prog 59),[.loc 0,.var 10],.push,[]⟩,
 ⟨none,.p1 (fun x=>AA Tryz.prog 70 x 4),[.loc 0],.push,[]⟩,
 ⟨none,.r1 (fun s a=>AG Tryz.prog s 68 a),[.loc 0],.push,[]⟩,
 ⟨none,.call 55,[.loc 6,.loc 0],.push,[]⟩]
def QU:List AC:=[
 ⟨none,.p2 (AQ Tryz.prog .add 3),[(.var 15),(.const (.int .i64 (1)))],.push,[]⟩,
 ⟨none,.p1 some,[.loc 0],(.set 15),[]⟩]
def G2:AW:=(.seq (.ops QX) (.seq (.cond (.var 16)
 .skip
 (.exit 0)) (.seq (.block 1 (.seq (.ops QR) (.seq (.ops QS) (.ops QT)))) (.ops QU))))
def KT:List AC:=[
 ⟨none,.p1 AX,[.var 0],.push,[]⟩,
 ⟨none,.p1 (fun x=>AA Tryz.prog 62 x 0),[.loc 0],.push,[]⟩,
 ⟨none,.r1 (fun s a=>AG Tryz.prog s 59 a),[.loc 0],.push,[]⟩,
 ⟨none,.r1 (fun s a=>AG Tryz.prog s 70 a),[.var 9],.push,[]⟩,
 ⟨none,.mk (fun l=>(AY Tryz.prog 59 1 (zipIdx [0] l)).bind fun r=>some (r,.slice 1)),[.loc 0],.push,[]⟩,
 ⟨none,.e (fun s l=>Aj Tryz.prog s [59,59] l),[.loc 2,.loc 0],.push,[]⟩,
 ⟨none,.p1 AX,[.var 0],.push,[]⟩,
 ⟨none,.p1 (fun x=>AA Tryz.prog 62 x 0),[.loc 0],.push,[]⟩,
 ⟨none,.e (fun s=>Xs (fun a x=>Xu (At Tryz.prog s 59 a x))),[.loc 0,.loc 2],.push,[]⟩]
def KU:List AC:=[
 ⟨none,.p1 AX,[.var 0],.push,[]⟩,
 ⟨none,.p1 (fun x=>AA Tryz.prog 62 x 1),[.loc 0],.push,[]⟩,
 ⟨none,.r1 (fun s a=>AG Tryz.prog s 60 a),[.loc 0],.push,[]⟩,
 ⟨none,.r1 (fun s a=>AG Tryz.prog s 65 a),[.var 4],.push,[]⟩,
 ⟨none,.p1 AX,[.var 0],.push,[]⟩,
 ⟨none,.p1 (fun x=>AA Tryz.prog 62 x 0),[.loc 0],.push,[]⟩,
 ⟨none,.r1 (fun s a=>AG Tryz.prog s 59 a),[.loc 0],.push,[]⟩,
 ⟨none,.r (fun s l=>match l with | [x]=>BN Tryz.prog s 59 x | _=>none),[.loc 0],.push,[]⟩,
 ⟨none,.p2 (AQ Tryz.prog .sub 3),[(.loc 0),(.const (.int .i64 (1)))],.push,[]⟩,
 ⟨none,.e (fun s=>Xt (fun m k x=>Xu (B1 Tryz.prog s 60 m k x))),[.loc 6,.loc 5,.loc 0],.push,[]⟩]
def KW:List AC:=[
 ⟨none,.p1 AX,[.var 0],.push,[]⟩,
 ⟨none,.p1 (fun x=>AA Tryz.prog 62 x 0),[.loc 0],.push,[]⟩,
 ⟨none,.r1 (fun s a=>AG Tryz.prog s 59 a),[.loc 0],.push,[]⟩,
 ⟨none,.r (fun s l=>match l with | [x]=>BN Tryz.prog s 59 x | _=>none),[.loc 0],.push,[]⟩,
 ⟨none,.p2 (AQ Tryz.prog .sub 3),[(.loc 0),(.const (.int .i64 (1)))],.push,[]⟩,
 ⟨none,.p1 some,[.loc 0],(.set 6),[]⟩]
def bn:Al:=⟨4,17,(.seq (.ops Vb) (.seq (.ops Vc) (.seq (.seq (.ops Vd) (.seq (.ops QV) (.cond (.var 11)
 (.seq (.ops Ve) .ret)
 .skip))) (.seq (.ops Vf) (.seq (.seq (.ops Vg) (.cond (.var 12)
 (.ops Vh)
 .skip)) (.seq (.seq (.ops QW) (.block 0 (.loop G2))) (.seq (.ops KT) (.seq (.ops KU) (.seq (.ops KW) .ret))))))))),[((.var 6),none)]⟩
def Vi:List AC:=[
 ⟨none,.mk (fun l=>match l with | [v]=>Cx 25 v | _=>none),[.var 0],(.set 3),[]⟩,
 ⟨none,.mk (fun l=>match l with | [v]=>Cx 103 v | _=>none),[.var 2],(.set 4),[]⟩,
 ⟨none,.p1 some,[(.const (.int .i64 (0)))],(.set 5),[]⟩]
def Vj:List AC:=[
 ⟨none,.mk (fun l=>match l with | []=>(DN Tryz.prog 68).bind fun kt=>some (.map kt [],.map) | _=>none),[],.push,[]⟩,
 ⟨none,.mk (fun l=>match l with | []=>Bl Tryz.prog 68 | _=>none),[],(.set 6),[]⟩,
 ⟨none,.e (fun s=>Xs (fun a x=>Xu (At Tryz.prog s 68 a x))),[.var 6,.loc 0],.push,[]⟩]
def Vk:List AC:=[
 ⟨none,.mk (fun l=>match l with | []=>Bl Tryz.prog 31 | _=>none),[],(.set 7),[]⟩]
def Vl:List AC:=[
 ⟨none,.p (fun l=>some (.func 56 (l.take 0) (l.drop 0))),[.var 6,.var 3,.var 4,.var 7],.push,[]⟩,
 ⟨none,.e (fun s=>Xs (fun a x=>Xu (At Tryz.prog s 31 a x))),[.var 7,.loc 0],.push,[]⟩]
def Vm:List AC:=[
 ⟨none,.r1 (fun s a=>AG Tryz.prog s 31 a),[.var 7],.push,[]⟩,
 ⟨none,.callv,[.loc 0,.var 1],.push,[]⟩,
 ⟨none,.p1 some,[.loc 0],(.set 5),[]⟩]
def bp:Al:=⟨3,8,(.seq (.ops Vi) (.seq (.ops Vj) (.seq (.ops Vk) (.seq (.ops Vl) (.seq (.ops Vm) .ret))))),[((.var 5),none)]⟩
def W1:List AC:=[
 ⟨none,.p1 some,[(.const (.int .i64 (0)))],(.set 5),[]⟩]
def W2:List AC:=[
 ⟨none,.r1 (fun s a=>AG Tryz.prog s 68 a),[.var 1],.push,[]⟩,
 ⟨none,.r (fun s=>Xs (fun m k=>Bz Tryz.prog s 68 m k true)),[.loc 0,.var 0],.push,[]⟩,
 ⟨none,.p1 (fun x=>Xv x 0),[.loc 0],.push,[]⟩,
 ⟨none,.p1 (fun x=>Xv x 1),[.loc 1],.push,[]⟩,
 ⟨none,.p1 some,[.loc 1],(.set 6),[]⟩,
 ⟨none,.p1 some,[.loc 0],(.set 7),[]⟩]
def W3:List AC:=[
 ⟨none,.p1 some,[.var 7],(.set 14),[]⟩]
def W4:List AC:=[
 ⟨none,.p1 some,[.var 6],(.set 5),[]⟩]
def W5:List AC:=[
 ⟨none,.r1 (fun s a=>AG Tryz.prog s 25 a),[.var 2],.push,[]⟩,
 ⟨none,.p1 AX,[.loc 0],.push,[]⟩,
 ⟨none,.p1 (fun x=>AA Tryz.prog 62 x 0),[.loc 0],.push,[]⟩,
 ⟨none,.r1 (fun s a=>AG Tryz.prog s 59 a),[.loc 0],.push,[]⟩,
 ⟨none,.p2 (AK Tryz.prog 59),[.loc 0,.var 0],.push,[]⟩,
 ⟨none,.r1 (fun s a=>AG Tryz.prog s 70 a),[.loc 0],.push,[]⟩,
 ⟨none,.mk (fun l=>match l with | []=>Bl Tryz.prog 70 | _=>none),[],(.set 8),[]⟩,
 ⟨none,.e (fun s=>Xs (fun a x=>Xu (At Tryz.prog s 70 a x))),[.var 8,.loc 0],.push,[]⟩]
def W6:List AC:=[
 ⟨none,.p1 some,[.var 0],(.set 9),[]⟩]
def W7:List AC:=[
 ⟨none,.r1 (fun s a=>AG Tryz.prog s 103 a),[.var 3],.push,[]⟩,
 ⟨none,.r1 (fun s a=>AG Tryz.prog s 70 a),[.var 8],.push,[]⟩,
 ⟨none,.callv,[.loc 1,.var 0,.loc 0],.push,[]⟩,
 ⟨none,.p1 (fun x=>Xv x 0),[.loc 0],.push,[]⟩,
 ⟨none,.p1 (fun x=>Xv x 1),[.loc 1],.push,[]⟩,
 ⟨none,.p1 some,[.loc 1],(.set 10),[]⟩,
 ⟨none,.p1 some,[.loc 0],(.set 11),[]⟩]
def Nw:List AC:=[
 ⟨none,.p1 some,[.var 11],(.set 15),[]⟩]
def W8:List AC:=[
 ⟨none,.p1 some,[.var 10],(.set 9),[]⟩]
def RL:List AC:=[
 ⟨none,.p1 (fun x=>AA Tryz.prog 70 x 2),[.var 8],.push,[]⟩,
 ⟨none,.r1 (fun s a=>AG Tryz.prog s 3 a),[.loc 0],.push,[]⟩,
 ⟨none,.p2 (AQ Tryz.prog .gtr 3),[(.loc 0),(.const (.int .i64 (0)))],(.set 16),[]⟩]
def RF:List AC:=[
 ⟨none,.p1 some,[(.const (.slice none 0 (some 0)))],(.set 12),[]⟩]
def RG:List AC:=[
 ⟨none,.p1 (fun x=>AA Tryz.prog 70 x 0),[.var 8],.push,[]⟩,
 ⟨none,.p1 (fun x=>AA Tryz.prog 65 x 2),[.loc 0],.push,[]⟩,
 ⟨none,.p1 (fun x=>AA Tryz.prog 70 x 2),[.var 8],.push,[]⟩,
 ⟨none,.r1 (fun s a=>AG Tryz.prog s 3 a),[.loc 0],.push,[]⟩,
 ⟨none,.r (Ar Tryz.prog 44 false true false),[.loc 2,.loc 0],(.set 17),[]⟩,
 ⟨none,.r (fun s l=>match l with | [x]=>BN Tryz.prog s 27 x | _=>none),[.var 17],(.set 18),[]⟩,
 ⟨none,.p1 some,[(.const (.int .i64 (0)))],(.set 19),[]⟩]
def Mj:List AC:=[
 ⟨none,.p2 (AQ Tryz.prog .lss 3),[.var 19,.var 18],(.set 20),[]⟩]
def RH:List AC:=[
 ⟨none,.p2 (AK Tryz.prog 27),[.var 17,.var 19],.push,[]⟩,
 ⟨none,.r1 (fun s a=>AG Tryz.prog s 3 a),[.loc 0],.push,[]⟩,
 ⟨none,.p1 some,[.loc 0],(.set 13),[]⟩]
def RI:List AC:=[
 ⟨none,.p1 some,[.var 12],.push,[]⟩,
 ⟨none,.r1 (fun s a=>AG Tryz.prog s 31 a),[.var 4],.push,[]⟩,
 ⟨none,.callv,[.loc 0,.var 13],.push,[]⟩,
 ⟨none,.mk (fun l=>(AY Tryz.prog 27 1 (zipIdx [0] l)).bind fun r=>some (r,.slice 1)),[.loc 0],.push,[]⟩,
 ⟨none,.e (fun s l=>Aj Tryz.prog s [27,27] l),[.loc 3,.loc 0],.push,[]⟩,
 ⟨none,.p1 some,[.loc 0],(.set 12),[]⟩]
def RJ:List AC:=[
 ⟨none,.p2 (AQ Tryz.prog .add 3),[(.var 19),(.const (.int .i64 (1)))],.push,[]⟩,
 ⟨none,.p1 some,[.loc 0],(.set 19),[]⟩]
def IS:AW:=(.seq (.ops Mj) (.seq (.cond (.var 20)
 .skip
 (.exit 0)) (.seq (.block 1 (.seq (.ops RH) (.ops RI))) (.ops RJ))))
def RK:List AC:=[
 ⟨none,.r1 (fun s a=>AG Tryz.prog s 25 a),[.var 2],.push,[]⟩,
 ⟨none,.p1 (fun x=>AA Tryz.prog 70 x 0),[.var 8],.push,[]⟩,
 ⟨none,.p1 (fun x=>AA Tryz.prog 65 x 0),[.loc 0],.push,[]⟩,
 ⟨none,.r1 (fun s a=>AG Tryz.prog s 3 a),[.loc 0],.push,[]⟩,
 ⟨none,.p (fun l=>AT Tryz.prog 65 (zipIdx [0] l)),[.loc 0],.push,[]⟩,
 ⟨none,.p (fun l=>AT Tryz.prog 43 (zipIdx [] l)),[],.push,[]⟩,
 ⟨none,.call 32,[.loc 5,.loc 1,.loc 0,.var 12],.push,[]⟩,
 ⟨none,.p1 some,[.loc 0],(.set 9),[]⟩]
def Mk:List AC:=[
 ⟨none,.r1 (fun s a=>AG Tryz.prog s 68 a),[.var 1],.push,[]⟩,
 ⟨none,.e (fun s=>Xt (fun m k x=>Xu (B1 Tryz.prog s 68 m k x))),[.loc 0,.var 0,.var 9],.push,[]⟩]
def Ml:List AC:=[
 ⟨none,.p1 some,[.var 9],(.set 5),[]⟩]
def b0:Al:=⟨5,21,(.seq (.ops W1) (.seq (.seq (.ops W2) (.seq (.ops W3) (.cond (.var 14)
 (.seq (.ops W4) .ret)
 .skip))) (.seq (.ops W5) (.seq (.ops W6) (.seq (.seq (.ops W7) (.seq (.ops Nw) (.cond (.var 15)
 (.ops W8)
 (.seq (.ops RL) (.cond (.var 16)
 (.seq (.ops RF) (.seq (.seq (.ops RG) (.block 0 (.loop IS))) (.ops RK)))
 .skip))))) (.seq (.ops Mk) (.seq (.ops Ml) .ret))))))),[((.var 5),none)]⟩
def Vn:List AC:=[
 ⟨none,.p1 some,[(.const (.slice none 0 (some 0)))],(.set 2),[]⟩]
def Vo:List AC:=[
 ⟨none,.call 10,[.var 0],.push,[]⟩,
 ⟨none,.p1 some,[.loc 0],(.set 3),[]⟩]
def Vp:List AC:=[
 ⟨none,.call 43,[.var 1],.push,[]⟩,
 ⟨none,.p1 some,[.loc 0],(.set 4),[]⟩]
def Vq:List AC:=[
 ⟨none,.p1 some,[.var 4],(.set 7),[]⟩,
 ⟨none,.r (fun s l=>match l with | [x]=>BN Tryz.prog s 27 x | _=>none),[.var 7],(.set 8),[]⟩,
 ⟨none,.p1 some,[(.const (.int .i64 (0)))],(.set 9),[]⟩]
def LL:List AC:=[
 ⟨none,.p2 (AQ Tryz.prog .lss 3),[.var 9,.var 8],(.set 10),[]⟩]
def No:List AC:=[
 ⟨none,.p2 (AK Tryz.prog 27),[.var 7,.var 9],.push,[]⟩,
 ⟨none,.r1 (fun s a=>AG Tryz.prog s 3 a),[.loc 0],.push,[]⟩,
 ⟨none,.p1 some,[.var 9],(.set 5),[]⟩,
 ⟨none,.p1 some,[.loc 0],(.set 6),[]⟩]
def Np:List AC:=[
 ⟨none,.p2 (AQ Tryz.prog .lss 3),[(.var 6),(.const (.int .i64 (0)))],.push,[]⟩,
 ⟨(some ((.loc 0),false)),.p1 some,[.var 6],.push,[]⟩,
 ⟨(some ((.loc 1),false)),.p1 some,[.var 3],.push,[]⟩,
 ⟨(some ((.loc 2),false)),.p2 (AQ Tryz.prog .geq 3),[.loc 1,.loc 0],.push,[]⟩,
 ⟨none,.p Rn,[(.loc 3),(.const (.bool true)),(.loc 0)],(.set 11),[]⟩]
def QZ:List AC:=[
 ⟨none,.p (fun l=>AT Tryz.prog 43 (zipIdx [] l)),[],.push,[]⟩,
 ⟨none,.call 22,[.var 0,.loc 0],.push,[]⟩,
 ⟨none,.p2 (AK Tryz.prog 27),[.var 4,.var 5],.push,[]⟩,
 ⟨none,.e (fun s=>Xs (fun a x=>Xu (At Tryz.prog s 3 a x))),[.loc 0,.loc 1],.push,[]⟩]
def Nq:List AC:=[
 ⟨none,.p2 (AQ Tryz.prog .add 3),[(.var 9),(.const (.int .i64 (1)))],.push,[]⟩,
 ⟨none,.p1 some,[.loc 0],(.set 9),[]⟩]
def IN:AW:=(.seq (.ops LL) (.seq (.cond (.var 10)
 .skip
 (.exit 0)) (.seq (.block 1 (.seq (.ops No) (.seq (.ops Np) (.cond (.var 11)
 (.ops QZ)
 .skip)))) (.ops Nq))))
def QY:List AC:=[
 ⟨none,.p1 some,[.var 4],(.set 2),[]⟩]
def bq:Al:=⟨2,12,(.seq (.ops Vn) (.seq (.ops Vo) (.seq (.ops Vp) (.seq (.seq (.ops Vq) (.block 0 (.loop IN))) (.seq (.ops QY) .ret))))),[((.var 2),none)]⟩
def V1:List AC:=[
 ⟨none,.mk (fun l=>match l with | []=>Bl Tryz.prog 70 | _=>none),[],(.set 2),[]⟩]
def V2:List AC:=[
 ⟨none,.p2 (AQ Tryz.prog .eql 25),[(.var 0),(.const (.ptr none))],.push,[]⟩,
 ⟨none,.p1 some,[.loc 0],(.set 3),[]⟩]
def Z6:List AC:=[
 ⟨none,.p (fun l=>AT Tryz.prog 70 (zipIdx [] l)),[],.push,[]⟩,
 ⟨none,.e (fun s=>Xs (fun a x=>Xu (At Tryz.prog s 70 a x))),[.var 2,.loc 0],.push,[]⟩]
def V3:List AC:=[
 ⟨none,.p2 (AQ Tryz.prog .lss 3),[(.var 1),(.const (.int .i64 (0)))],.push,[]⟩,
 ⟨(some ((.loc 0),false)),.p1 some,[.var 1],.push,[]⟩,
 ⟨(some ((.loc 1),false)),.p1 some,[.var 0],.push,[]⟩,
 ⟨(some ((.loc 2),false)),.p1 AX,[.loc 0],.push,[]⟩,
 ⟨(some ((.loc 3),false)),.p1 (fun x=>AA Tryz.prog 62 x 0),[.loc 0],.push,[]⟩,
 ⟨(some ((.loc 4),false)),.r1 (fun s a=>AG Tryz.prog s 59 a),[.loc 0],.push,[]⟩,
 ⟨(some ((.loc 5),false)),.r (fun s l=>match l with | [x]=>BN Tryz.prog s 59 x | _=>none),[.loc 0],.push,[]⟩,
 ⟨(some ((.loc 6),false)),.p2 (AQ Tryz.prog .geq 3),[.loc 5,.loc 0],.push,[]⟩,
 ⟨none,.p Rn,[(.loc 7),(.const (.bool true)),(.loc 0)],.push,[]⟩,
 ⟨none,.p1 some,[.loc 0],(.set 4),[]⟩]
def Z7:List AC:=[
 ⟨none,.call 60,[],.push,[]⟩,
 ⟨none,.e (fun s=>Xs (fun a x=>Xu (At Tryz.prog s 70 a x))),[.var 2,.loc 0],.push,[]⟩]
def V4:List AC:=[
 ⟨none,.p1 AX,[.var 0],.push,[]⟩,
 ⟨none,.p1 (fun x=>AA Tryz.prog 62 x 0),[.loc 0],.push,[]⟩,
 ⟨none,.r1 (fun s a=>AG Tryz.prog s 59 a),[.loc 0],.push,[]⟩,
 ⟨none,.p2 (AK Tryz.prog 59),[.loc 0,.var 1],.push,[]⟩,
 ⟨none,.r1 (fun s a=>AG Tryz.prog s 70 a),[.loc 0],.push,[]⟩,
 ⟨none,.e (fun s=>Xs (fun a x=>Xu (At Tryz.prog s 70 a x))),[.var 2,.loc 0],.push,[]⟩]
def bv:Al:=⟨2,5,(.seq (.ops V1) (.seq (.block 0 (.seq (.ops V2) (.cond (.var 3)
 (.seq (.ops Z6) .ret)
 (.seq (.ops V3) (.cond (.var 4)
 (.seq (.ops Z7) .ret)
 .skip))))) (.seq (.ops V4) .ret))),[((.var 2),some 70)]⟩
def Vr:List AC:=[
 ⟨none,.mk (fun l=>match l with | [v]=>Cx 70 v | _=>none),[.var 1],(.set 4),[]⟩,
 ⟨none,.p1 some,[(.const (.int .i64 (0)))],(.set 5),[]⟩,
 ⟨none,.p1 some,[(.const (.bool false))],(.set 6),[]⟩]
def Vs:List AC:=[
 ⟨none,.r1 (fun s a=>AG Tryz.prog s 27 a),[.var 2],.push,[]⟩,
 ⟨none,.p1 (fun x=>AA Tryz.prog 70 x 0),[.var 4],.push,[]⟩,
 ⟨none,.p1 (fun x=>AA Tryz.prog 65 x 1),[.loc 0],.push,[]⟩,
 ⟨none,.r1 (fun s a=>AG Tryz.prog s 3 a),[.loc 0],.push,[]⟩,
 ⟨none,.call 36,[.loc 3,.loc 0],.push,[]⟩,
 ⟨none,.p1 some,[.loc 0],(.set 7),[]⟩]
def LM:List AC:=[
 ⟨none,.p1 (fun x=>AA Tryz.prog 70 x 0),[.var 4],.push,[]⟩,
 ⟨none,.p1 (fun x=>AA Tryz.prog 65 x 0),[.loc 0],.push,[]⟩,
 ⟨none,.r1 (fun s a=>AG Tryz.prog s 3 a),[.loc 0],.push,[]⟩,
 ⟨none,.p2 (AQ Tryz.prog .eql 3),[(.loc 0),(.const (.int .i64 (1)))],.push,[]⟩,
 ⟨none,.p1 some,[.loc 0],(.set 8),[]⟩]
def Vt:List AC:=[
 ⟨none,.r1 (fun s a=>AG Tryz.prog s 25 a),[.var 3],.push,[]⟩,
 ⟨none,.p1 (fun x=>AA Tryz.prog 70 x 0),[.var 4],.push,[]⟩,
 ⟨none,.p1 (fun x=>AA Tryz.prog 65 x 1),[.loc 0],.push,[]⟩,
 ⟨none,.r1 (fun s a=>AG Tryz.prog s 3 a),[.loc 0],.push,[]⟩,
 ⟨none,.r1 (fun s a=>AG Tryz.prog s 27 a),[.var 2],.push,[]⟩,
 ⟨none,.r (fun s l=>match l with | [x]=>BN Tryz.prog s 27 x | _=>none),[.loc 0],.push,[]⟩,
 ⟨none,.p2 (AQ Tryz.prog .add 3),[.loc 2,.loc 0],.push,[]⟩,
 ⟨none,.call 21,[.loc 6,.loc 0],.push,[]⟩,
 ⟨none,.p1 some,[.loc 0],(.set 5),[]⟩,
 ⟨none,.p1 some,[(.const (.bool true))],(.set 6),[]⟩]
def Nr:List AC:=[
 ⟨none,.p1 (fun x=>AA Tryz.prog 70 x 0),[.var 4],.push,[]⟩,
 ⟨none,.p1 (fun x=>AA Tryz.prog 65 x 0),[.loc 0],.push,[]⟩,
 ⟨none,.r1 (fun s a=>AG Tryz.prog s 3 a),[.loc 0],.push,[]⟩,
 ⟨none,.p2 (AQ Tryz.prog .eql 3),[(.loc 0),(.const (.int .i64 (0)))],.push,[]⟩,
 ⟨(some ((.loc 0),true)),.p1 some,[.var 7],.push,[]⟩,
 ⟨(some ((.loc 1),true)),.p2 (AQ Tryz.prog .geq 3),[(.loc 0),(.const (.int .i64 (0)))],.push,[]⟩,
 ⟨none,.p Rn,[(.loc 2),(.loc 0),(.const (.bool false))],.push,[]⟩,
 ⟨none,.p1 some,[.loc 0],(.set 9),[]⟩]
def Vu:List AC:=[
 ⟨none,.r1 (fun s a=>AG Tryz.prog s 25 a),[.var 3],.push,[]⟩,
 ⟨none,.call 21,[.loc 0,.var 7],.push,[]⟩,
 ⟨none,.p1 some,[.loc 0],(.set 5),[]⟩,
 ⟨none,.p1 some,[(.const (.bool true))],(.set 6),[]⟩]
def Q0:List AC:=[
 ⟨none,.p1 some,[.var 0],(.set 5),[]⟩,
 ⟨none,.p1 some,[(.const (.bool false))],(.set 6),[]⟩]
def br:Al:=⟨4,10,(.seq (.ops Vr) (.seq (.ops Vs) (.seq (.block 0 (.seq (.ops LM) (.cond (.var 8)
 (.seq (.ops Vt) .ret)
 (.seq (.ops Nr) (.cond (.var 9)
 (.seq (.ops Vu) .ret)
 .skip))))) (.seq (.ops Q0) .ret)))),[((.var 5),none),((.var 6),none)]⟩
def Nt:List AC:=[
 ⟨none,.mk (fun l=>match l with | [v]=>Cx 70 v | _=>none),[.var 1],(.set 4),[]⟩,
 ⟨none,.p1 some,[(.const (.int .i64 (0)))],(.set 5),[]⟩,
 ⟨none,.p1 some,[(.const (.bool false))],(.set 6),[]⟩]
def Nu:List AC:=[
 ⟨none,.p1 (fun x=>AA Tryz.prog 70 x 0),[.var 4],.push,[]⟩,
 ⟨none,.p1 (fun x=>AA Tryz.prog 65 x 0),[.loc 0],.push,[]⟩,
 ⟨none,.r1 (fun s a=>AG Tryz.prog s 3 a),[.loc 0],.push,[]⟩,
 ⟨none,.p2 (AQ Tryz.prog .neq 3),[(.loc 0),(.const (.int .i64 (1)))],.push,[]⟩,
 ⟨none,.p1 some,[.loc 0],(.set 7),[]⟩]
def WN:List AC:=[
 ⟨none,.p1 some,[.var 0],(.set 5),[]⟩,
 ⟨none,.p1 some,[(.const (.bool false))],(.set 6),[]⟩]
def Q9:List AC:=[
 ⟨none,.p1 (fun x=>AA Tryz.prog 70 x 0),[.var 4],.push,[]⟩,
 ⟨none,.p1 (fun x=>AA Tryz.prog 65 x 1),[.loc 0],.push,[]⟩,
 ⟨none,.r1 (fun s a=>AG Tryz.prog s 3 a),[.loc 0],.push,[]⟩,
 ⟨none,.r1 (fun s a=>AG Tryz.prog s 27 a),[.var 2],.push,[]⟩,
 ⟨none,.r (fun s l=>match l with | [x]=>BN Tryz.prog s 27 x | _=>none),[.loc 0],.push,[]⟩,
 ⟨none,.p2 (AQ Tryz.prog .lss 3),[.loc 2,.loc 0],.push,[]⟩,
 ⟨none,.p1 some,[.loc 0],(.set 8),[]⟩]
def WO:List AC:=[
 ⟨none,.r1 (fun s a=>AG Tryz.prog s 27 a),[.var 2],.push,[]⟩,
 ⟨none,.p1 (fun x=>AA Tryz.prog 70 x 0),[.var 4],.push,[]⟩,
 ⟨none,.p1 (fun x=>AA Tryz.prog 65 x 1),[.loc 0],.push,[]⟩,
 ⟨none,.r1 (fun s a=>AG Tryz.prog s 3 a),[.loc 0],.push,[]⟩,
 ⟨none,.p2 (AK Tryz.prog 27),[.loc 3,.loc 0],.push,[]⟩,
 ⟨none,.r1 (fun s a=>AG Tryz.prog s 3 a),[.loc 0],.push,[]⟩,
 ⟨none,.p1 some,[.loc 0],(.set 5),[]⟩,
 ⟨none,.p1 some,[(.const (.bool true))],(.set 6),[]⟩]
def WP:List AC:=[
 ⟨none,.r1 (fun s a=>AG Tryz.prog s 25 a),[.var 3],.push,[]⟩,
 ⟨none,.p1 (fun x=>AA Tryz.prog 70 x 0),[.var 4],.push,[]⟩,
 ⟨none,.p1 (fun x=>AA Tryz.prog 65 x 1),[.loc 0],.push,[]⟩,
 ⟨none,.r1 (fun s a=>AG Tryz.prog s 3 a),[.loc 0],.push,[]⟩,
 ⟨none,.r1 (fun s a=>AG Tryz.prog s 27 a),[.var 2],.push,[]⟩,
 ⟨none,.r (fun s l=>match l with | [x]=>BN Tryz.prog s 27 x | _=>none),[.loc 0],.push,[]⟩,
 ⟨none,.p2 (AQ Tryz.prog .sub 3),[.loc 2,.loc 0],.push,[]⟩,
 ⟨none,.call 21,[.loc 6,.loc 0],.push,[]⟩,
 ⟨none,.p1 some,[.loc 0],(.set 5),[]⟩,
 ⟨none,.p1 some,[(.const (.bool true))],(.set 6),[]⟩]
def bB:Al:=⟨4,9,(.seq (.ops Nt) (.seq (.block 0 (.seq (.ops Nu) (.cond (.var 7)
 (.seq (.ops WN) .ret)
 (.seq (.ops Q9) (.cond (.var 8)
 (.seq (.ops WO) .ret)
 .skip))))) (.seq (.ops WP) .ret))),[((.var 5),none),((.var 6),none)]⟩
def Vv:List AC:=[
 ⟨none,.p1 some,[(.const (.int .i64 (0)))],(.set 2),[]⟩]
def Vw:List AC:=[
 ⟨none,.r (fun s l=>match l with | [x]=>BN Tryz.prog s 27 x | _=>none),[.var 0],(.set 4),[]⟩,
 ⟨none,.p1 some,[(.const (.int .i64 (0)))],(.set 5),[]⟩]
def Ns:List AC:=[
 ⟨none,.p2 (AQ Tryz.prog .lss 3),[.var 5,.var 4],(.set 6),[]⟩]
def Q1:List AC:=[
 ⟨none,.p1 some,[.var 5],(.set 3),[]⟩]
def Q2:List AC:=[
 ⟨none,.p2 (AK Tryz.prog 27),[.var 0,.var 3],.push,[]⟩,
 ⟨none,.r1 (fun s a=>AG Tryz.prog s 3 a),[.loc 0],.push,[]⟩,
 ⟨none,.p2 (AQ Tryz.prog .eql 3),[.var 1,.loc 0],(.set 7),[]⟩]
def Vx:List AC:=[
 ⟨none,.p1 some,[.var 3],(.set 2),[]⟩]
def Vy:List AC:=[
 ⟨none,.p2 (AQ Tryz.prog .add 3),[(.var 5),(.const (.int .i64 (1)))],.push,[]⟩,
 ⟨none,.p1 some,[.loc 0],(.set 5),[]⟩]
def Ja:AW:=(.seq (.ops Ns) (.seq (.cond (.var 6)
 .skip
 (.exit 0)) (.seq (.block 1 (.seq (.ops Q1) (.seq (.ops Q2) (.cond (.var 7)
 (.seq (.ops Vx) .ret)
 .skip)))) (.ops Vy))))
def Q3:List AC:=[
 ⟨none,.p1 some,[(.const (.int .i64 (-1)))],(.set 2),[]⟩]
def bt:Al:=⟨2,8,(.seq (.ops Vv) (.seq (.seq (.ops Vw) (.block 0 (.loop Ja))) (.seq (.ops Q3) .ret))),[((.var 2),none)]⟩
def Vz:List AC:=[
 ⟨none,.mk (fun l=>match l with | [v]=>Cx 68 v | _=>none),[.var 0],(.set 1),[]⟩,
 ⟨none,.p1 some,[(.const .nilFunc)],(.set 2),[]⟩]
def V0:List AC:=[
 ⟨none,.p (fun l=>some (.func 59 (l.take 0) (l.drop 0))),[.var 1],.push,[]⟩,
 ⟨none,.p1 some,[.loc 0],(.set 2),[]⟩]
def bu:Al:=⟨1,3,(.seq (.ops Vz) (.seq (.ops V0) .ret)),[((.var 2),none)]⟩
def WZ:List AC:=[
 ⟨none,.p1 some,[(.const (.slice none 0 (some 0)))],(.set 1),[]⟩]
def Wo:List AC:=[
 ⟨none,.p2 (AQ Tryz.prog .eql 27),[(.var 0),(.const (.slice none 0 (some 0)))],(.set 2),[]⟩]
def aG:List AC:=[
 ⟨none,.p1 some,[(.const (.slice none 0 (some 0)))],(.set 1),[]⟩]
def W0:List AC:=[
 ⟨none,.mk (fun l=>(AY Tryz.prog 27 0 (zipIdx [] l)).bind fun r=>some (r,.slice 0)),[],.push,[]⟩,
 ⟨none,.e (fun s l=>Aj Tryz.prog s [27,27] l),[.loc 0,.var 0],.push,[]⟩,
 ⟨none,.p1 some,[.loc 0],(.set 1),[]⟩]
def bz:Al:=⟨1,3,(.seq (.ops WZ) (.seq (.seq (.ops Wo) (.cond (.var 2)
 (.seq (.ops aG) .ret)
 .skip)) (.seq (.ops W0) .ret))),[((.var 1),none)]⟩
theorem YP:AN Tryz.prog 10=some Zu:=by kernel_rfl
theorem YQ:AN Tryz.prog 11=some Zx:=by kernel_rfl
theorem YR:AN Tryz.prog 12=some bZ:=by kernel_rfl
theorem YS:AN Tryz.prog 13=some bc:=by kernel_rfl
theorem YT:AN Tryz.prog 14=some be:=by kernel_rfl
theorem YU:AN Tryz.prog 15=some bf:=by kernel_rfl
theorem YX:AN Tryz.prog 21=some bi:=by kernel_rfl
theorem YY:AN Tryz.prog 22=some bj:=by kernel_rfl
theorem YZ:AN Tryz.prog 24=some bk:=by kernel_rfl
theorem Yf:AN Tryz.prog 25=some bl:=by kernel_rfl
theorem Yg:AN Tryz.prog 28=some bm:=by kernel_rfl
theorem Yh:AN Tryz.prog 32=some bn:=by kernel_rfl
theorem Yi:AN Tryz.prog 33=some bp:=by kernel_rfl
theorem Ys:AN Tryz.prog 56=some b0:=by kernel_rfl
theorem Yj:AN Tryz.prog 34=some bq:=by kernel_rfl
theorem Yn:AN Tryz.prog 39=some bv:=by kernel_rfl
theorem Yk:AN Tryz.prog 35=some br:=by kernel_rfl
theorem Yo:AN Tryz.prog 40=some bB:=by kernel_rfl
theorem Yl:AN Tryz.prog 36=some bt:=by kernel_rfl
theorem Ym:AN Tryz.prog 38=some bu:=by kernel_rfl
theorem Yr:AN Tryz.prog 43=some bz:=by kernel_rfl
end
end Go.Proofs.YtickdehehcmfbaaGreatDoor.Am
set_option linter.unusedVariables false
set_option linter.unusedSimpArgs false
namespace Go.Proofs.YtickdehehcmfbaaGreatDoor.Am
open Go Go.Proofs
noncomputable section
structure Ah(E:Bb):Prop where
 P:E.P=Tryz.prog
 nat:∀ (f:FuncId) (xs:List AV) (s:AD),f ∉ [44,30,45,127,109,7,55,37]→E.nat f xs s=none
 tab:∀ (f:FuncId) (xs:List AV) (s:AD) (p:AV×AD),HE f xs s=some p→E.nat f xs s=some p
theorem Ah.go{E:Bb}(hE:Ah E){f:FuncId}{xs:List AV}{cf:Al}{K:AV→AD→Prop}{s:AD}(hf:AN Tryz.prog f=some cf)(hne:f ∉ [44,30,45,127,109,7,55,37])(ha:xs.length=cf.na)(h:Qa E none cf.body (Ends Tryz.prog cf.results K) (Ql xs cf.nv) [] s):WF E f xs K s:=
 WF.body' (hE.nat f xs s hne) (by rw[hE.P];exact hf) ha (by rw[hE.P];exact h)
theorem WF.native{E:Bb}{f:FuncId}{xs:List AV}{K:AV→AD→Prop}{s s':AD}{v:AV}(h:E.nat f xs s=some (v,s'))(k:K v s'):WF E f xs K s:=by
 refine⟨1,(v,s'),?_,k⟩
 show Fs E _ f xs s=_
 unfold Fs
 rw[h]
def BH(S:List Tm)(t:Tm)(m:Nat):List AV:=BG S t++t.cells++[iv (t.kids.length:Int),iv (t.sz:Int),.map (some m)]
theorem O9:∀a,a<13→(Ex.getD a ([],Tm.nullC)).2.length=7:=by decide
theorem Dm{t:Tm}(h:t.ok):t.cells.length=7:=by
 cases t<;>first | rfl | exact O9 _ h
theorem EA{S:List Tm}{t:Tm}{m:Nat}(h:t.ok):(BH S t m).length=16:=by
 simp[BH,BG,Dm h]
def Du(S:List Tm):List Tm→List Nat→List AV
 | t::l,m::vm=>BH S t m++Du S l vm
 | _,_=>[]
theorem Fh{S:List Tm}{u:Tm}{m:Nat}:∀ (l:List Tm)(vm:List Nat),l.length=vm.length→(∀t∈l,∀k∈t.kids,k∈S)→(∀k∈u.kids,k∈S) →
  Du (S++[u]) (l++[u]) (vm++[m])=Du S l vm++BH S u m
 | [],[],_,_,hu=>by simp only[cL,Du,BH,Cp [u] hu,List.append_nil,cL]
 | t::l,n::vm,h,hl,hu=>by
  simp only[cO,Du,dP]
  rw[Fh l vm (by simpa using h) (fun x hx=>hl x (cn _ hx)) hu]
  simp only[BH,Cp [u] (hl t ck),dP]
theorem IX{S:List Tm}:∀ {l:List Tm}{vm:List Nat},vm.length=l.length→(∀t∈l,t.ok)→(Du S l vm).length=l.length * 16
 | [],[],_,_=>rfl
 | t::l,m::vm,h,ho=>by
  simp only[Du,dC,cN,EA (ho t ck)]
  rw[IX (by simpa using h) (fun x hx=>ho x (cn _ hx))]
  omega
theorem Jf{S:List Tm}:∀ {l:List Tm}{vm:List Nat},vm.length=l.length→(∀t∈l,t.ok)→∀ {i:Nat}{t:Tm}{m:Nat},l[i]? = some t→vm[i]? = some m→∀j,j<16→(Du S l vm)[i * 16+j]? = (BH S t m)[j]?
 | [],[],_,_,i,t,m,h,_,_,_=>by simp at h
 | t::l,m::vm,hl,ho,i,t',m',h,k,j,hj=>by
  have hlen:=EA (S:=S) (m:=m) (ho t ck)
  simp only[Du]
  cases i with
  | zero =>
   simp at h k
   subst h;subst k
   rw[dA (by omega)]
   congr 1;omega
  | succ i =>
   rw[dB (by omega),hlen,show(i+1) * 16+j - 16=i * 16+j from by omega]
   exact Jf (by simpa using hl) (fun x hx=>ho x (cn _ hx)) (by simpa using h) (by simpa using k) j hj
def Gy(s:AD)(m:Nat)(t:Tm):Prop:=∃ks:List Int,s.heap.get m=some (.map 3 (A6 ks))∧ks.Nodup∧(∀x,x∈ks↔t.has x=true)∧ks.length≤100000
structure EL(s:AD)(p:Nat)(S:List Tm)(O:List Nat)(tv:AV)(fi:Nat)(vm OT:List Nat):Prop where
 obj:s.heap.get p=some (R 62 0 false [tv,.map (some fi)])
 buf:C2 70 16 s tv S.length (Du S S vm) OT
 fnd:s.heap.get fi=some (.map 65 (CQ S))
 vml:vm.length=S.length
 vars:∀ (i:Nat) (t:Tm) (m:Nat),S[i]? = some t→vm[i]? = some m→Gy s m t∧m<s.next∧m ∉ p::fi::OT
 eq:O=p::fi::(OT++vm)
 plt:p<s.next
 flt:fi<s.next
 pf:p≠fi
 pO:p ∉ OT
 fO:fi ∉ OT
structure AS(s:AD)(p:Nat)(S:List Tm)(O:List Nat):Prop where
 ok:Hx S
 small:S.length≤100000
 ex:∃tv fi vm OT,EL s p S O tv fi vm OT
def Bk(O:List Nat)(s s':AD):Prop:=s.next≤s'.next∧∀j,j<s.next→j ∉ O→s'.heap.get j=s.heap.get j
theorem Bk.refl(O:List Nat)(s:AD):Bk O s s:=⟨cJ _,fun _ _ _=>rfl⟩
def AR(O O':List Nat)(s:AD):Prop:=∀j∈O',j∈O∨s.next≤j
theorem AR.refl(O:List Nat)(s:AD):AR O O s:=fun _ h=>.inl h
theorem Bk.trans{O O':List Nat}{s s1 s2:AD}(h:Bk O s s1)(k:Bk O' s1 s2)(hO:AR O O' s):Bk O s s2:=
 ⟨cw h.1 k.1,fun j hj hn=>(k.2 j (cg hj h.1) (fun hm=>(hO j hm).elim hn (fun hl=>by omega))).trans (h.2 j hj hn)⟩
theorem AR.trans{O O1 O2:List Nat}{s s1:AD}(h:AR O O1 s)(k:AR O1 O2 s1)(hn:s.next≤s1.next):AR O O2 s:=fun j hj =>
 (k j hj).elim (h j) (fun hl=>.inr (cw hn hl))
theorem Gy.frame{s s':AD}{m:Nat}{t:Tm}(h:Gy s m t)(e:s'.heap.get m=s.heap.get m):Gy s' m t:=by
 obtain⟨ks,h1,h2⟩:=h
 exact⟨ks,by rw[e];exact h1,h2⟩
theorem EL.lt      {s : AD}  {p : Nat} {S : List Tm} {O : List Nat} {tv : AV} {fi : Nat} {vm OT : List Nat} (h : EL      s p S O tv fi vm OT) : ∀ j ∈ O, j < s.next := by
  intro j hj
  rw[h.eq]at hj
  rcases dE.1 hj with rfl | hj
  · exact h.plt
  · rcases dE.1            hj with rfl | hj
    · exact h.flt
    · rcases List.mem_append.1 hj with hj | hj
      · exact h.buf.lt j hj
      · obtain⟨i,hi,he⟩:=dj.1 hj
        have hiS:i<S.length:=by rw[← h.vml];exact hi
        exact(h.vars i S[i] j (cY hiS) (by rw[← he];exact cY hi)).2.1
theorem AS.lt{s:AD}{p:Nat}{S:List Tm}{O:List Nat}(h:AS s p S O):∀j∈O,j<s.next:=let ⟨_,_,_,_,h⟩:=h.ex;h.lt
theorem AS.frame{s s':AD}{p:Nat}{S:List Tm}{O:List Nat}(h:AS s p S O)(hn:s.next≤s'.next)(k:∀j∈O,s'.heap.get j=s.heap.get j):AS s' p S O:=by
 obtain⟨tv,fi,vm,OT,e⟩:=h.ex
 have hp:p∈O:=by rw[e.eq];simp
 have hf:fi∈O:=by rw[e.eq];simp
 have hT:∀j∈OT,j∈O:=fun j hj=>by rw[e.eq];simp[hj]
 have hv:∀j∈vm,j∈O:=fun j hj=>by rw[e.eq];simp[hj]
 refine⟨h.ok,h.small,tv,fi,vm,OT,?_,?_,?_,e.vml,?_,e.eq,cg e.plt hn,cg e.flt hn,e.pf,e.pO,e.fO⟩
 ·rw[k p hp];exact e.obj
 ·exact e.buf.frame hn fun j hj=>k j (hT j hj)
 ·rw[k fi hf];exact e.fnd
 ·intro i t m hi hm
  obtain⟨k1,k2,k3⟩:=e.vars i t m hi hm
  exact⟨k1.frame (k m (hv m (cu hm))),cg k2 hn,k3⟩
theorem AS.old{s s':AD}{p:Nat}{S:List Tm}{O:List Nat}(h:AS s p S O)(k:BK s.next s s'):AS s' p S O:=
 h.frame k.1 fun j hj=>k.2 j (h.lt j hj)
section
variable{s:AD}{p:Nat}{S:List Tm}{O:List Nat}{tv:AV}{fi:Nat}{vm OT:List Nat}
theorem EL.entry      (h : EL      s p S O tv fi vm OT) (hs : Hx  S) {i : Nat} {t : Tm} (hi : S[i]? = some t) :
    ∃m j r,vm[i]? = some m∧tv=.slice (some (j,0)) S.length none∧j∈O∧s.heap.get j=some (.row r)∧BF (some (.row r)) (i * 16) 16=some (BH S t m)∧∀k,k<16→CW (some (.row r)) (i * 16+k)=(BH S t m)[k]? := by
  have hil:i<S.length:=by
    rcases cZ i S.length with h' | h'
    · exact h'
    · rw[cm h']at hi;cases hi
  have him:i<vm.length:=by rw[h.vml];exact hil
  have hm:vm[i]? = some vm[i]:=cY (by rw[h.vml];exact hil)
  have hlen:=IX (S:=S) h.vml hs.ok
  have hat:=Jf (S:=S) h.vml hs.ok hi hm
  have hel:=EA (S:=S) (m:=vm[i]) (hs.ok t (cu hi))
  rcases h.buf.row with⟨_,h0,_⟩ | ⟨j,r,h1,h2,h3,h4⟩
  · omega
  · refine ⟨vm[i], j, r, hm, h1, by rw [h.eq]; simp [h2], h3, ?_, fun k hk => ?_⟩
    · rw[ES h4 (by rw[hlen];omega)]
      congr 1
      apply List.ext_getElem?
      intro k
      by_cases hk:k<16
      · rw[de hk,df]
        exact hat k hk
      · rw[cm (by simp;omega),cm (by omega)]
    · have hk2:(BH S t vm[i])[k]? = some (BH S t vm[i])[k]:=cY (by omega)
      rw[hk2]
      exact ZE h4 (by rw[hat k hk];exact hk2)
theorem F1{α:Type}:∀ {l m:List α},l.Nodup→(∀x∈l,x∈m)→l.length≤m.length
 | [],_,_,_=>cp _
 | a::l,m,hn,h=>by
  obtain⟨m1,m2,rfl⟩:=List.append_of_mem (h a ck)
  simp only[dQ]at hn
  have:=F1 (m:=m1++m2) hn.2 fun x hx=>by
   have:=h x (cn _ hx)
   simp only[List.mem_append,dE]at this ⊢
   rcases this with h' | h' | h'
   ·exact .inl h'
   ·subst h';exact absurd hx hn.1
   ·exact .inr h'
  simp at this ⊢;omega
theorem FO{S:List Tm}(hs:Hx S){x:Int}:∀ (t:Tm),t∈S→t.has x=true→Tm.var x∈S
 | .var i,ht,h=>by simp[Tm.has]at h;subst h;exact ht
 | .bnd _,_,h=>by cases h
 | .con _,_,h=>by cases h
 | .sel d k,ht,h=>by
  simp only[Tm.has,Bool.or_eq_true]at h
  rcases h with h | h
  ·exact FO hs d (hs.kid ht (by simp[Tm.kids])).1 h
  ·exact FO hs k (hs.kid ht (by simp[Tm.kids])).1 h
 | .upd d k a,ht,h=>by
  simp only[Tm.has,Bool.or_eq_true]at h
  rcases h with(h | h) | h
  ·exact FO hs d (hs.kid ht (by simp[Tm.kids])).1 h
  ·exact FO hs k (hs.kid ht (by simp[Tm.kids])).1 h
  ·exact FO hs a (hs.kid ht (by simp[Tm.kids])).1 h
theorem Tg{S:List Tm}(hs:Hx S){t:Tm}(ht:t∈S){ks:List Int}(hn:ks.Nodup)(hk:∀x∈ks,t.has x=true):ks.length≤S.length:=by
 have hsub:∀u∈ks.map Tm.var,u∈S:=fun u hu=>by
  obtain⟨x,hx,rfl⟩:=List.mem_map.1 hu
  exact FO hs t ht (hk x hx)
 have hnd:(ks.map Tm.var).Nodup:=by
  rw[List.Nodup,List.pairwise_map]
  exact hn.imp fun h e=>h (by injection e)
 have:=F1 hnd hsub
 simpa using this
end
def push(S:List Tm)(u:Tm):List Tm:=if u∈S then S else S++[u]
def FE(S:List Tm)(l:List Tm):List AV:=l.map fun t=>iv (ix S t:Int)
def Bd(s:AD)(S:List Tm)(l:List Tm)(v:AV):Prop:=
 (l=[]∧v=.slice none 0 (some 0))∨∃j q cap,v=.slice (some (j,q)) l.length cap∧0<l.length∧j<s.next∧BF (s.heap.get j) q l.length=some (FE S l)
theorem Ln{o:Option Ae}{q n:Nat}{cs:List AV}(h:BF o q n=some cs){k:Nat}(hk:k<n):CW o (q+k)=cs[k]? := by
 unfold BF at h
 simp only[cX]at h
 obtain⟨r,h1,h2⟩:=h
 obtain⟨h3,h4⟩:=AB h2
 have h3:q+n≤r.n:=by simpa[ce]using h3
 unfold CW
 rw[h1,Option.bind_some,QC (show q+k<r.n by omega)]
 exact AI.take_get h4 k hk
theorem M3{o:Option Ae}{q:Nat}{S l:List Tm}(h:BF o q l.length=some (FE S l)){k:Nat}{t:Tm}(hk:l[k]? = some t):CW o (q+k)=some (iv (ix S t:Int)):=by
 have hlt:k<l.length:=by
  rcases cZ k l.length with h' | h'
  ·exact h'
  ·rw[cm h']at hk;cases hk
 rw[Ln h hlt,FE,dG,hk];rfl
theorem Ua(s:AD)(i o:Nat):Ar Tryz.prog 44 false false false s [.ptr (some (i,o))]=some (.slice (some (i,o)) 3 (some 3)):=by
 have:Ar Tryz.prog 44 false false false s [.ptr (some (i,o))]=some (.slice (some (i,o+0 * 1)) 3 (some 3)):=by kernel_rfl
 exact this
theorem Mq{s:AD}{i o:Nat}{S l:List Tm}{v:AV}(hn:l.length≤3)(h:Bd s S l v):
  IY Tryz.prog s [27,27] [.slice (some (i,o)) 3 (some 3),v]=(Bt s i o (FE S l)).bind fun s'=>some (iv (l.length:Int),s'):=by
 rcases h with⟨rfl,rfl⟩ | ⟨j,q,cap,rfl,h0,_,h⟩
 ·simp only[IY,Tryz.underlying27,Dt,Option.bind_some]
  rfl
 ·have hb:Nat.ble l.length 3=true:=CO hn
  simp only[IY,Tryz.underlying27,Dt,Option.bind_some,hb,cond_true,ct,EY,h]
  rfl
theorem Pc{s:AD}{S l:List Tm}{v:AV}(h:Bd s S l v)(s':AD):BN Tryz.prog s' 27 v=some (iv (l.length:Int)):=by
 rcases h with⟨rfl,rfl⟩ | ⟨j,q,cap,rfl,_⟩<;>exact Af Tryz.underlying27
theorem EV(u:Tm):u.kids.length≤3:=by cases u<;>simp[Tm.kids]
theorem Sg{s:AD}{S:List Tm}{u:Tm}{b:Nat}(hb:s.next=b):
  Bt (ext s [R 65 0 false [iv u.kind,iv u.id,iv 0,iv 0,iv 0,.str u.ktext],R 43 0 false u.cells]) (nid b 0) 2 (FE S u.kids)=some (ext s [R 65 0 false (BG S u),R 43 0 false u.cells]):=by
 cases u<;>simp[Tm.kids,FE,BG,part,hb,Rz,Wa,Wb,Wc,Wd,We,Wf,Wg,Wh,Wi,Wj,Wl,Wm,Wn,Wp,Wq,Wr,Ws,Wt,Wu,Wv,Ww,Wx,Wy,Wz,Xa,Xb,Xc,Xd,Xe,Xf,Xg,Xh,Xi,Xj,Xk,Xl,Xm,Xn,Xo,Xp,Xq,Xr,cN,cP,cO,cL,cQ,cR,List.getElem?_cons_zero,List.getElem?_cons_succ,cM,cT,cU,cV,cK,Nat.reduceAdd,Nat.reduceLT,Nat.reduceLeDiff,decide_true,decide_false,Bool.true_and,Bool.and_true,cW,cJ,Option.some.injEq,Xs,Xt,Xu,Xv]
set_option maxRecDepth 100000 in
theorem UZ(a b c d e:Int)(l:List Nat):CI Tryz.prog 65 (.agg [iv a,iv b,iv c,iv d,iv e,.str l]) =
  (A9 .i64 a && (A9 .i64 b && ((A9 .i64 c && (A9 .i64 d && (A9 .i64 e && true))) && (Nat.ble l.length 1099511627776 && true)))):=by kernel_rfl
theorem T6:∀a,a<13→(Ex.getD a ([],[])).1.length<200:=by decide
theorem TY{S:List Tm}{u:Tm}(hS:S.length<100000)(hk:∀k∈u.kids,k∈S)(ho:u.ok):CI Tryz.prog 65 (.agg (BG S u))=true:=by
 have hp:∀k,i64 (part S u k):=fun k=>by
  unfold part
  cases e:u.kids[k]? with
  | none=>show i64 0;unfold i64;omega
  | some x=>have:=E8 (hk x (cu e));show i64 (ix S x:Int);unfold i64;omega
 have h1:i64 u.kind:=by cases u<;>(simp only[Tm.kind,i64];omega)
 have h2:i64 u.id:=by
  cases u with
  | var i=>exact ho
  | bnd i=>exact ho.2
  | con n=>show i64 0;unfold i64;omega
  | sel d k=>show i64 0;unfold i64;omega
  | upd d k a=>show i64 0;unfold i64;omega
 have h3:u.ktext.length≤1099511627776:=by
  cases u with
  | con n=>have:=T6 n ho;show(Ex.getD n ([],[])).1.length≤_;omega
  | var i=>exact cp _
  | bnd i=>exact cp _
  | sel d k=>exact cp _
  | upd d k a=>exact cp _
 unfold BG
 rw[UZ,BV h1,BV h2,BV (hp 0),BV (hp 1),BV (hp 2),CO h3]
 rfl
theorem Kn{s:AD}{fi:Nat}{S:List Tm}{u:Tm}(hf:s.heap.get fi=some (.map 65 (CQ S)))(hs:Hx S)(hS:S.length<100000)(hk:∀k∈u.kids,k∈S)(ho:u.ok):
  Bz Tryz.prog s 60 (.map (some fi)) (.agg (BG S u)) true=some (.tuple [if u∈S then iv (ix S u:Int)else iv 0,.bool (decide (u∈S))]):=by
 unfold Bz
 simp only[Tryz.underlying60,TY hS hk ho,Xa,Ea,hf,Db,Option.bind_some,If hs hk ho]
 by_cases hm:u∈S<;>simp[hm,cI]
theorem K6{s:AD}{fi:Nat}{S:List Tm}{u:Tm}(hf:s.heap.get fi=some (.map 65 (CQ S)))(hs:Hx S)(hS:S.length<100000)(hk:∀k∈u.kids,k∈S)(ho:u.ok)(hu:u ∉ S):
  B1 Tryz.prog s 60 (.map (some fi)) (.agg (BG S u)) (iv (S.length:Int))=some (setObj s fi (.map 65 (CQ (S++[u])))):=by
 unfold B1
 simp only[Tryz.underlying60,TY hS hk ho,Xa,Ea,hf,Db,Option.bind_some,JP,If hs hk ho,if_neg hu]
 rw[Ig hs hu hk]
theorem PY(xs:List AV)(s:AD):HE 55 xs s=IZ 3 s xs:=by kernel_rfl
theorem PE{E:Bb}(hE:Ah E){s:AD}{i j:Nat}{es fs es':List (AV×AV)}{K:AV→AD→Prop}(hij:i≠j)(h1:s.heap.get i=some (.map 3 es))(h2:s.heap.get j=some (.map 3 fs))(hl:es.length+fs.length≤1000000)(hp:HH fs es=some es')
  (k:K (.tuple []) (setObj s i (.map 3 es'))):WF E 55 [.map (some i),.map (some j)] K s:=by
 refine WF.native (hE.tab _ _ _ (.tuple [],setObj s i (.map 3 es')) ?_) k
 rw[PY]
 have hb:Nat.beq i j=false:=AI.beq_no hij
 simp only[IZ,hb,Bool.not_false,Xa,Ea,h1,h2,Db,Option.bind_some,CO hl,hp]
theorem PU(a:Int):CF false (iv a) [iv 4097]=some (iv (min a 4097)):=by
 show AH true (some (iv (bif JH 4097 a then 4097 else a)))=_
 rw[B4]
 show some (iv _)=_
 by_cases h:(4097:Int)<a
 ·simp only[h,decide_true,cond_true];rw[Int.min_eq_right (by omega)]
 ·simp only[h,decide_false,cond_false];rw[Int.min_eq_left (by omega)]
theorem Bd.at{s:AD}{S l:List Tm}{v:AV}(h:Bd s S l v){k:Nat}{t:Tm}(hk:l[k]? = some t):∃j q cap,v=.slice (some (j,q)) l.length cap∧j<s.next∧CW (s.heap.get j) (q+k)=some (iv (ix S t:Int)):=by
 rcases h with⟨rfl,rfl⟩ | ⟨j,q,cap,rfl,h0,h1,h2⟩
 ·simp at hk
 ·exact⟨j,q,cap,rfl,h1,M3 h2 hk⟩
def bU(z:Nat):List Tm→Nat
 | []=>z
 | t::l=>bU (min (z+t.sz) 4097) l
theorem Tb(u:Tm):bU 1 u.kids=u.sz:=by cases u<;>rfl
section
variable{E:Bb}(hE:Ah E){s:AD}{p:Nat}{S:List Tm}{O:List Nat}{tv:AV}{fi:Nat}{vm OT:List Nat}(e:EL s p S O tv fi vm OT)(hS:Hx S){pv:AV}{us:List Tm}(hp:Bd s S us pv)(h3:us.length≤3)(hin:∀t∈us,t∈S)
  (a1 a2 a4 a5 a6 a7 a8 a11 a12 k0 k1 k2 k3 k4 k5 c0 c1 c2 c3 c4 c5 c6:AV) (kb vb:Ae) {b:Nat} (hs:s.next=b)
include hE e hS hp h3 hin hs
theorem Sy       {Q : Aw   → Prop} {marks : List Nat} : ∀ (l2 l1 : List Tm) (ks : List Int) (z : Nat) (a10 a16 : AV), us = l1 ++ l2 → ks.Nodup → ks.length ≤ 100000 + l1.length * 100000 → z ≤ 4097 →
    (∀ (ks':List Int) (b10 b15 b16:AV),ks'.Nodup→(∀x,x∈ks'↔x∈ks∨∃t∈l2,t.has x=true) →
      Ab 0 Q ⟨.exit 0,[.ptr (some (p,0)),a1,a2,pv,a4,a5,a6,a7,a8,.ptr (some (nid b 3,0)),b10,a11,a12,pv,iv (us.length:Int),b15,b16],marks,ext s [kb,vb,.map 3 (A6 ks'),R 70 0 false [k0,k1,k2,k3,k4,k5,c0,c1,c2,c3,c4,c5,c6,iv (us.length:Int),iv (bU z l2:Int),.map (some (nid b 2))]]⟩) →
    WC E none G2.loop (Ab 0 Q) [.ptr (some (p,0)),a1,a2,pv,a4,a5,a6,a7,a8,.ptr (some (nid b 3,0)),a10,a11,a12,pv,iv (us.length:Int),iv (l1.length:Int),a16] marks
      (ext s [kb,vb,.map 3 (A6 ks),R 70 0 false [k0,k1,k2,k3,k4,k5,c0,c1,c2,c3,c4,c5,c6,iv (us.length:Int),iv (z:Int),.map (some (nid b 2))]]):=by
  intro l2
  induction l2 with
  | nil =>
    intro l1 ks z a10 a16 hus hn hl hz hq
    refine WC.loop' ?_
    have hlt:¬ ((l1.length:Int)<(us.length:Int)):=by rw[hus];simp
    simp only[G2,QX,hlt,decide_false,Qa,Qb,Qc,Qd,Qe,Qf,Qg,Qh,Qi,Qj,Qk,Ql,Qm,Qn,true_and,and_true,Qo,Qp,Qq,Qr,Qs,Qt,Qu,Qv,Qw,Qx,Qy,Qz,Ra,Rb,Rc,Rd,Re,Rf,Rg,Rh,Ri,Rj,Rk,Rl,Rm,Ya,Yb,Yc,Rn,Ro,Xv,Yd,Ye,Rq,Rs,Rt,Ru,Rw,Rx,Ry]
    exact hq ks _ _ _ hn (fun x=>by simp)
  | cons t l2 ih =>
    intro l1 ks z a10 a16 hus hn hl hz hq
    refine WC.loop' ?_
    obtain⟨L,hL⟩:∃L,L=AW.loop G2:=⟨_,rfl⟩
    rw[← hL]
    have hlt:((l1.length:Int)<(us.length:Int)):=by rw[hus];simp;omega
    have hat:us[l1.length]? = some t:=by rw[hus];simp
    obtain⟨j,q,cap,rfl,hj,hpl⟩:=hp.at hat
    have htS:t∈S:=hin t (cu hat)
    obtain⟨m,jr,r,hvm,rfl,hjO,hjr,_,hle⟩:=e.entry hS (C0 htS)
    have hls:=hle 14 (by omega)
    have hlv:=hle 15 (by omega)
    rw[← hjr]at hls hlv
    have hc7:=Dm (hS.ok t htS)
    have es:(BH S t m)[14]? = some (iv (t.sz:Int)):=by simp[BH,BG,hc7,dB,dA]
    have ev:(BH S t m)[15]? = some (.map (some m)):=by simp[BH,BG,hc7,dB,dA]
    rw[es]at hls
    rw[ev]at hlv
    obtain⟨⟨mk,hm1,hm2,hm3,hm4⟩,hmb,hmO⟩:=e.vars _ _ _ (C0 htS) hvm
    have hpb:=e.plt
    have hobj:=e.obj
    have hjrb:=e.lt jr hjO
    rw[hs]at hj hjrb hmb hpb
    have hzz:=t.sz_pos
    have hix:=E8 htS
    have hadd:i64 ((z:Int)+(t.sz:Int)):=by unfold i64;omega
    have hadd1:i64 ((l1.length:Int)+1):=by unfold i64;omega
    have hl3:l1.length<us.length:=by omega
    simp only[G2,QX,QR,QS,hlt,decide_true,Qa,Qb,Qc,Qd,Qe,Qf,Qg,Qh,Qi,Qj,Qk,Ql,Qm,Qn,true_and,and_true,Qo,Qp,Qq,Qr,Qs,Qt,Qu,Qv,Qw,Qx,Qy,Qz,Ra,Rb,Rc,Rd,Re,Rf,Rg,Rh,Ri,Rj,Rk,Rl,Rm,Ya,Yb,Yc,Rn,Ro,Xv,Yd,Ye,Rq,Rs,Rt,Ru,Rw,Rx,Ry,AU Tryz.underlying27 Dt hl3,AU Tryz.underlying59 K3 hix,CV,On,Om,Dt,Y8,G8,hj,hjrb,hpb,hpl,hobj,hls,hs,ct,A0 _ _ _ _ hadd,PU,Rz,Wa,Wb,Wc,Wd,We,Wf,Wg,Wh,Wi,Wj,Wl,Wm,Wn,Wp,Wq,Wr,Ws,Wt,Wu,Wv,Ww,Wx,Wy,Wz,Xa,Xb,Xc,Xd,Xe,Xf,Xg,Xh,Xi,Xj,Xk,Xl,Xm,Xn,Xo,Xp,Xq,Xr,cN,cP,cO,cL,cQ,cR,List.getElem?_cons_zero,List.getElem?_cons_succ,cM,cT,cU,cV,cK,Nat.reduceAdd,Nat.reduceLT,Nat.reduceLeDiff,decide_true,decide_false,Bool.true_and,Bool.and_true,cW,cJ,Option.some.injEq,Xs,Xt,Xu,Xv]
    have hmn:nid b 2≠m:=by rw[AF];omega
    simp only[QT,Qa,Qb,Qc,Qd,Qe,Qf,Qg,Qh,Qi,Qj,Qk,Ql,Qm,Qn,true_and,and_true,Qo,Qp,Qq,Qr,Qs,Qt,Qu,Qv,Qw,Qx,Qy,Qz,Ra,Rb,Rc,Rd,Re,Rf,Rg,Rh,Ri,Rj,Rk,Rl,Rm,Ya,Yb,Yc,Rn,Ro,Xv,Yd,Ye,Rq,Rs,Rt,Ru,Rw,Rx,Ry,AU Tryz.underlying59 K3 hix,On,Om,SP,G8,hjrb,hpb,hobj,hlv,hs,Rz,Wa,Wb,Wc,Wd,We,Wf,Wg,Wh,Wi,Wj,Wl,Wm,Wn,Wp,Wq,Wr,Ws,Wt,Wu,Wv,Ww,Wx,Wy,Wz,Xa,Xb,Xc,Xd,Xe,Xf,Xg,Xh,Xi,Xj,Xk,Xl,Xm,Xn,Xo,Xp,Xq,Xr,cN,cP,cO,cL,cQ,cR,List.getElem?_cons_zero,List.getElem?_cons_succ,cM,cT,cU,cV,cK,Nat.reduceAdd,Nat.reduceLT,Nat.reduceLeDiff,decide_true,decide_false,Bool.true_and,Bool.and_true,cW,cJ,Option.some.injEq,Xs,Xt,Xu,Xv]
    refine PE hE hmn (by rw[Wg hs (by simp)];rfl) (by rw[Wh (by rw[hs];exact hmb)];exact hm1) ?_ (Hp mk ks) ?_
    · simp only[A6,co];omega
    have hzc:min ((z:Int)+(t.sz:Int)) 4097=((min (z+t.sz) 4097:Nat):Int):=by omega
    simp only[QU,Qa,Qb,Qc,Qd,Qe,Qf,Qg,Qh,Qi,Qj,Qk,Ql,Qm,Qn,true_and,and_true,Qo,Qp,Qq,Qr,Qs,Qt,Qu,Qv,Qw,Qx,Qy,Qz,Ra,Rb,Rc,Rd,Re,Rf,Rg,Rh,Ri,Rj,Rk,Rl,Rm,Ya,Yb,Yc,Rn,Ro,Xv,Yd,Ye,Rq,Rs,Rt,Ru,Rw,Rx,Ry,A0 _ _ _ _ hadd1,hs,hzc,Rz,Wa,Wb,Wc,Wd,We,Wf,Wg,Wh,Wi,Wj,Wl,Wm,Wn,Wp,Wq,Wr,Ws,Wt,Wu,Wv,Ww,Wx,Wy,Wz,Xa,Xb,Xc,Xd,Xe,Xf,Xg,Xh,Xi,Xj,Xk,Xl,Xm,Xn,Xo,Xp,Xq,Xr,cN,cP,cO,cL,cQ,cR,List.getElem?_cons_zero,List.getElem?_cons_succ,cM,cT,cU,cV,cK,Nat.reduceAdd,Nat.reduceLT,Nat.reduceLeDiff,decide_true,decide_false,Bool.true_and,Bool.and_true,cW,cJ,Option.some.injEq,Xs,Xt,Xu,Xv]
    have hlen:(l1++[t]).length=l1.length+1:=by simp
    have:=ih (l1++[t]) (mk.foldl Fv ks) (min (z+t.sz) 4097) (iv (ix S t:Int)) (.bool true) (by rw[hus];simp) (HZ mk hn) ?_ (by omega) ?_
    · rw [hlen] at this
      rw[hL]
      exact this
    · have:=GZ mk ks
      rw[hlen];omega
    · intro ks' b10 b15 b16 hn' hx
      refine hq ks' b10 b15 b16 hn' fun x=>?_
      rw[hx,Jp,hm3]
      constructor
      · rintro ((h | h) | ⟨u, h1, h2⟩)
        · exact .inl h
        · exact .inr ⟨t,ck,h⟩
        · exact .inr ⟨u,cn _ h1,h2⟩
      · rintro (h | ⟨u, h1, h2⟩)
        · exact .inl (.inl h)
        · rcases dE.1            h1 with rfl | h1
          · exact .inl (.inr h2)
          · exact .inr ⟨u,h1,h2⟩
end
set_option maxRecDepth 100000 in
theorem QE(k0 k1 k2 k3 k4 k5 c0 c1 c2 c3 c4 c5 c6:AV)(n z:Int)(m:Nat):AT Tryz.prog 70 (zipIdx [0,1,2,3,4] [.agg [k0,k1,k2,k3,k4,k5],.agg [c0,c1,c2,c3,c4,c5,c6],iv n,iv z,.map (some m)]) =
  some (.agg [k0,k1,k2,k3,k4,k5,c0,c1,c2,c3,c4,c5,c6,iv n,iv z,.map (some m)]):=by kernel_rfl
theorem Ph(k0 k1 k2 k3 k4 k5 c0 c1 c2 c3 c4 c5 c6 n z m:AV):AY Tryz.prog 59 1 (zipIdx [0] [.agg [k0,k1,k2,k3,k4,k5,c0,c1,c2,c3,c4,c5,c6,n,z,m]]) =
  some (R 70 16 false [k0,k1,k2,k3,k4,k5,c0,c1,c2,c3,c4,c5,c6,n,z,m]):=by kernel_rfl
theorem OL:DN Tryz.prog 68=some 3:=by kernel_rfl
theorem Tj:B6 Tryz.prog 70 16=true:=by kernel_rfl
theorem O0:∀a,a<13→Aa (Ex.getD a ([],Tm.nullC)).2=true:=by decide
theorem Tm.cells7{t:Tm}(h:t.ok):∃c0 c1 c2 c3 c4 c5 c6,t.cells=[c0,c1,c2,c3,c4,c5,c6]∧c0.isCell=true∧c1.isCell=true∧c2.isCell=true∧c3.isCell=true∧c4.isCell=true∧c5.isCell=true∧c6.isCell=true:=by
 have h7:=Dm h
 have ha:Aa t.cells=true:=by
  cases t<;>first | rfl | exact O0 _ h
 match hc:t.cells,h7,ha with
 | [c0,c1,c2,c3,c4,c5,c6],_,ha =>
  simp only[Aa,Bool.and_eq_true,and_true]at ha
  exact⟨_,_,_,_,_,_,_,rfl,ha⟩
section
variable{E:Bb}{s:AD}{p:Nat}{S:List Tm}{O:List Nat}{tv:AV}{fi:Nat}{vm OT:List Nat}(e:EL s p S O tv fi vm OT)(hS:Hx S)(hsm:S.length<100000)
  {u:Tm} (hk:∀k∈u.kids,k∈S) (ho:u.ok) (hu:u ∉ S) (a1 a2 pv a5 a6 a7 a8 a10 a11 a12 a13 a14 a15 a16:AV) (vb:Ae) {b:Nat} (hs:s.next=b) {ks:List Int} (hkn:ks.Nodup) (hkx:∀x,x∈ks↔u.has x=true)
include e hS hsm hk ho hu hs hkn hkx
theorem UR      {K : AV → AD  → Prop} (hK : ∀ s' O', AS      s' p (S ++ [u]) O' → Bk  O s s' → AR   O O' s → K (iv (S.length : Int)) s') :
    Qb E KT (fun v s'=>Qb E KU (fun v s'=>Qb E KW (fun v s'=>JO (B5 s' []) fun s'=>K (Iu v 6) s') [] v s') [] v s') []
      [.ptr (some (p,0)),a1,a2,pv,.ptr (some (nid b 0,0)),a5,a6,a7,a8,.ptr (some (nid b 3,0)),a10,a11,a12,a13,a14,a15,a16]
      (ext s [R 65 0 false (BG S u),vb,.map 3 (A6 ks),R 70 0 false (BH S u (nid b 2))]):=by
  obtain⟨c0,c1,c2,c3,c4,c5,c6,hc,d0,d1,d2,d3,d4,d5,d6⟩:=u.cells7 ho
  have hpb:=e.plt
  have hfb:=e.flt
  have hobj:=e.obj
  rw[hs]at hpb hfb
  have hbuf:=e.buf.frame (s':=ext s [R 65 0 false (BG S u),vb,.map 3 (A6 ks),R 70 0 false (BH S u (nid b 2)),R 70 16 false (BH S u (nid b 2))]) (by rw[Wm,AF];omega) (fun j hj=>Wh (e.buf.lt j hj))
  have hsrc:CU Tryz.prog (ext s [R 65 0 false (BG S u),vb,.map 3 (A6 ks),R 70 0 false (BH S u (nid b 2)),R 70 16 false (BH S u (nid b 2))]) 70 16 (.slice (some (nid b 4,0)) 1 (some 1))=some (1,BH S u (nid b 2)):=by
    show(JR _ (nid b 4) 0 1 16).bind _=_
    rw[HP (l:=BH S u (nid b 2)) (by rw[EY,Wg hs (by simp)];show BF (some (R 70 16 false (BH S u (nid b 2)))) _ _=_;rw[Wj (by rw[EA ho];exact cJ _),cM,dD (by rw[EA ho];exact cJ _)])]
    rfl
  have hac:Aa (BH S u (nid b 2))=true:=by
    simp only[BH,BG,hc,cO,cL,Aa,d0,d1,d2,d3,d4,d5,d6,Xl,Xm,Xo,Bool.and_self]
  obtain⟨v',s2,O2,happ,hb2,hn2,hf2,hO2,hsl⟩:=hbuf.append (xt:=59) Tryz.underlying59 K3 bI (by omega) (by kernel_rfl) Tj (by omega) hsrc (by rw[EA ho]) hac (by omega) (by omega)
  have hv2:∃a c,v'=.slice a (S.length+1) c:=let ⟨a,c,h,_⟩:=hb2.slice;⟨a,c,h⟩
  obtain⟨av,cv,rfl⟩:=hv2
  have hnx:(ext s [R 65 0 false (BG S u),vb,.map 3 (A6 ks),R 70 0 false (BH S u (nid b 2)),R 70 16 false (BH S u (nid b 2))]).next=b+5:=by rw[Wm,AF,hs];rfl
  rw[hnx]at hn2 hf2 hO2 hsl
  have hOT:∀j∈OT,j<b:=fun j hj=>by have:=e.buf.lt j hj;omega
  have g0:s2.heap.get (nid b 0)=some (R 65 0 false (BG S u)):=by
    rw[hf2 _ (by rw[AF];omega) (fun h=>by have:=hOT _ h;rw[AF]at this;omega),Wg hs (by simp)];rfl
  have g2:s2.heap.get (nid b 2)=some (.map 3 (A6 ks)):=by
    rw[hf2 _ (by rw[AF];omega) (fun h=>by have:=hOT _ h;rw[AF]at this;omega),Wg hs (by simp)];rfl
  have gold:∀j,j<b→j ∉ OT→s2.heap.get j=s.heap.get j:=fun j h1 h2=>by
    rw[hf2 j (by omega) h2,Wh (by omega)]
  have gp:s2.heap.get p=some (R 62 0 false [tv,.map (some fi)]):=by rw[gold p hpb e.pO];exact hobj
  have gf:s2.heap.get fi=some (.map 65 (CQ S)):=by rw[gold fi hfb e.fO];exact e.fnd
  have hu2:BH S u (nid b 2)=[iv u.kind,iv u.id,iv (part S u 0),iv (part S u 1),iv (part S u 2),.str u.ktext,c0,c1,c2,c3,c4,c5,c6,iv (u.kids.length:Int),iv (u.sz:Int),.map (some (nid b 2))]:=by
    simp only[BH,BG,hc,cO,cL]
  rw[hu2]at happ ⊢
  have hfp:fi≠p:=Ne.symm e.pf
  have hp0:nid b 0≠p:=by rw[AF];omega
  have hup:=K6 (s:=setObj s2 p (R 62 0 false [.slice av (S.length+1) cv,.map (some fi)])) (fi:=fi) (u:=u) (by rw[Wr _ hfp];exact gf) hS hsm hk ho hu
  have hsub:i64 (((S.length+1:Nat):Int) - 1):=by unfold i64;omega
  have hsub2:((S.length+1:Nat):Int) - 1=(S.length:Int):=by omega
  have g0:s2.heap.get (nid b 0)=some (R 65 0 false [iv u.kind,iv u.id,iv (part S u 0),iv (part S u 1),iv (part S u 2),.str u.ktext]):=g0
  simp only[BG]at hup happ
  simp only[BG,KT,KU,KW,Qa,Qb,Qc,Qd,Qe,Qf,Qg,Qh,Qi,Qj,Qk,Ql,Qm,Qn,true_and,and_true,Qo,Qp,Qq,Qr,Qs,Qt,Qu,Qv,Qw,Qx,Qy,Qz,Ra,Rb,Rc,Rd,Re,Rf,Rg,Rh,Ri,Rj,Rk,Rl,Rm,Ya,Yb,Yc,Rn,Ro,Xv,Yd,Ye,Rq,Rs,Rt,Ru,Rw,Rx,Ry,G8,SM,hpb,hobj,hs,Om,Zr,YH,ZV,bS,To,K3,Ph,happ,gp,hfp,hp0,g0,Af Tryz.underlying59,FM _ _ _ _ hsub,hsub2,hup,Ne.symm hfp,ne_eq,not_false_eq_true,not_true,Rz,Wa,Wb,Wc,Wd,We,Wf,Wg,Wh,Wi,Wj,Wl,Wm,Wn,Wp,Wq,Wr,Ws,Wt,Wu,Wv,Ww,Wx,Wy,Wz,Xa,Xb,Xc,Xd,Xe,Xf,Xg,Xh,Xi,Xj,Xk,Xl,Xm,Xn,Xo,Xp,Xq,Xr,cN,cP,cO,cL,cQ,cR,List.getElem?_cons_zero,List.getElem?_cons_succ,cM,cT,cU,cV,cK,Nat.reduceAdd,Nat.reduceLT,Nat.reduceLeDiff,decide_true,decide_false,Bool.true_and,Bool.and_true,cW,cJ,Option.some.injEq,Xs,Xt,Xu,Xv]
  have hok:=hS.push hu hk ho
  have hlen:(S++[u]).length=S.length+1:=by simp
  have hin:∀j,j∈O↔j=p∨j=fi∨j∈OT∨j∈vm:=fun j=>by rw[e.eq];simp
  have hpO2:p ∉ O2:=fun h=>(hO2 p h).elim e.pO (fun h=>by omega)
  have hfO2:fi ∉ O2:=fun h=>(hO2 fi h).elim e.fO (fun h=>by omega)
  have hget:∀j,j≠p→j≠fi→(setObj (setObj s2 p (R 62 0 false [.slice av (S.length+1) cv,.map (some fi)])) fi (.map 65 (CQ (S++[u])))).heap.get j=s2.heap.get j:=fun j h1 h2=>by
    rw[Wr _ h2,Wr _ h1]
  refine hK _ (p::fi::(O2++(vm++[nid b 2]))) ⟨hok,by omega,.slice av (S.length+1) cv,fi,vm++[nid b 2],O2,?_,?_,Wq _ _ _,by rw[dC,e.vml,hlen];rfl,?_,rfl,?_,?_,e.pf,hpO2,hfO2⟩ ⟨?_,?_⟩ ?_
  · rw[Wr _ (Ne.symm hfp),Wq]
  · rw [hlen, Fh            S vm e.vml.symm (fun t ht k hkk => (hS.kid ht hkk).1) hk]
    refine hb2.frame (cJ _) fun j hj=>hget j (fun h=>hpO2 (h▸hj)) (fun h=>hfO2 (h▸hj))
  · intro i t m hi hm
    have hnx2:(setObj (setObj s2 p (R 62 0 false [.slice av (S.length+1) cv,.map (some fi)])) fi (.map 65 (CQ (S++[u])))).next=b+6:=by rw[Wp,Wp,hn2]
    rw[hnx2]
    rcases cZ i S.length with hl | hl
    · rw [dA                        hl] at hi
      rw[dA (by rw[e.vml];exact hl)]at hm
      obtain⟨h1,h2,h3⟩:=e.vars i t m hi hm
      have hmp:m≠p:=fun h=>h3 (by simp[h])
      have hmf:m≠fi:=fun h=>h3 (by simp[h])
      have hmT:m ∉ OT:=fun h=>h3 (by simp[h])
      refine⟨h1.frame (by rw[hget m hmp hmf,gold m (by omega) hmT]),by omega,fun h=>?_⟩
      rcases dE.1 h with h | h
      · exact hmp h
      · rcases dE.1            h with h | h
        · exact hmf h
        · rcases hO2 m h with h | h
          · exact hmT h
          · omega
    · have hi2:i<(S++[u]).length:=by
        rcases cZ i (S++[u]).length with h' | h'
        · exact h'
        · rw[cm h']at hi;cases hi
      have hi3:i=S.length:=by omega
      subst hi3
      have ht:t=u:=by simpa using hi.symm
      rw[dB (by rw[e.vml];exact cJ _),e.vml,Nat.sub_self]at hm
      have hm:m=nid b 2:=by simpa using hm.symm
      subst ht;subst hm
      have hlt2:nid b 2<b+6∧b≤nid b 2∧nid b 2<b+5:=by rw[AF];omega
      refine⟨⟨ks,by rw[hget _ (by omega) (by omega)];exact g2,hkn,hkx,?_⟩,hlt2.1,fun h=>?_⟩
      · have:=Tg hok (dI _ (List.mem_singleton.2 rfl)) hkn (fun x hx=>(hkx x).1 hx)
        omega
      · rcases dE.1            h with h | h
        · omega
        · rcases dE.1            h with h | h
          · omega
          · rcases hO2 _ h with h | h
            · have:=hOT _ h;omega
            · omega
  · rw[Wp,Wp];omega
  · rw[Wp,Wp];omega
  · rw[Wp,Wp];omega
  · intro j hj hjO
    rw[hin]at hjO
    rw[hget j (fun h=>hjO (.inl h)) (fun h=>hjO (.inr (.inl h))),gold j (by omega) (fun h=>hjO (.inr (.inr (.inl h))))]
  · intro j hj
    rw[hin]
    rcases dE.1 hj with h | h
    · exact .inl (.inl h)
    · rcases dE.1            h with h | h
      · exact .inl (.inr (.inl h))
      · rcases List.mem_append.1 h with h | h
        · rcases hO2 _ h with h | h
          · exact .inl (.inr (.inr (.inl h)))
          · exact .inr (by omega)
        · rcases List.mem_append.1 h with h | h
          · exact .inl (.inr (.inr (.inr h)))
          · have h:=List.mem_singleton.1 h
            refine .inr ?_
            rw[h,AF];omega
end
end
end Go.Proofs.YtickdehehcmfbaaGreatDoor.Am
